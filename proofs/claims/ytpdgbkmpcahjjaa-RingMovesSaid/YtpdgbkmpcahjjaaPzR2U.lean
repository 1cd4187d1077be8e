/- The law RingMoves: the walk. -/
import Derived.Test.YtpdgbkmpcahjjaaPzR2T
set_option linter.unusedVariables false
set_option linter.unusedSimpArgs false
set_option maxRecDepth 100000
namespace Go.Proofs.PxR2
open Go Go.Px Go.Proofs

theorem rem8 (n : Nat) : intBin .rem .u8 (n : Int) 8 = some (.int .u8 ((n % 8 : Nat) : Int)) := by
  have h : (n : Int).tmod 8 = ((n % 8 : Nat) : Int) := by
    rw [Int.tmod_eq_emod_of_nonneg (by omega)]; omega
  simp [intBin]
  rw [h]; omega

theorem OwnJ.fr {H H' : Heap} {v : AV} {out : List Int} {fr : Bool} (h : OwnJ H v out fr) (hf : ∀ (i : Nat) (o : AO), H[i]? = some o → H'[i]? = some o) : OwnJ H' v out fr := by
  rcases h with h | ⟨hne, nm, e, hr⟩
  · exact .inl h
  · exact .inr ⟨hne, nm, e, hf nm _ hr⟩
theorem c19J {k : Nat} (Y : YE) (H : Heap) (l out : List Int) (f fr : Bool) (z : AV) (hz : OwnJ H z out fr) (hk : l.length < k) (hl : l.length < 1000000) :
    ∃ a, CY (k + 1) Y (.func 19) [.sl l.length (l.map iV) f, z] (rep H) = some (.bool (decide (l = out)), rep H, a) := by
  obtain ⟨fl, nss, hzz, hcase⟩ := hz.fz
  have hzl : fzL (fzG E1 (rep H).get fzDeep) [.sl l.length (l.map iV) f, z] = some ([.sl l.length (l.map iV) f, .sl out.length (out.map iV) fl], nss) := by
    have h1 : fzG E1 (rep H).get fzDeep (.sl l.length (l.map iV) f) = some (.sl l.length (l.map iV) f, []) := rfl
    simp only [fzL, h1, hzz, Option.bind_eq_bind, Option.bind_some]
    show some (_, [] ++ (nss ++ [])) = _
    simp
  have h := call_pure (E := E1) (GE := GE E1) (LZ := LZ E1) (Y := Y) (T := rep H) (f := 19) (zf := G19 E1) (args := [.sl l.length (l.map iV) f, z]) (fargs := [.sl l.length (l.map iV) f, .sl out.length (out.map iV) fl]) (ns := nss) (ns2 := []) rfl rfl hzl (same19 _ _ _ l out f fl _ hk hl) rfl
  exact ⟨_, h⟩

/-- One node more, behind the others or ahead of them. -/
theorem make_b (call : CallTT) (M : MV) (H : Heap) (va : AV) (a : List Int) (ha : OwnJ H va a false) (hl : a.length ≤ 8) :
    ∃ H' vb bl L', OwnJ H' va a false ∧ OwnJ H' vb bl false ∧ (bl = a ++ [(M.kk : Int)] ∨ bl = (M.kk : Int) :: a) ∧ ∀ (kn : KB) (kx : Nat → KB) (kr : KB) (L0 : List AV),
      (zReg fun k => (zStep E1 call ⟨.append 32 32 (.k (.sl 0 [] true)) (.v 5), .push, none, false, 1, (some 0)⟩) ((zStep E1 call ⟨.buildSlice 32 1 [(0, (.v 4))], .push, none, false, 3, (some 1)⟩) ((zStep E1 call ⟨.append 32 32 (.l 1) (.l 0), .push, none, false, 4, (some 2)⟩) ((zV 7 (vMv (.l 0))) k))))
        ((zSeq (zReg fun k => k) (zCond (.v 6) (zReg fun k => (zStep E1 call ⟨.buildSlice 32 1 [(0, (.v 4))], .push, none, false, 1, (some 0)⟩) ((zStep E1 call ⟨.append 32 32 (.l 0) (.v 5), .push, none, false, 3, (some 1)⟩) ((zV 7 (vMv (.l 0))) k))) zSkip)) kn kx kr) kx kr L0 (VM M (iV 8) va nl U U U U U U U U) (rep H) = kn L' (VM M (iV 8) va vb U U U U U U U U) (rep H') := by
  obtain ⟨H2, c, e2, hoc, fr2⟩ := copyJ call 1 (.v 5) (some 0) H va a false [] (VM M (iV 8) va nl U U U U U U U U) rfl (by omega) ha
  have ha2 := ha.fr fun i o hi => (fr2 i o hi).1
  obtain ⟨H3, u, e3, hou, fr3⟩ := oneJ call 3 (.v 4) (some 1) H2 M.kk [c] (VM M (iV 8) va nl U U U U U U U U) rfl
  have hoc3 := hoc.fr fun i o hi => (fr3 i o hi).1
  have ha3 := ha2.fr fun i o hi => (fr3 i o hi).1
  obtain ⟨H4, v4, e4, ho4, fr4⟩ := catJ call 4 (.l 1) (.l 0) (some 2) H3 c u a [(M.kk : Int)] false [u, c] (VM M (iV 8) va nl U U U U U U U U) rfl rfl (by simp; omega) hoc3 hou
  have ha4 : OwnJ H4 va a false := by
    rcases ha with h | ⟨hne, nm, e, hr⟩
    · exact .inl h
    · exact .inr ⟨hne, nm, e, (fr4 nm _ (fr2 nm _ hr).2 (fr3 nm _ (fr2 nm _ hr).1).1).1⟩
  cases hb : M.back with
  | false =>
    refine ⟨H4, v4, a ++ [(M.kk : Int)], [], ha4, ho4, .inl rfl, fun kn kx kr L0 => ?_⟩
    refine zReg_eq.trans ?_
    refine (e2 _).trans ?_
    refine (e3 _).trans ?_
    refine (e4 _).trans ?_
    refine (zV_v vMv_eq).trans ?_
    refine zSeq_app.trans ?_
    refine zReg_eq.trans ?_
    refine (zCond_eq (p := false) (by show AV.bool M.back = _; rw [hb])).trans ?_
    rw [if_neg (by decide)]
    exact zSkip_app
  | true =>
    obtain ⟨H5, w, e5, how, fr5⟩ := oneJ call 1 (.v 4) (some 0) H4 M.kk [] (VM M (iV 8) va v4 U U U U U U U U) rfl
    have ha5 := ha4.fr fun i o hi => (fr5 i o hi).1
    obtain ⟨H6, v6, e6, ho6, fr6⟩ := catJ call 3 (.l 0) (.v 5) (some 1) H5 w va [(M.kk : Int)] a false [w] (VM M (iV 8) va v4 U U U U U U U U) rfl rfl (by simp; omega) how ha5
    have ha6 : OwnJ H6 va a false := by
      rcases ha4 with h | ⟨hne, nm, e, hr⟩
      · exact .inl h
      · exact .inr ⟨hne, nm, e, (fr6 nm _ (fr5 nm _ hr).2 (fr5 nm _ hr).1).1⟩
    refine ⟨H6, v6, (M.kk : Int) :: a, [v6, w], ha6, ho6, .inr rfl, fun kn kx kr L0 => ?_⟩
    refine zReg_eq.trans ?_
    refine (e2 _).trans ?_
    refine (e3 _).trans ?_
    refine (e4 _).trans ?_
    refine (zV_v vMv_eq).trans ?_
    refine zSeq_app.trans ?_
    refine zReg_eq.trans ?_
    refine (zCond_eq (p := true) (by show AV.bool M.back = _; rw [hb])).trans ?_
    rw [if_pos rfl]
    refine zReg_eq.trans ?_
    refine (e5 _).trans ?_
    refine (e6 _).trans ?_
    exact zV_v vMv_eq
end Go.Proofs.PxR2
