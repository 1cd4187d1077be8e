/- The reference's way round the ring: a mark is made, and laid. -/
import Derived.Test.YtpdgbkmpcahjjaaPzR2X2
set_option linter.unusedVariables false
set_option linter.unusedSimpArgs false
set_option maxRecDepth 100000
namespace Go.Proofs.PxR2
open Go Go.Px Go.Proofs
theorem row83 : RowT E1 83 85 2 16 := ⟨⟨_, rfl, rfl⟩, ⟨_, rfl, rfl, rfl⟩, by decide, by decide⟩
theorem z85 : ∃ ie, E1.ty 85 = some ie ∧ ie.zero.length = 2 := ⟨_, rfl, rfl⟩
theorem build85 {L V : List AV} {H : Heap} {a b : O} {x n : Int} (ha : gO L V a = .int .u64 x) (hb : gO L V b = iV n) : evalFA E1 L V H (.build 85 [(0, a), (1, b)]) = some (.val (.agg [.int .u64 x, iV n]), Acc.none) := by
  have h1 : E1.ty 85 = some ⟨.struct [(0, 40), (1, 3)], 2, 16, [.int .u64 0, .int .i64 0]⟩ := rfl
  have h2 : E1.ty 40 = some ⟨.int .u64, 1, 8, [.int .u64 0]⟩ := rfl
  have h3 : E1.ty 3 = some ⟨.int .i64, 1, 8, [.int .i64 0]⟩ := rfl
  have hb' : gO L V b = .int .i64 n := hb
  simp [evalFA, buildA, h1, h2, h3, ha, hb', fillA, cellsOf, lay, iV]
theorem alloc85 {L V : List AV} {H : Heap} : evalFA E1 L V H (.alloc 85) = some (.new (.row 85 [.int .u64 0, .int .i64 0] false) (fun nm => .loc nm 0), Acc.none) := rfl
theorem store85 {L V : List AV} {H : Heap} {a b : O} {nm : Nat} {c d : AV} {x y : AV} (ha : gO L V a = .loc nm 0) (hr : H[nm]? = some (.row 85 [c, d] false)) (hb : gO L V b = .agg [x, y]) :
    evalFA E1 L V H (.store 85 a b) = some (.put nm (.row 85 [x, y] false) (.tup []), ⟨[], [nm], false⟩) := by
  have h1 : E1.ty 85 = some ⟨.struct [(0, 40), (1, 3)], 2, 16, [.int .u64 0, .int .i64 0]⟩ := rfl
  simp [evalFA, storeA, h1, ha, hr, hb, cellsOf, lay]
noncomputable def regA (call : CallTT) : CZ := (zDreg 2 fun n0 k => (zPD (vIndexAddr 1 (.v 2) (.v 1))) ((zLD B5 3 1 false (.l 0)) ((zCallD call B5 5 30 [(.l 0), (.v 3)] .push) ((zPD (vInt E1 fSub .sub 40 false false (.l 0) (.v 4))) ((zPD (vIndexAddr 1 (.v 2) (.v 1))) ((zLD B5 11 1 false (.l 0)) ((zStepD E1 call B5 n0 ⟨.build 85 [(0, (.l 2)), (1, (.l 0))], .push, none, false, 12, none⟩) ((zStepD E1 call B5 n0 ⟨.alloc 85, (.var 7), none, false, 13, (some 1)⟩) ((zStepD E1 call B5 n0 ⟨.store 85 (.v 7) (.l 0), .none, none, false, 14, none⟩) k)))))))))
theorem makeSpot (k : Nat) (hk : 202 ≤ k) (Y : YE) (key : List Nat) (ns : List Int) (fl : Bool) (i kk fr : Nat) (n : Int) (hfr : fr < 18446744073709551616) (j v6 s0 i2 out : AV) (H : Heap) (hi : ns[i]? = some n) (hn : I64 n) (hkk : kk < 100) (L0 : List AV) :
    ∃ L' H', (∀ kn kx kr, regA (CY (k + 1) Y) kn kx kr L0 (VR key (iV i) (.sl ns.length (ns.map iV) fl) (iV kk) (.int .u64 (fr : Int)) j v6 s0 i2 out) (rep H) = kn L' (VR key (iV i) (.sl ns.length (ns.map iV) fl) (iV kk) (.int .u64 (fr : Int)) j v6 (.loc (H.length + 1) 0) i2 out) (rep H')) ∧
      H'[H.length + 1]? = some (.row 85 [.int .u64 ((farN fr (markN n kk) : Nat) : Int), iV n] false) ∧ (∀ (i : Nat) (o : AO), H[i]? = some o → H'[i]? = some o) := by
  have hlt := (List.getElem?_eq_some_iff.1 hi).1
  obtain ⟨H1, eH1⟩ : ∃ H1, H1 = H ++ List.replicate 2 AO.dead := ⟨_, rfl⟩
  have hlen : H1.length = H.length + 2 := by rw [eH1]; simp
  have hc := c30 (k := k) Y (rep H1) n kk hn (by unfold I64; omega) hk
  have hfw := far_wrap (a := markN n kk) (f := fr) (markN_lt _ _) hfr
  refine ⟨[.agg [.int .u64 ((farN fr (markN n kk) : Nat) : Int), iV n], iV n, .ref (iV n :: (ns.drop (i + 1)).map iV), .int .u64 ((farN fr (markN n kk) : Nat) : Int), .int .u64 (markN n kk : Int), iV n, .ref (iV n :: (ns.drop (i + 1)).map iV)], (H1.set (H.length + 1) (AO.row 85 [.int .u64 0, .int .i64 0] false)).set (H.length + 1) (.row 85 [.int .u64 ((farN fr (markN n kk) : Nat) : Int), iV n] false), fun kn kx kr => ?_, ?_, fun i o h => ?_⟩
  · unfold regA
    refine zDreg_eq.trans ?_
    rw [← eH1]
    refine (zPD_v (vIndexAddr_sl rfl rfl hlt (by simpa using hlt))).trans ?_
    rw [drop_iV hi]
    refine (zLD_idle (wLoad_ref rfl (by simp) rfl) rfl).trans ?_
    refine (zCallD_idle hc rfl).trans ?_
    refine (zPD_v (vInt_eq fSub_ok rfl rfl rfl)).trans ?_
    rw [hfw]
    refine (zPD_v (vIndexAddr_sl rfl rfl hlt (by simpa using hlt))).trans ?_
    rw [drop_iV hi]
    refine (zLD_idle (wLoad_ref rfl (by simp) rfl) rfl).trans ?_
    refine (zStepD_val rfl (build85 rfl rfl) rfl).trans ?_
    refine (zStepD_new rfl rfl alloc85 rfl spOk_nil).trans ?_
    refine (zStepD_put rfl (store85 (nm := H.length + 1) rfl (List.getElem?_set_self (by omega)) rfl) rfl (spOk_bef (by decide) spOk_nil)).trans ?_
    rfl
  · exact List.getElem?_set_self (by simp; omega)
  · have hlt2 := len_of h
    refine get_set (get_set ?_ (by omega)) (by omega)
    rw [eH1]; exact get_app h
noncomputable def regB (call : CallTT) : CZ := (zDreg 4 fun n0 k => (zPD (vMv (.v 6))) ((zStepD E1 call B7 n0 ⟨.slice 83 (.l 0) none (some (.v 5)) none, .push, none, false, 2, none⟩) ((zStepD E1 call B7 n0 ⟨.append 83 83 (.k (.sl 0 [] true)) (.l 0), .push, none, false, 3, (some 0)⟩) ((zLD B7 4 2 true (.v 7)) ((zStepD E1 call B7 n0 ⟨.buildSlice 83 1 [(0, (.l 0))], .push, none, false, 5, (some 1)⟩) ((zStepD E1 call B7 n0 ⟨.append 83 83 (.l 2) (.l 0), .push, none, false, 6, (some 2)⟩) ((zPD (vMv (.v 6))) ((zStepD E1 call B7 n0 ⟨.slice 83 (.l 0) (some (.v 5)) none none, .push, none, false, 9, none⟩) ((zStepD E1 call B7 n0 ⟨.append 83 83 (.l 2) (.l 0), .push, none, false, 10, (some 3)⟩) ((zVD 6 (vMv (.l 0))) k))))))))))
theorem slice_own_hi {L V : List AV} {H : Heap} {a b : O} {nm n h : Nat} (ha : gO L V a = .own nm 0 n 2) (hb : gO L V b = iV (h : Int)) (hh : h ≤ n) : evalFA E1 L V H (.slice 83 a none (some b) none) = some (.val (.own nm 0 h 2), Acc.none) := by
  have h1 : E1.ty 83 = some ⟨.slice 85, 1, 24, [.sl 0 [] true]⟩ := rfl
  have h2 : E1.ty 85 = some ⟨.struct [(0, 40), (1, 3)], 2, 16, [.int .u64 0, .int .i64 0]⟩ := rfl
  have hb' : gO L V b = .int .i64 (h : Int) := hb
  simp [evalFA, sliceA, h1, h2, ha, hb', boundA]
  rw [if_pos (by omega)]
  simp
theorem slice_own_lo {L V : List AV} {H : Heap} {a b : O} {nm n h : Nat} (ha : gO L V a = .own nm 0 n 2) (hb : gO L V b = iV (h : Int)) (hh : h ≤ n) : evalFA E1 L V H (.slice 83 a (some b) none none) = some (.val (.own nm (h * 2) (n - h) 2), Acc.none) := by
  have h1 : E1.ty 83 = some ⟨.slice 85, 1, 24, [.sl 0 [] true]⟩ := rfl
  have h2 : E1.ty 85 = some ⟨.struct [(0, 40), (1, 3)], 2, 16, [.int .u64 0, .int .i64 0]⟩ := rfl
  have hb' : gO L V b = .int .i64 (h : Int) := hb
  simp [evalFA, sliceA, h1, h2, ha, hb', boundA]
  rw [if_pos (by omega)]
  simp
theorem slice_nil_hi {L V : List AV} {H : Heap} {a b : O} (ha : gO L V a = .sl 0 [] true) (hb : gO L V b = iV ((0 : Nat) : Int)) : evalFA E1 L V H (.slice 83 a none (some b) none) = some (.val (.sl 0 [] true), Acc.none) := by
  have h1 : E1.ty 83 = some ⟨.slice 85, 1, 24, [.sl 0 [] true]⟩ := rfl
  have h2 : E1.ty 85 = some ⟨.struct [(0, 40), (1, 3)], 2, 16, [.int .u64 0, .int .i64 0]⟩ := rfl
  have hb' : gO L V b = .int .i64 0 := hb
  simp [evalFA, sliceA, h1, h2, ha, hb', boundA]
theorem slice_nil_lo {L V : List AV} {H : Heap} {a b : O} (ha : gO L V a = .sl 0 [] true) (hb : gO L V b = iV ((0 : Nat) : Int)) : evalFA E1 L V H (.slice 83 a (some b) none none) = some (.val (.sl 0 [] true), Acc.none) := by
  have h1 : E1.ty 83 = some ⟨.slice 85, 1, 24, [.sl 0 [] true]⟩ := rfl
  have h2 : E1.ty 85 = some ⟨.struct [(0, 40), (1, 3)], 2, 16, [.int .u64 0, .int .i64 0]⟩ := rfl
  have hb' : gO L V b = .int .i64 0 := hb
  simp [evalFA, sliceA, h1, h2, ha, hb', boundA]
theorem spot_take : ∀ (l : List Spot) (j : Nat), (spotCells l).take (j * 2) = spotCells (l.take j)
  | [], j => by simp [spotCells]
  | (a, n) :: l, 0 => rfl
  | (a, n) :: l, j + 1 => by
    rw [show (j + 1) * 2 = j * 2 + 1 + 1 by omega]
    simp [spotCells, spot_take l j]
theorem spot_dropC : ∀ (l : List Spot) (j : Nat), (spotCells l).drop (j * 2) = spotCells (l.drop j)
  | [], j => by simp [spotCells]
  | (a, n) :: l, 0 => rfl
  | (a, n) :: l, j + 1 => by
    rw [show (j + 1) * 2 = j * 2 + 1 + 1 by omega]
    simp [spotCells, spot_dropC l j]
theorem meets_apart {a b : Acc} (ha : a.all = false) (hb : b.all = false) (h1 : ∀ x ∈ a.wr, x ∉ b.rd) (h2 : ∀ x ∈ a.wr, x ∉ b.wr) (h3 : ∀ x ∈ b.wr, x ∉ a.rd) : a.meets b = false := by
  have hh : ∀ {p q : List Nat}, (∀ x ∈ p, x ∉ q) → hitL p q = false := fun {p q} h => by
    unfold hitL
    simp only [List.any_eq_false]
    intro x hx hy
    obtain ⟨y, hy1, hy2⟩ := List.any_eq_true.1 hy
    have := Nat.eq_of_beq_eq_true hy2
    subst this
    exact h x hx hy1
  unfold Acc.meets
  simp [ha, hb, hh h1, hh h2, hh h3]
end Go.Proofs.PxR2
