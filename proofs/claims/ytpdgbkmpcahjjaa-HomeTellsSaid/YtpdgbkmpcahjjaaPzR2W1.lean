/- The way round the ring: one round of each of its two loops over functions. -/
import Derived.Test.YtpdgbkmpcahjjaaPzR2B
import Derived.Test.YtpdgbkmpcahjjaaPb4
set_option linter.unusedVariables false
set_option linter.unusedSimpArgs false
set_option maxRecDepth 100000
namespace Go.Proofs.PxR2
open Go Go.Px Go.Proofs
def iV (n : Int) : AV := .int .i64 n
def OwnI (H : Heap) (v : AV) (out : List Int) : Prop := (out = [] ∧ v = .sl 0 [] true) ∨ (out ≠ [] ∧ ∃ nm, 5 < nm ∧ v = .own nm 0 out.length 1 ∧ H[nm]? = some (.row 3 (out.map iV) false))
def seenE (l : List Int) : List (AV × AV) := l.map fun n => (iV n, .bool true)
structure WS (H : Heap) (s1 s5 : LoopState) (out seen : List Int) : Prop where
  h0 : ∃ v, H[0]? = some (.row 32 [v] false) ∧ OwnI H v out
  h1 : ∃ tm ps a b, H[1]? = some (.loop s1 none tm ps a b)
  h2 : H[2]? = some (.row 99 [.yield 1] false)
  h3 : ∃ bs ck, H[3]? = some (.map 3 4 (seenE seen) bs ck)
  h4 : H[4]? = some (.row 100 [.map 3] false)
  h5 : ∃ tm ps a b, H[5]? = some (.loop s5 none tm ps a b)
theorem row32 : RowT E1 32 3 1 8 := ⟨⟨_, rfl, rfl⟩, ⟨_, rfl, rfl, rfl⟩, by decide, by decide⟩
theorem z3 : ∃ ie, E1.ty 3 = some ie ∧ ie.zero.length = 1 := ⟨_, rfl, rfl⟩
theorem len_of {H : Heap} {i : Nat} {o : AO} (h : H[i]? = some o) : i < H.length := (List.getElem?_eq_some_iff.1 h).1
theorem get_app {H X : Heap} {i : Nat} {o : AO} (h : H[i]? = some o) : (H ++ X)[i]? = some o := by rw [List.getElem?_append_left (len_of h)]; exact h
theorem get_set {H : Heap} {i j : Nat} {o o' : AO} (h : H[i]? = some o) (hj : j ≠ i) : (H.set j o')[i]? = some o := by rw [List.getElem?_set_ne hj]; exact h
theorem get_self {H : Heap} {i : Nat} {o o' : AO} (h : H[i]? = some o) : (H.set i o')[i]? = some o' := List.getElem?_set_self (len_of h)
theorem get_last {H : Heap} {o : AO} : (H ++ [o])[H.length]? = some o := by simp
theorem push_out (call : CallTT) (H : Heap) (v : AV) (out : List Int) (n : Int) (V : List AV) (hV1 : V[1]? = some (.loc 0 0)) (hV2 : V[2]? = some (iV n)) (hlen : out.length < 1000) (h0 : H[0]? = some (.row 32 [v] false)) (ho : OwnI H v out) (h5 : 5 < H.length) :
    ∃ L' H' v', (∀ K, (zL 1 false (.v 1)) ((zStep E1 call ⟨.buildSlice 32 1 [(0, (.v 2))], .push, none, false, 2, (some 0)⟩) ((zStep E1 call ⟨.append 32 32 (.l 1) (.l 0), .push, none, false, 3, (some 1)⟩) ((zStep E1 call ⟨.store 32 (.v 1) (.l 0), .none, none, false, 4, none⟩) K))) [] V (rep H) = K L' V (rep H')) ∧
      H'[0]? = some (.row 32 [v'] false) ∧ OwnI H' v' (out ++ [n]) ∧ (∀ i o, 0 < i → i ≤ 5 → H[i]? = some o → H'[i]? = some o) ∧ 5 < H'.length := by
  have g1 : ∀ L : List AV, gO L V (.v 1) = .loc 0 0 := fun L => by simp [gO, hV1]
  have g2 : ∀ L : List AV, gO L V (.v 2) = iV n := fun L => by simp [gO, hV2]
  obtain ⟨H1, eH1⟩ : ∃ H1, H1 = H ++ [AO.row 3 [iV n] false] := ⟨_, rfl⟩
  have hr : H1[H.length]? = some (.row 3 [iV n] false) := by rw [eH1]; exact get_last
  have h01 : H1[0]? = some (.row 32 [v] false) := by rw [eH1]; exact get_app h0
  have hl1 : H1.length = H.length + 1 := by rw [eH1]; simp
  rcases ho with ⟨rfl, rfl⟩ | ⟨hne, nm, hnm, rfl, hrow⟩
  · refine ⟨[.own H1.length 0 1 1, .own H.length 0 1 1, .sl 0 [] true], (H1 ++ [AO.row 3 [iV n] false]).set 0 (.row 32 [.own H1.length 0 1 1] false), .own H1.length 0 1 1, fun K => ?_, ?_, ?_, ?_, ?_⟩
    · refine (zL_v (wLoad_loc (g1 _) h0 (by simp) rfl)).trans ?_
      refine (zStep_newH rfl (buildOne row32 (g2 _) rfl z3 (by decide))).trans ?_
      show zStep E1 call _ _ _ _ (rep (H ++ [AO.row 3 [iV n] false])) = _
      rw [← eH1]
      refine (zStep_newH rfl (append_firstG (cs := [iV n]) row32 rfl rfl hr rfl (by decide) (by decide))).trans ?_
      exact zStep_putH rfl (store_one (nm := 0) ⟨_, rfl, rfl⟩ (g1 _) (get_app h01) rfl rfl)
    · exact get_self (get_app h01)
    · exact .inr ⟨by simp, H1.length, by omega, rfl, get_set get_last (by omega)⟩
    · intro i o hi h6 hio
      rw [eH1]
      exact get_set (get_app (get_app hio)) (by omega)
    · simp; omega
  · have hl := len_of hrow
    have hrow1 : H1[nm]? = some (.row 3 (out.map iV) false) := by rw [eH1]; exact get_app hrow
    have h00 : (H1.set nm .dead)[0]? = some (.row 32 [.own nm 0 out.length 1] false) := get_set h01 (by omega)
    refine ⟨[.own H1.length 0 (out.length + 1) 1, .own H.length 0 1 1, .own nm 0 out.length 1], (H1.set nm .dead ++ [AO.row 3 (out.map iV ++ [iV n]) false]).set 0 (.row 32 [.own H1.length 0 (out.length + 1) 1] false), .own H1.length 0 (out.length + 1) 1, fun K => ?_, ?_, ?_, ?_, ?_⟩
    · refine (zL_v (wLoad_loc (g1 _) h0 (by simp) rfl)).trans ?_
      refine (zStep_newH rfl (buildOne row32 (g2 _) rfl z3 (by decide))).trans ?_
      show zStep E1 call _ _ _ _ (rep (H ++ [AO.row 3 [iV n] false])) = _
      rw [← eH1]
      refine (zStep_appH rfl (append_nextG (cs := [iV n]) (cs0 := out.map iV) row32 rfl hrow1 (by simp) rfl hr rfl (by decide) (by omega))).trans ?_
      exact zStep_putH rfl (store_one (nm := 0) ⟨_, rfl, rfl⟩ (g1 _) (get_app h00) rfl rfl)
    · exact get_self (get_app h00)
    · refine .inr ⟨by simp, H1.length, by omega, by simp, ?_⟩
      have := get_last (H := H1.set nm .dead) (o := AO.row 3 (out.map iV ++ [iV n]) false)
      rw [List.length_set] at this
      rw [List.map_append]
      exact get_set this (by omega)
    · intro i o hi h6 hio
      rw [eH1]
      exact get_set (get_app (get_set (get_app hio) (by omega))) (by omega)
    · simp; omega
theorem round1 (k : Nat) (Y : YE) (hY : YE.at Y 1 = some ⟨1, 0, [.undef, .loc 0 0, .undef]⟩) (H : Heap) (s5 : LoopState) (out seen : List Int) (n : Int) (hlen : out.length < 1000) (W : WS H .ready s5 out seen) :
    ∃ H' a, CY (k + 1) Y (.yield 1) [iV n] (rep H) = some (.bool true, rep H', a) ∧ WS H' .ready s5 (out ++ [n]) seen := by
  obtain ⟨v, h0, ho⟩ := W.h0
  obtain ⟨tm, ps, ca, cb, h1⟩ := W.h1
  obtain ⟨bs, ck, h3⟩ := W.h3
  obtain ⟨tm5, ps5, ca5, cb5, h5⟩ := W.h5
  have hH1 : (H.set 1 (AO.loop .busy none tm ps ca cb))[0]? = some (.row 32 [v] false) := get_set h0 (by decide)
  have ho1 : OwnI (H.set 1 (AO.loop .busy none tm ps ca cb)) v out := by
    rcases ho with ho | ⟨hne, nm, hnm, e, hr⟩
    · exact .inl ho
    · exact .inr ⟨hne, nm, hnm, e, get_set hr (by omega)⟩
  obtain ⟨L', H2, v', e2, a1, a2, a3, a4⟩ := push_out (CY k Y) (H.set 1 (AO.loop .busy none tm ps ca cb)) v out n [iV n, .loc 0 0, iV n] rfl rfl hlen hH1 ho1 (by simpa using len_of h5)
  have b1 := a3 1 _ (by decide) (by decide) (get_self h1)
  obtain ⟨acc, hr⟩ := round_eq (cy := CY k) (Y := Y) (k := k) (l := 1) (zl := M0 E1) (V := [.undef, .loc 0 0, .undef]) (args := [iV n]) (H1 := H) (H2 := H2) (V1 := [iV n, .loc 0 0, iV n]) h1 rfl (fun kn kx kr => ⟨[], by
      unfold M0
      dsimp only
      refine zReg_eq.trans ?_
      exact zV_v vMv_eq⟩) h1 (fun kn kx kr => ⟨L', [iV n, .loc 0 0, iV n], by
      unfold M0
      dsimp only
      refine zBlock_app.trans ?_
      refine zReg_eq.trans ?_
      exact e2 kn⟩) b1
  obtain ⟨a, h⟩ := call_round (E := E1) (GE := GE E1) (LZ := LZ E1) (zl := M0 E1) hY rfl ⟨acc, hr⟩
  refine ⟨_, a, h, ⟨⟨v', get_set a1 (by decide), ?_⟩, ⟨tm, ps, ca, cb, get_self b1⟩, get_set (a3 2 _ (by decide) (by decide) (get_set W.h2 (by decide))) (by decide), ⟨bs, ck, get_set (a3 3 _ (by decide) (by decide) (get_set h3 (by decide))) (by decide)⟩, get_set (a3 4 _ (by decide) (by decide) (get_set W.h4 (by decide))) (by decide), ⟨tm5, ps5, ca5, cb5, get_set (a3 5 _ (by decide) (by decide) (get_set h5 (by decide))) (by decide)⟩⟩⟩
  rcases a2 with a2 | ⟨hne, nm, hnm, e, hr⟩
  · exact .inl a2
  · exact .inr ⟨hne, nm, hnm, e, get_set hr (by omega)⟩
end Go.Proofs.PxR2
