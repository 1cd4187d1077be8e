/- The way round the ring: the loop over the marks. -/
import Derived.Test.YtpdgbkmpcahjjaaPzR2W2
import Derived.Test.YtpdgbkmpcahjjaaPb4
set_option linter.unusedVariables false
set_option linter.unusedSimpArgs false
set_option maxRecDepth 100000
namespace Go.Proofs.PxR2
open Go Go.Px Go.Proofs
theorem WS.app {H : Heap} {s1 s5 : LoopState} {out seen : List Int} (W : WS H s1 s5 out seen) (X : Heap) : WS (H ++ X) s1 s5 out seen := by
  obtain ⟨v, h0, ho⟩ := W.h0
  obtain ⟨tm, ps, ca, cb, h1⟩ := W.h1
  obtain ⟨bs, ck, h3⟩ := W.h3
  obtain ⟨tm5, ps5, ca5, cb5, h5⟩ := W.h5
  refine ⟨⟨v, get_app h0, ?_⟩, ⟨tm, ps, ca, cb, get_app h1⟩, get_app W.h2, ⟨bs, ck, get_app h3⟩, get_app W.h4, ⟨tm5, ps5, ca5, cb5, get_app h5⟩⟩
  rcases ho with ho | ⟨hne, nm, hnm, e, hr⟩
  · exact .inl ho
  · exact .inr ⟨hne, nm, hnm, e, get_app hr⟩
theorem spot_drop : ∀ (l : List Spot) (i : Nat) (a : Nat) (m : Int), l[i]? = some (a, m) → (spotCells l).drop (i * 2) = .int .u64 (a : Int) :: iV m :: (spotCells l).drop (i * 2 + 2)
  | [], i, a, m, h => by simp at h
  | (b, q) :: l, 0, a, m, h => by simp at h; obtain ⟨rfl, rfl⟩ := h; rfl
  | (b, q) :: l, i + 1, a, m, h => by
    have ih := spot_drop l i a m (by simpa using h)
    have e1 : (spotCells ((b, q) :: l)).drop ((i + 1) * 2) = (spotCells l).drop (i * 2) := by
      rw [show (i + 1) * 2 = i * 2 + 1 + 1 by omega]; rfl
    have e2 : (spotCells ((b, q) :: l)).drop ((i + 1) * 2 + 2) = (spotCells l).drop (i * 2 + 2) := by
      rw [show (i + 1) * 2 + 2 = i * 2 + 2 + 1 + 1 by omega]; rfl
    rw [e1, e2, ih]
theorem set_app_last {H : Heap} {o o' : AO} : (H ++ [o]).set H.length o' = H ++ [o'] := by
  rw [List.set_append_right _ _ (Nat.le_refl _)]; simp
noncomputable def body85 (cy : CallYT) (Y : YE) : CZ := (zSeq (zReg fun k => (zP (vInt E1 fLss .lss 3 false false (.v 1) (.v 2))) k)
  (zSeq (zCond (.l 0) zSkip (zExit 0))
  (zSeq (zBlock 1 (zSeq (zReg fun k => (zP (vIndexAddr 2 (.v 3) (.v 1))) ((zL 2 true (.l 0)) ((zStep E1 (cy Y) ⟨.alloc 103, (.var 5), none, false, 2, (some 0)⟩) ((zStep E1 (cy Y) ⟨.store 103 (.v 5) (.l 0), .none, none, false, 3, none⟩) k))))
  (zSeq (zReg fun k => (zP (vFieldAddr 1 (.v 5))) ((zL 1 false (.l 0)) ((zStep E1 (cy Y) ⟨.callv (.v 4) [(.l 0)], .push, none, false, 3, (some 0)⟩) ((zP (vNot (.l 0))) k))))
  (zCond (.l 0) zRet zSkip))))
  (zReg fun k => (zP (vInt E1 fAdd .add 3 false true (.v 1) (.k (.int .i64 1)))) ((zV 1 (vMv (.l 0))) k)))))
theorem alloc103 {L V : List AV} {H : Heap} : evalFA E1 L V H (.alloc 103) = some (.new (.row 103 [.int .u64 0, .int .i64 0] false) (fun nm => .loc nm 0), Acc.none) := rfl
theorem store103 {L V : List AV} {H : Heap} {a b : O} {nm : Nat} {c d : AV} {x y : AV} (ha : gO L V a = .loc nm 0) (hr : H[nm]? = some (.row 103 [c, d] false)) (hb : gO L V b = .agg [x, y]) :
    evalFA E1 L V H (.store 103 a b) = some (.put nm (.row 103 [x, y] false) (.tup []), ⟨[], [nm], false⟩) := by
  have h1 : E1.ty 103 = some ⟨.struct [(0, 40), (1, 3)], 2, 16, [.int .u64 0, .int .i64 0]⟩ := rfl
  simp [evalFA, storeA, h1, ha, hr, hb, cellsOf, lay]
theorem lss_nat {i n : Nat} {k : IntKind} (t : Nat) (E : Env) : intBin .lss k (i : Int) (n : Int) = some (.bool (decide (i < n))) := by
  simp [intBin]
theorem round85 (k : Nat) (Y : YE) (hY1 : YE.at Y 1 = some ⟨1, 0, [.undef, .loc 0 0, .undef]⟩) (hY5 : YE.at Y 5 = some ⟨5, 1, [.undef, .loc 4 0, .undef, .loc 2 0]⟩) (H : Heap) (out : List Int) (hlen : out.length < 1000) (W : WS H .ready .ready out out)
    (l : List Spot) (f : Bool) (i a : Nat) (m : Int) (v0 a5 : AV) (L : List AV) (hi : l[i]? = some (a, m)) (hn : l.length < 1000000) :
    ∃ H' L', (∀ kn kx kr, body85 (CY (k + 2)) Y kn kx kr L [v0, .int .i64 i, .int .i64 l.length, .sl l.length (spotCells l) f, .yield 5, a5] (rep H) = kn L' [v0, .int .i64 (i + 1 : Nat), .int .i64 l.length, .sl l.length (spotCells l) f, .yield 5, .loc H.length 0] (rep H')) ∧ WS H' .ready .ready (metS out m) (metS out m) := by
  have hlt : i < l.length := (List.getElem?_eq_some_iff.1 hi).1
  have hd := spot_drop l i a m hi
  have hcl := spotCells_length l
  obtain ⟨H', ac, hc, W'⟩ := round5 k Y hY1 hY5 (H ++ [.row 103 [.int .u64 (a : Int), iV m] false]) out m hlen (W.app _)
  refine ⟨H', [.int .i64 ((i + 1 : Nat) : Int)], fun kn kx kr => ?_, W'⟩
  have hw : IntKind.i64.wrap ((i : Int) + 1) = ((i + 1 : Nat) : Int) := by rw [IntKind.wrap_i64]; omega
  unfold body85
  refine zSeq_reg.trans ?_
  refine (zP_v (vInt_eq fLss_ok rfl rfl (lss_nat 0 E1))).trans ?_
  rw [show decide (i < l.length) = true by simp [hlt]]
  refine zSeq_app.trans ?_
  refine (zCond_eq (p := true) rfl).trans ?_
  rw [if_pos rfl]
  refine zSkip_app.trans ?_
  refine zSeq_app.trans ?_
  refine zBlock_app.trans ?_
  refine zSeq_reg.trans ?_
  refine (zP_v (vIndexAddr_sl rfl rfl hlt (by omega))).trans ?_
  rw [hd]
  refine (zL_v (wLoad_ref rfl (by simp) rfl)).trans ?_
  refine (zStep_newH rfl alloc103).trans ?_
  refine (zStep_putH rfl (store103 (nm := H.length) rfl get_last rfl)).trans ?_
  rw [set_app_last]
  refine zSeq_reg.trans ?_
  refine (zP_v (vFieldAddr_loc rfl)).trans ?_
  refine (zL_v (wLoad_loc (nm := H.length) (off := 0 + 1) rfl get_last (by simp) rfl)).trans ?_
  refine (zStep_yield rfl rfl hc).trans ?_
  refine (zP_v (vNot_eq (b := true) rfl)).trans ?_
  refine (zCond_eq (p := false) rfl).trans ?_
  rw [if_neg (by decide)]
  refine zSkip_app.trans ?_
  refine zReg_eq.trans ?_
  refine (zP_v (vInt_eq fAdd_ok rfl rfl rfl)).trans ?_
  rw [hw]
  exact zV_v vMv_eq
theorem metS_len (out : List Int) (n : Int) : (metS out n).length ≤ out.length + 1 := by
  unfold metS; split <;> simp
theorem loop85 (k : Nat) (Y : YE) (hY1 : YE.at Y 1 = some ⟨1, 0, [.undef, .loc 0 0, .undef]⟩) (hY5 : YE.at Y 5 = some ⟨5, 1, [.undef, .loc 4 0, .undef, .loc 2 0]⟩) (l : List Spot) (f : Bool) (v0 : AV) (hn : l.length < 500) :
    ∀ (d i q : Nat) (H : Heap) (out : List Int) (a5 : AV) (L : List AV), i + d = l.length → out.length ≤ i → d < q → WS H .ready .ready out out →
    ∃ H' L' a5', (∀ kn kx kr, zLoop q (body85 (CY (k + 2)) Y) kn kx kr L [v0, .int .i64 i, .int .i64 l.length, .sl l.length (spotCells l) f, .yield 5, a5] (rep H) = kx 0 L' [v0, .int .i64 l.length, .int .i64 l.length, .sl l.length (spotCells l) f, .yield 5, a5'] (rep H')) ∧
      WS H' .ready .ready ((l.drop i).foldl (fun o s => metS o s.2) out) ((l.drop i).foldl (fun o s => metS o s.2) out)
  | 0, i, q, H, out, a5, L, hi, ho, hq, W => by
    obtain ⟨q', rfl⟩ : ∃ q', q = q' + 1 := ⟨q - 1, by omega⟩
    have hil : i = l.length := by omega
    subst hil
    refine ⟨H, [.bool false], a5, fun kn kx kr => ?_, by simpa using W⟩
    rw [zLoop_succ]
    unfold body85
    refine zSeq_reg.trans ?_
    refine (zP_v (vInt_eq fLss_ok rfl rfl (lss_nat 0 E1))).trans ?_
    rw [show decide (l.length < l.length) = false by simp]
    refine zSeq_app.trans ?_
    refine (zCond_eq (p := false) rfl).trans ?_
    rw [if_neg (by decide)]
    exact zExit_app
  | d + 1, i, q, H, out, a5, L, hi, ho, hq, W => by
    obtain ⟨q', rfl⟩ : ∃ q', q = q' + 1 := ⟨q - 1, by omega⟩
    have hlt : i < l.length := by omega
    obtain ⟨⟨a, m⟩, hs⟩ : ∃ s, l[i]? = some s := ⟨l[i], by simp [hlt]⟩
    obtain ⟨H1, L1, e1, W1⟩ := round85 k Y hY1 hY5 H out (by omega) W l f i a m v0 a5 L hs (by omega)
    have hm := metS_len out m
    obtain ⟨H2, L2, a52, e2, W2⟩ := loop85 k Y hY1 hY5 l f v0 hn d (i + 1) q' H1 (metS out m) (.loc H.length 0) L1 (by omega) (by omega) (by omega) W1
    refine ⟨H2, L2, a52, fun kn kx kr => ?_, ?_⟩
    · rw [zLoop_succ]
      refine (e1 _ _ _).trans ?_
      exact e2 _ _ _
    · have : l.drop i = (a, m) :: l.drop (i + 1) := by
        rw [List.drop_eq_getElem_cons hlt]
        have := (List.getElem?_eq_some_iff.1 hs).2
        rw [this]
      rw [this]
      exact W2
def walkS (l : List Spot) : List Int := l.foldl (fun o s => metS o s.2) []
theorem call85 (k : Nat) (Y : YE) (hY1 : YE.at Y 1 = some ⟨1, 0, [.undef, .loc 0 0, .undef]⟩) (hY5 : YE.at Y 5 = some ⟨5, 1, [.undef, .loc 4 0, .undef, .loc 2 0]⟩) (l : List Spot) (f : Bool) (hn : l.length < 500) (hk : l.length < k) (H : Heap) (W : WS H .ready .ready [] []) :
    ∃ H' a, CY (k + 3) Y (.func 85) [.yield 5, .ref [.sl l.length (spotCells l) f]] (rep H) = some (.tup [], rep H', a) ∧ WS H' .ready .ready (walkS l) (walkS l) := by
  obtain ⟨H', L', a5', e, W'⟩ := loop85 k Y hY1 hY5 l f (.ref [.sl l.length (spotCells l) f]) hn l.length 0 (k + 2) H [] .undef [] (by omega) (by simp) (by omega) W
  have hb : bodyZ E1 (CY (k + 2)) Y (k + 2) (G85 E1) [.yield 5, .ref [.sl l.length (spotCells l) f]] (rep H) = some (.tup [], rep H') := by
    have e0 : ∀ q, bodyZ E1 (CY (k + 2)) Y q (G85 E1) [.yield 5, .ref [.sl l.length (spotCells l) f]] (rep H) = (G85 E1).z (CY (k + 2)) Y q (finZ E1 []) (fun _ _ _ _ => none) (finZ E1 []) [] [.ref [.sl l.length (spotCells l) f], .undef, .undef, .undef, .yield 5, .undef] (rep H) := by intro q; kernel_rfl
    refine (e0 _).trans ?_
    unfold G85
    dsimp only
    refine zSeq_reg.trans ?_
    refine (zDstW_v (wLoad_ref rfl (by simp) rfl)).trans ?_
    refine (zV_v (vLenL_sl rfl)).trans ?_
    refine (zV_v vMv_eq).trans ?_
    refine zBlock_app.trans ?_
    refine (e _ _ _).trans ?_
    rfl
  obtain ⟨a, h⟩ := call_raw (E := E1) (GE := GE E1) (LZ := LZ E1) (zf := G85 E1) (f := 85) rfl rfl hb
  exact ⟨H', a, h, by simpa [walkS] using W'⟩
end Go.Proofs.PxR2
