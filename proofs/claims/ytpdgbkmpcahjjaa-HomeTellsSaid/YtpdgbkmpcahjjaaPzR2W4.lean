/- The way round the ring: ring.Walk, out of the row of marks. -/
import Derived.Test.YtpdgbkmpcahjjaaPzR2W3
set_option linter.unusedVariables false
set_option linter.unusedSimpArgs false
set_option maxRecDepth 100000
namespace Go.Proofs.PxR2
open Go Go.Px Go.Proofs
theorem WS.s5 {H : Heap} {s1 s5 : LoopState} {out seen : List Int} (W : WS H s1 s5 out seen) {s : LoopState} {tm : List AV} {ps : List Nat} {a b : Code} : WS (H.set 5 (.loop s none tm ps a b)) s1 s out seen := by
  obtain ⟨v, h0, ho⟩ := W.h0
  obtain ⟨tm1, ps1, ca, cb, h1⟩ := W.h1
  obtain ⟨bs, ck, h3⟩ := W.h3
  obtain ⟨tm5, ps5, ca5, cb5, h5⟩ := W.h5
  refine ⟨⟨v, get_set h0 (by decide), ?_⟩, ⟨tm1, ps1, ca, cb, get_set h1 (by decide)⟩, get_set W.h2 (by decide), ⟨bs, ck, get_set h3 (by decide)⟩, get_set W.h4 (by decide), ⟨tm, ps, a, b, get_self h5⟩⟩
  rcases ho with ho | ⟨hne, nm, hnm, e, hr⟩
  · exact .inl ho
  · exact .inr ⟨hne, nm, hnm, e, get_set hr (by omega)⟩
theorem box99 {L V : List AV} {H : Heap} {a : O} (ha : gO L V a = .yield 1) : evalFA E1 L V H (.box 99 a) = some (.new (.row 99 [.yield 1] false) (fun nm => .loc nm 0), Acc.none) := by
  have h1 : E1.ty 99 = some ⟨.func, 1, 8, [.nilFunc]⟩ := rfl
  simp [evalFA, h1, ha, cellsOf]
theorem mk100 {L V : List AV} {H : Heap} : evalFA E1 L V H (.mkMap 100) = some (.new (.map 3 4 [] [] 0) (fun nm => .map nm), Acc.none) := rfl
theorem alloc100 {L V : List AV} {H : Heap} : evalFA E1 L V H (.alloc 100) = some (.new (.row 100 [.nilmap] false) (fun nm => .loc nm 0), Acc.none) := rfl
theorem call82 (k : Nat) (Y : YE) (l : List Spot) (f : Bool) (hn : l.length < 500) (hk : l.length < k) (tm : List AV) (ps : List Nat) (ca cb : Code) :
    ∃ H' a, CY (k + 4) (⟨1, 0, [.undef, .loc 0 0, .undef]⟩ :: Y) (.func 82) [.yield 1, .ref [.clo 85 [.ref [.sl l.length (spotCells l) f]]]] (rep [.row 32 [.sl 0 [] true] false, .loop .ready none tm ps ca cb]) = some (.tup [], rep H', a) ∧ WS H' .ready .exhausted (walkS l) (walkS l) := by
  obtain ⟨H5, eH5⟩ : ∃ H5 : Heap, H5 = [.row 32 [.sl 0 [] true] false, .loop .ready none tm ps ca cb, .row 99 [.yield 1] false, .map 3 4 [] [] 0, .row 100 [.map 3] false] := ⟨_, rfl⟩
  have W0 : ∀ tm5 ps5 a5 b5, WS (H5 ++ [.loop .ready none tm5 ps5 a5 b5]) .ready .ready [] [] := fun tm5 ps5 a5 b5 => by
    rw [eH5]
    exact ⟨⟨_, rfl, .inl ⟨rfl, rfl⟩⟩, ⟨_, _, _, _, rfl⟩, rfl, ⟨_, _, rfl⟩, rfl, ⟨_, _, _, _, rfl⟩⟩
  obtain ⟨H6, a6, hc, W6⟩ := call85 k (⟨5, 1, [.undef, .loc 4 0, .undef, .loc 2 0]⟩ :: ⟨1, 0, [.undef, .loc 0 0, .undef]⟩ :: Y) rfl rfl l f hn hk _ (W0 [.undef, .undef, .loc 2 0, .loc 4 0, .undef, .undef, .undef, .undef, .undef, .undef, .undef, .undef, .undef, .undef, .undef, .undef, .undef, .undef, .undef, .undef] [7] (codeAt [1, 1, 1, 0, 0] (bodyOf Try.f82)) (codeAt [1, 1, 1, 0, 1] (bodyOf Try.f82)))
  obtain ⟨tm6, ps6, ca6, cb6, h6⟩ := W6.h5
  have h5l : H5.length = 5 := by rw [eH5]; rfl
  have hb : bodyZ E1 (CY (k + 3)) (⟨1, 0, [.undef, .loc 0 0, .undef]⟩ :: Y) (k + 3) (G82 E1) [.yield 1, .ref [.clo 85 [.ref [.sl l.length (spotCells l) f]]]] (rep [.row 32 [.sl 0 [] true] false, .loop .ready none tm ps ca cb]) = some (.tup [], rep (H6.set 5 (.loop .exhausted none tm6 ps6 ca6 cb6))) := by
    have e0 : ∀ q T, bodyZ E1 (CY (k + 3)) (⟨1, 0, [.undef, .loc 0 0, .undef]⟩ :: Y) q (G82 E1) [.yield 1, .ref [.clo 85 [.ref [.sl l.length (spotCells l) f]]]] T = (G82 E1).z (CY (k + 3)) (⟨1, 0, [.undef, .loc 0 0, .undef]⟩ :: Y) q (finZ E1 []) (fun _ _ _ _ => none) (finZ E1 []) [] [.yield 1, .ref [.clo 85 [.ref [.sl l.length (spotCells l) f]]], .undef, .undef] T := by intro q T; kernel_rfl
    refine (e0 _ _).trans ?_
    unfold G82
    dsimp only
    refine zSeq_reg.trans ?_
    refine (zStep_newH rfl (box99 rfl)).trans ?_
    refine zSeq_reg.trans ?_
    refine (zStep_newH rfl mk100).trans ?_
    refine (zStep_newH rfl alloc100).trans ?_
    refine (zStep_putH rfl (store_one (nm := 4) (e2 := 100) (c := .nilmap) (v := .map 3) ⟨_, rfl, rfl⟩ rfl rfl rfl rfl)).trans ?_
    refine zSeq_reg.trans ?_
    refine (zL_v (wLoad_ref rfl (by simp) rfl)).trans ?_
    refine zBlock_app.trans ?_
    have hH : ([AO.row 32 [.sl 0 [] true] false, .loop .ready none tm ps ca cb] ++ [AO.row 99 [.yield 1] false] ++ [AO.map 3 4 [] [] 0] ++ [AO.row 100 [.nilmap] false]).set 4 (.row 100 (cellsOf (.map 3)) false) = H5 := by rw [eH5]; rfl
    show zRange _ _ _ _ _ _ _ _ _ _ _ _ _ _ (rep (([AO.row 32 [.sl 0 [] true] false, .loop .ready none tm ps ca cb] ++ [AO.row 99 [.yield 1] false] ++ [AO.map 3 4 [] [] 0] ++ [AO.row 100 [.nilmap] false]).set 4 (.row 100 (cellsOf (.map 3)) false))) = _
    rw [hH]
    refine (zRange_eq (H := H5) (g := 85) (cs := [.ref [.sl l.length (spotCells l) f]]) rfl (by rw [h5l]; exact hc) (by rw [h5l]; exact h6)).trans ?_
    rw [h5l]
    rfl
  obtain ⟨a, h⟩ := call_raw (E := E1) (GE := GE E1) (LZ := LZ E1) (zf := G82 E1) (f := 82) rfl rfl hb
  exact ⟨_, a, h, W6.s5⟩
def outV (out : List Int) : AV := if out = [] then .sl 0 [] true else .sl out.length (out.map iV) false
theorem c69 {k : Nat} (Y : YE) (T : TH) (v : AV) : ∃ a, CY (k + 1) Y (.func 69) [.clo 85 [.ref [v]]] T = some (.clo 82 [.ref [.clo 85 [.ref [v]]]], T, a) := by
  have hb : bodyZ E1 (CY k) [] k (G69 E1) [.clo 85 [.ref [v]]] (rep []) = some (.clo 82 [.loc 0 0], rep [.row 80 [.clo 85 [.ref [v]]] false]) := by
    have e0 : ∀ q T, bodyZ E1 (CY k) [] q (G69 E1) [.clo 85 [.ref [v]]] T = (G69 E1).z (CY k) [] q (finZ E1 [.tmp (.v 2)]) (fun _ _ _ _ => none) (finZ E1 [.tmp (.v 2)]) [] [.clo 85 [.ref [v]], .undef, .undef] T := by intro q T; kernel_rfl
    refine (e0 _ _).trans ?_
    unfold G69
    dsimp only
    refine zSeq_reg.trans ?_
    have hbx : ∀ {L V : List AV} {H : Heap} {a : O}, gO L V a = .clo 85 [.ref [v]] → evalFA E1 L V H (.box 80 a) = some (.new (.row 80 [.clo 85 [.ref [v]]] false) (fun nm => .loc nm 0), Acc.none) := fun {L V H a} ha => by
      have h1 : E1.ty 80 = some ⟨.func, 1, 8, [.nilFunc]⟩ := rfl
      simp [evalFA, h1, ha, cellsOf]
    refine (zStep_newH rfl (hbx rfl)).trans ?_
    refine (zV_v vMv_eq).trans ?_
    refine zSeq_reg.trans ?_
    refine (zStep_valH rfl (x := .clo 82 [.loc 0 0]) (a := Acc.none) rfl).trans ?_
    refine (zV_v vMv_eq).trans ?_
    refine zRet_app.trans ?_
    rfl
  have h := call_pure (E := E1) (GE := GE E1) (LZ := LZ E1) (Y := Y) (T := T) (f := 69) (zf := G69 E1) (args := [.clo 85 [.ref [v]]]) (fargs := [.clo 85 [.ref [v]]]) (ns := []) (r' := .clo 82 [.ref [.clo 85 [.ref [v]]]]) (ns2 := [0]) rfl rfl rfl hb (by rw [show (rep [AO.row 80 [.clo 85 [.ref [v]]] false]).get = fun i => [AO.row 80 [.clo 85 [.ref [v]]] false][i]? from funext (rep_get _)]; rfl)
  exact ⟨_, h⟩
theorem body33 (k : Nat) (nodes : AV) (key : List Nat) (hkey : key.length ≤ 100) (hk : 203 ≤ k) (l : List Spot) (f : Bool) (hn : l.length < 500) (hkl : l.length + 4 < k)
    (h70 : ∃ a, CY k [] (.func 70) [nodes, .int .u64 (placeN key)] (rep [.row 32 [.sl 0 [] true] false]) = some (.clo 85 [.ref [.sl l.length (spotCells l) f]], rep [.row 32 [.sl 0 [] true] false], a)) :
    ∃ v H', bodyZ E1 (CY k) [] k (G33 E1) [nodes, .str key] (rep []) = some (v, rep H') ∧ OwnI H' v (walkS l) := by
  obtain ⟨k4, rfl⟩ : ∃ k4, k = k4 + 4 := ⟨k - 4, by omega⟩
  obtain ⟨a70, h70⟩ := h70
  obtain ⟨a31, h31⟩ := c31 (k := k4 + 3) [] (rep [.row 32 [.sl 0 [] true] false]) key hkey (by omega)
  obtain ⟨a69, h69⟩ := c69 (k := k4 + 3) [] (rep [.row 32 [.sl 0 [] true] false]) (.sl l.length (spotCells l) f)
  obtain ⟨H6, a6, hc, W6⟩ := call82 k4 [] l f hn (by omega) [.undef, .undef, .undef, .undef, .undef, .loc 0 0, .undef, .undef, .undef, .undef, .undef, .undef, .undef, .undef, .undef, .undef, .undef, .undef] [12] (codeAt [1, 1, 0, 1, 0, 0] (bodyOf Try.f33)) (codeAt [1, 1, 0, 1, 0, 1] (bodyOf Try.f33))
  obtain ⟨tm6, ps6, ca6, cb6, h6⟩ := W6.h1
  obtain ⟨v, h0, ho⟩ := W6.h0
  refine ⟨v, H6.set 1 (.loop .exhausted none tm6 ps6 ca6 cb6), ?_, ?_⟩
  · have e0 : ∀ q, bodyZ E1 (CY (k4 + 4)) [] q (G33 E1) [nodes, .str key] (rep []) = (G33 E1).z (CY (k4 + 4)) [] q (finZ E1 [.tmp (.v 3)]) (fun _ _ _ _ => none) (finZ E1 [.tmp (.v 3)]) [] [nodes, .str key, .undef, .undef] (rep []) := by intro q; kernel_rfl
    refine (e0 _).trans ?_
    unfold G33
    dsimp only
    refine zSeq_reg.trans ?_
    refine (zV_v vMv_eq).trans ?_
    refine zSeq_reg.trans ?_
    have al : ∀ {L V : List AV} {H : Heap}, evalFA E1 L V H (.alloc 32) = some (.new (.row 32 [.sl 0 [] true] false) (fun nm => .loc nm 0), Acc.none) := rfl
    refine (zStep_newH rfl al).trans ?_
    refine zSeq_app.trans ?_
    refine zSeq_reg.trans ?_
    refine (zCall_eq h31).trans ?_
    refine (zCall_eq h70).trans ?_
    refine (zCall_eq h69).trans ?_
    refine zBlock_app.trans ?_
    refine (zRange_eq (H := [.row 32 [.sl 0 [] true] false]) (g := 82) (cs := [.ref [.clo 85 [.ref [.sl l.length (spotCells l) f]]]]) rfl hc h6).trans ?_
    refine zSeq_reg.trans ?_
    refine (zL_v (wLoad_loc (nm := 0) (off := 0) rfl (get_set h0 (by decide)) (by simp) rfl)).trans ?_
    refine (zV_v vMv_eq).trans ?_
    refine zRet_app.trans ?_
    rfl
  · rcases ho with ho | ⟨hne, nm, hnm, e, hr⟩
    · exact .inl ho
    · exact .inr ⟨hne, nm, hnm, e, get_set hr (by omega)⟩
end Go.Proofs.PxR2
