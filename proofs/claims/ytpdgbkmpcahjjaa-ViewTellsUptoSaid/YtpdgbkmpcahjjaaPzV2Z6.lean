/- Views: find; Of. -/
import Derived.Test.YtpdgbkmpcahjjaaPzV2Z5
set_option linter.unusedVariables false
set_option linter.unusedSimpArgs false
set_option maxRecDepth 100000
namespace Go.Px
open Go
theorem call_nomark {E : Env} {GE : Nat → Option ZFn} {LZ : Nat → Option ZLn} {k : Nat} {Y : YE} {f : Nat} {zf : ZFn} {args : List AV} {r r' : AV} {T T2 : TH} {ns2 : List Nat} (hG : GE f = some zf) (hp : E.pure f = true) (hz : ∀ g, fzL (fzG E g fzDeep) args = some (args, [])) (hb : bodyZ E (callZ E GE LZ k) [] k zf args (rep []) = some (r, T2)) (hr : fzG E T2.get fzDeep r = some (r', ns2)) :
  callZ E GE LZ (k + 1) Y (.func f) args T = some (r', T, ⟨[], [], false⟩) := by
 have h := call_pure (Y := Y) (T := T) hG hp (hz _) hb hr
 rw [show (if flat r' = true then T else T.marks []) = T by split <;> rfl] at h
 exact h
end Go.Px
namespace Go.Proofs.PxV2
open Go Go.Px Go.Proofs
theorem alloc59 {L V : List AV} {H : Heap} : evalFA E1 L V H (.alloc 59) = some (.new (.row 59 [.str [], .int .u64 0, .int .u64 0] false) (fun nm => .loc nm 0), Acc.none) := rfl
theorem store59 {L V : List AV} {H : Heap} {a b : O} {nm : Nat} {c d e : AV} {x y z : AV} (ha : gO L V a = .loc nm 0) (hr : H[nm]? = some (.row 59 [c, d, e] false)) (hb : gO L V b = .agg [x, y, z]) :
  evalFA E1 L V H (.store 59 a b) = some (.put nm (.row 59 [x, y, z] false) (.tup []), ⟨[], [nm], false⟩) := by
 have h1 : E1.ty 59 = some ⟨.struct [(0, 9), (1, 40), (2, 40)], 3, 32, [.str [], .int .u64 0, .int .u64 0]⟩ := rfl
 simp [evalFA, storeA, h1, ha, hr, hb, cellsOf, lay]
def copA (c : Cop) : AV := .agg [.str c.1, .int .u64 (c.2.1 : Int), .int .u64 (c.2.2 : Int)]
theorem c60 {k : Nat} (Y : YE) (T : TH) (w : VwT) (key : List Nat) (hC : SortedC w.C) (hl : w.C.length < 100000) (hk : w.C.length < k) :
  ∃ c b, CY (k + 5) Y (.func 60) [w.av, .str key] T = some (.tup [copA c, .bool b], T, ⟨[], [], false⟩) ∧ (b = true → w.C.find? (fun c => c.1 == key) = some c) ∧ (b = false → w.C.find? (fun c => c.1 == key) = none) := by
 have hc := c75 (k := k) [] (rep [.row 25 [w.m, w.c] false, .row 59 [.str [], .int .u64 0, .int .u64 0] false]) w key 0 0 hC hl hk
 obtain ⟨h1, h2⟩ := find_pos (key := key) hC
 generalize hitC key w.C = b at hc h1 h2
 generalize posC key w.C = i at hc h1
 have front : ∀ (r : AV × TH), (zSeq (zSeq (zReg fun k => (zP (vNot (.v 3))) k)
 (zCond (.l 0) (zSeq (zReg fun k' => (zStep E1 (CY (k + 4) []) ⟨.build 59 [], .push, none, false, 0, none⟩) ((zStep E1 (CY (k + 4) []) ⟨.store 59 (.v 4) (.l 0), .none, none, false, 1, none⟩) ((zV 6 (vMv (.k (.bool false)))) k')))
 zRet) zSkip))
 (zSeq (zReg fun k' => (zP (vFieldAddr 1 (.v 1))) ((zL 1 false (.l 0)) ((zP (vIndexAddr 3 (.l 0) (.v 5))) ((zL 3 true (.l 0)) ((zStep E1 (CY (k + 4) []) ⟨.store 59 (.v 4) (.l 0), .none, none, false, 5, none⟩) ((zV 6 (vMv (.k (.bool true)))) k'))))))
 zRet)) (finZ E1 [.cell (.v 4) 59, .tmp (.v 6)]) (fun _ _ _ _ => none) (finZ E1 [.cell (.v 4) 59, .tmp (.v 6)]) [.bool b, iV (i : Nat), .tup [iV (i : Nat), .bool b], tgtV key 0 0, w.c, .loc 0 (0 + 1)] [w.av, .loc 0 0, .str key, .bool b, .loc 1 0, iV (i : Nat), .bool false] (rep [.row 25 [w.m, w.c] false, .row 59 [.str [], .int .u64 0, .int .u64 0] false]) = some r → bodyZ E1 (CY (k + 4)) [] (k + 4) (G60 E1) [w.av, .str key] (rep []) = some r := fun r hh => by
  have e0 : ∀ q, bodyZ E1 (CY (k + 4)) [] q (G60 E1) [w.av, .str key] (rep []) = (G60 E1).z (CY (k + 4)) [] q (finZ E1 [.cell (.v 4) 59, .tmp (.v 6)]) (fun _ _ _ _ => none) (finZ E1 [.cell (.v 4) 59, .tmp (.v 6)]) [] [w.av, .undef, .str key, .undef, .undef, .undef, .undef] (rep []) := by intro q; kernel_rfl
  refine (e0 _).trans ?_
  unfold G60
  dsimp only
  refine zqR ?_
  refine (zStep_newH rfl (box25 (x := w.m) (y := w.c) rfl)).trans ?_
  refine (zStep_newH rfl alloc59).trans ?_
  refine zqV <| zqR <| (zP_v (vFieldAddr_loc rfl)).trans <| (zL_v (wLoad_loc (nm := 0) (off := 0 + 1) (cs := [w.m, w.c]) rfl rfl (by simp) rfl)).trans <| (zStep_valH (x := tgtV key 0 0) (a := Acc.none) rfl rfl).trans <| (zCall_eq hc).trans <| (zP_v (vExtract_eq rfl rfl)).trans <| (zP_v (vExtract_eq rfl rfl)).trans <| zqV <| zqV ?_
  exact hh
 cases b with
 | false =>
  refine ⟨([], 0, 0), false, call_nomark (k := k + 4) (ns2 := []) (r := .tup [copA ([], 0, 0), .bool false]) (zf := G60 E1) (T2 := rep [.row 25 [w.m, w.c] false, .row 59 [.str [], .int .u64 0, .int .u64 0] false]) rfl rfl (fun g => flat_view2 w key g) (front _ ?_) rfl, fun h => (by cases h), h2⟩
  refine zqA <| zqR <| (zP_v (vNot_eq (b := false) rfl)).trans <| (zCond_eq (p := true) rfl).trans ?_
  rw [if_pos rfl]
  refine zqR <| (zStep_valH (x := .agg [.str [], .int .u64 0, .int .u64 0]) (a := Acc.none) rfl rfl).trans <| (zStep_putH rfl (store59 (nm := 1) rfl rfl rfl)).trans <| zqV <| zRet_app.trans ?_
  rfl
 | true =>
  obtain ⟨⟨s, n, m⟩, hs, hf⟩ := h1 rfl
  have hlt : i < w.C.length := (List.getElem?_eq_some_iff.1 hs).1
  have hcl := copC_len w.C
  have hdp := cop_drop w.C i s n m hs
  refine ⟨(s, n, m), true, call_nomark (k := k + 4) (ns2 := []) (r := .tup [copA (s, n, m), .bool true]) (zf := G60 E1) (T2 := rep [.row 25 [w.m, w.c] false, .row 59 [.str s, .int .u64 (n : Int), .int .u64 (m : Int)] false]) rfl rfl (fun g => flat_view2 w key g) (front _ ?_) rfl, fun _ => hf, h2⟩
  refine zqA <| zqR <| (zP_v (vNot_eq (b := true) rfl)).trans <| (zCond_eq (p := false) rfl).trans ?_
  rw [if_neg (by decide)]
  refine zqK <| zqR <| (zP_v (vFieldAddr_loc rfl)).trans <| (zL_v (wLoad_loc (nm := 0) (off := 0 + 1) (cs := [w.m, w.c]) rfl rfl (by simp) rfl)).trans <| (zP_v (vIndexAddr_sl rfl rfl hlt (by omega))).trans ?_
  rw [hdp]
  refine (zL_v (wLoad_ref rfl (by simp) rfl)).trans <| (zStep_putH rfl (store59 (nm := 1) rfl rfl rfl)).trans <| zqV <| zRet_app.trans ?_
  rfl
theorem c24 {k : Nat} (Y : YE) (T : TH) (w : VwT) (key : List Nat) (hC : SortedC w.C) (hl : w.C.length < 100000) (hk : w.C.length < k) :
  CY (k + 6) Y (.func 24) [w.av, .str key] T = some (iV (ofN w.C key), T, ⟨[], [], false⟩) := by
 obtain ⟨⟨s, n, m⟩, b, hc, h1, h2⟩ := c60 (k := k) [] (rep [.row 25 [w.m, w.c] false]) w key hC hl hk
 have hb : ∃ T2, bodyZ E1 (CY (k + 5)) [] (k + 5) (G24 E1) [w.av, .str key] (rep []) = some (iV (ofN w.C key), T2) := by
  refine ⟨rep [.row 25 [w.m, w.c] false, .row 59 [.str s, .int .u64 (n : Int), .int .u64 (m : Int)] false], ?_⟩
  have e0 : ∀ q, bodyZ E1 (CY (k + 5)) [] q (G24 E1) [w.av, .str key] (rep []) = (G24 E1).z (CY (k + 5)) [] q (finZ E1 [.tmp (.v 5)]) (fun _ _ _ _ => none) (finZ E1 [.tmp (.v 5)]) [] [w.av, .undef, .str key, .undef, .undef, .undef] (rep []) := by intro q; kernel_rfl
  refine (e0 _).trans ?_
  unfold G24
  dsimp only
  refine zqR ?_
  refine (zStep_newH rfl (box25 (x := w.m) (y := w.c) rfl)).trans ?_
  refine zqV <| zqR <| (zL_v (wLoad_loc (nm := 0) (off := 0) (cs := [w.m, w.c]) rfl rfl (by simp) rfl)).trans <| (zCall_eq hc).trans <| (zP_v (vExtract_eq rfl rfl)).trans <| (zP_v (vExtract_eq rfl rfl)).trans ?_
  refine (zStep_newH rfl alloc59).trans ?_
  refine (zStep_putH rfl (store59 (nm := 1) rfl rfl rfl)).trans <| zqV <| zqA <| zqR <| (zP_v (vNot_eq (b := b) rfl)).trans ?_
  cases b with
  | false =>
   refine (zCond_eq (p := true) rfl).trans ?_
   rw [if_pos rfl]
   refine zqR <| zqV <| zRet_app.trans ?_
   unfold ofN
   rw [h2 rfl]
   rfl
  | true =>
   refine (zCond_eq (p := false) rfl).trans ?_
   rw [if_neg (by decide)]
   refine zqK <| zqR <| (zP_v (vFieldAddr_loc rfl)).trans <| (zL_v (wLoad_loc (nm := 1) (off := 0 + 2) (cs := [.str s, .int .u64 (n : Int), .int .u64 (m : Int)]) rfl rfl (by simp) rfl)).trans <| (zP_v (vConv_eq rfl)).trans <| zqV <| zRet_app.trans ?_
   unfold ofN
   rw [h1 rfl]
   rfl
 obtain ⟨T2, hb⟩ := hb
 exact call_flat (k := k + 5) (zf := G24 E1) rfl rfl (fun g => flat_view2 w key g) hb (fun _ => rfl) rfl
end Go.Proofs.PxV2
