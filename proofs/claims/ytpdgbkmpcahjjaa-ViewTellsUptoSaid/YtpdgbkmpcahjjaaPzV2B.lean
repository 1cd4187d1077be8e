/- Views: comparisons, what is put together (printed by genv2b.py). -/
import Derived.Test.YtpdgbkmpcahjjaaPzV2Z9
set_option linter.unusedVariables false
set_option linter.unusedSimpArgs false
set_option maxRecDepth 100000
namespace Go.Proofs.PxV2
open Go Go.Px Go.Proofs
theorem iNeq {k : IntKind} {a b : Int} {p : Bool} (h : decide (a ≠ b) = p) : intBin .neq k a b = some (.bool p) := by
 subst h; show some (AV.bool (a != b)) = _; congr 2
 rw [Bool.eq_iff_iff]; simp
def cmpI (a b : Int) : Int := if a < b then -1 else if a > b then 1 else 0
abbrev uV (n : Int) : AV := .int .u64 n
theorem c87 {k : Nat} (Y : YE) (T : TH) (a : Int) : CY (k + 1) Y (.func 87) [iV a] T = some (.bool false, T, ⟨[], [], false⟩) := by
 have e0 : ∀ q, bodyZ E1 (CY k) [] q (G87 E1) [iV a] (rep []) = (G87 E1).z (CY k) [] q (finZ E1 [.tmp (.v 1)]) (fun _ _ _ _ => none) (finZ E1 [.tmp (.v 1)]) [] [iV a, .undef] (rep []) := by intro q; kernel_rfl
 refine call_flat (zf := G87 E1) (T2 := rep []) rfl rfl (fun _ => rfl) ((e0 _).trans ?_) (fun _ => rfl) rfl
 unfold G87
 dsimp only
 refine zqR <| zqV <| zqR <| (zP_v (vInt_eq fNeq_ok rfl rfl (r := .bool false) (iNeq (by simp)))).trans <| zqV <| zRet_app.trans ?_
 rfl
theorem c78 {k : Nat} (Y : YE) (T : TH) (a : Int) : CY (k + 1) Y (.func 78) [uV a] T = some (.bool false, T, ⟨[], [], false⟩) := by
 have e0 : ∀ q, bodyZ E1 (CY k) [] q (G78 E1) [uV a] (rep []) = (G78 E1).z (CY k) [] q (finZ E1 [.tmp (.v 1)]) (fun _ _ _ _ => none) (finZ E1 [.tmp (.v 1)]) [] [uV a, .undef] (rep []) := by intro q; kernel_rfl
 refine call_flat (zf := G78 E1) (T2 := rep []) rfl rfl (fun _ => rfl) ((e0 _).trans ?_) (fun _ => rfl) rfl
 unfold G78
 dsimp only
 refine zqR <| zqV <| zqR <| (zP_v (vInt_eq fNeq_ok rfl rfl (r := .bool false) (iNeq (by simp)))).trans <| zqV <| zRet_app.trans ?_
 rfl
theorem c73 {k : Nat} (Y : YE) (T : TH) (a b : Int) : CY (k + 2) Y (.func 73) [iV a, iV b] T = some (iV (cmpI a b), T, ⟨[], [], false⟩) := by
 have e0 : ∀ q, bodyZ E1 (CY (k + 1)) [] q (G73 E1) [iV a, iV b] (rep []) = (G73 E1).z (CY (k + 1)) [] q (finZ E1 [.tmp (.v 4)]) (fun _ _ _ _ => none) (finZ E1 [.tmp (.v 4)]) [] [iV a, iV b, .undef, .undef, .undef] (rep []) := by intro q; kernel_rfl
 refine call_flat (k := k + 1) (zf := G73 E1) (T2 := rep []) rfl rfl (fun _ => rfl) ((e0 _).trans ?_) (fun _ => rfl) rfl
 unfold G73 cmpI
 dsimp only
 by_cases h1 : a < b
 ·rw [if_pos h1]
  refine zqR <| zqV <| zqR <| (zCall_eq (c87 (k := k) [] _ a)).trans <| zqV <| zqR <| (zCall_eq (c87 (k := k) [] _ b)).trans <| zqV <| zqA <| zqR <| (zCond_eq (p := false) rfl).trans ?_
  rw [if_neg (by decide)]
  refine zqK <| zqA <| zqR <| (zCond_eq (p := false) rfl).trans ?_
  rw [if_neg (by decide)]
  refine zqK <| zqA <| zqR <| (zP_v (vInt_eq fLss_ok rfl rfl (r := .bool true) (iLss (decide_eq_true h1)))).trans <| (zCond_eq (p := true) rfl).trans ?_
  rw [if_pos rfl]
  refine zqR <| zqV <| zRet_app.trans ?_
  rfl
 rw [if_neg h1]
 by_cases h2 : a > b
 ·rw [if_pos h2]
  refine zqR <| zqV <| zqR <| (zCall_eq (c87 (k := k) [] _ a)).trans <| zqV <| zqR <| (zCall_eq (c87 (k := k) [] _ b)).trans <| zqV <| zqA <| zqR <| (zCond_eq (p := false) rfl).trans ?_
  rw [if_neg (by decide)]
  refine zqK <| zqA <| zqR <| (zCond_eq (p := false) rfl).trans ?_
  rw [if_neg (by decide)]
  refine zqK <| zqA <| zqR <| (zP_v (vInt_eq fLss_ok rfl rfl (r := .bool false) (iLss (decide_eq_false h1)))).trans <| (zCond_eq (p := false) rfl).trans ?_
  rw [if_neg (by decide)]
  refine zqK <| zqA <| zqR <| (zP_v (vInt_eq fGtr_ok rfl rfl (r := .bool true) (iGtr (decide_eq_true h2)))).trans <| (zCond_eq (p := true) rfl).trans ?_
  rw [if_pos rfl]
  refine zqR <| zqV <| zRet_app.trans ?_
  rfl
 ·rw [if_neg h2]
  refine zqR <| zqV <| zqR <| (zCall_eq (c87 (k := k) [] _ a)).trans <| zqV <| zqR <| (zCall_eq (c87 (k := k) [] _ b)).trans <| zqV <| zqA <| zqR <| (zCond_eq (p := false) rfl).trans ?_
  rw [if_neg (by decide)]
  refine zqK <| zqA <| zqR <| (zCond_eq (p := false) rfl).trans ?_
  rw [if_neg (by decide)]
  refine zqK <| zqA <| zqR <| (zP_v (vInt_eq fLss_ok rfl rfl (r := .bool false) (iLss (decide_eq_false h1)))).trans <| (zCond_eq (p := false) rfl).trans ?_
  rw [if_neg (by decide)]
  refine zqK <| zqA <| zqR <| (zP_v (vInt_eq fGtr_ok rfl rfl (r := .bool false) (iGtr (decide_eq_false h2)))).trans <| (zCond_eq (p := false) rfl).trans ?_
  rw [if_neg (by decide)]
  refine zqK <| zqR <| zqV <| zRet_app.trans ?_
  rfl
theorem c53 {k : Nat} (Y : YE) (T : TH) (a b : Int) : CY (k + 2) Y (.func 53) [uV a, uV b] T = some (iV (cmpI a b), T, ⟨[], [], false⟩) := by
 have e0 : ∀ q, bodyZ E1 (CY (k + 1)) [] q (G53 E1) [uV a, uV b] (rep []) = (G53 E1).z (CY (k + 1)) [] q (finZ E1 [.tmp (.v 4)]) (fun _ _ _ _ => none) (finZ E1 [.tmp (.v 4)]) [] [uV a, uV b, .undef, .undef, .undef] (rep []) := by intro q; kernel_rfl
 refine call_flat (k := k + 1) (zf := G53 E1) (T2 := rep []) rfl rfl (fun _ => rfl) ((e0 _).trans ?_) (fun _ => rfl) rfl
 unfold G53 cmpI
 dsimp only
 by_cases h1 : a < b
 ·rw [if_pos h1]
  refine zqR <| zqV <| zqR <| (zCall_eq (c78 (k := k) [] _ a)).trans <| zqV <| zqR <| (zCall_eq (c78 (k := k) [] _ b)).trans <| zqV <| zqA <| zqR <| (zCond_eq (p := false) rfl).trans ?_
  rw [if_neg (by decide)]
  refine zqK <| zqA <| zqR <| (zCond_eq (p := false) rfl).trans ?_
  rw [if_neg (by decide)]
  refine zqK <| zqA <| zqR <| (zP_v (vInt_eq fLss_ok rfl rfl (r := .bool true) (iLss (decide_eq_true h1)))).trans <| (zCond_eq (p := true) rfl).trans ?_
  rw [if_pos rfl]
  refine zqR <| zqV <| zRet_app.trans ?_
  rfl
 rw [if_neg h1]
 by_cases h2 : a > b
 ·rw [if_pos h2]
  refine zqR <| zqV <| zqR <| (zCall_eq (c78 (k := k) [] _ a)).trans <| zqV <| zqR <| (zCall_eq (c78 (k := k) [] _ b)).trans <| zqV <| zqA <| zqR <| (zCond_eq (p := false) rfl).trans ?_
  rw [if_neg (by decide)]
  refine zqK <| zqA <| zqR <| (zCond_eq (p := false) rfl).trans ?_
  rw [if_neg (by decide)]
  refine zqK <| zqA <| zqR <| (zP_v (vInt_eq fLss_ok rfl rfl (r := .bool false) (iLss (decide_eq_false h1)))).trans <| (zCond_eq (p := false) rfl).trans ?_
  rw [if_neg (by decide)]
  refine zqK <| zqA <| zqR <| (zP_v (vInt_eq fGtr_ok rfl rfl (r := .bool true) (iGtr (decide_eq_true h2)))).trans <| (zCond_eq (p := true) rfl).trans ?_
  rw [if_pos rfl]
  refine zqR <| zqV <| zRet_app.trans ?_
  rfl
 ·rw [if_neg h2]
  refine zqR <| zqV <| zqR <| (zCall_eq (c78 (k := k) [] _ a)).trans <| zqV <| zqR <| (zCall_eq (c78 (k := k) [] _ b)).trans <| zqV <| zqA <| zqR <| (zCond_eq (p := false) rfl).trans ?_
  rw [if_neg (by decide)]
  refine zqK <| zqA <| zqR <| (zCond_eq (p := false) rfl).trans ?_
  rw [if_neg (by decide)]
  refine zqK <| zqA <| zqR <| (zP_v (vInt_eq fLss_ok rfl rfl (r := .bool false) (iLss (decide_eq_false h1)))).trans <| (zCond_eq (p := false) rfl).trans ?_
  rw [if_neg (by decide)]
  refine zqK <| zqA <| zqR <| (zP_v (vInt_eq fGtr_ok rfl rfl (r := .bool false) (iGtr (decide_eq_false h2)))).trans <| (zCond_eq (p := false) rfl).trans ?_
  rw [if_neg (by decide)]
  refine zqK <| zqR <| zqV <| zRet_app.trans ?_
  rfl
theorem box55 {L V : List AV} {H : Heap} {a : O} {x y : AV} (ha : gO L V a = .agg [x, y]) : evalFA E1 L V H (.box 55 a) = some (.new (.row 55 [x, y] false) (fun nm => .loc nm 0), Acc.none) := by
 have h1 : E1.ty 55 = some ⟨.struct [(0, 3), (1, 40)], 2, 16, [.int .i64 0, .int .u64 0]⟩ := rfl
 simp [evalFA, h1, ha, cellsOf]
def memA (d n : Int) : AV := .agg [iV d, uV n]
def copB (s : List Nat) (n m : Int) : AV := .agg [.str s, uV n, uV m]
theorem c45 {k : Nat} (Y : YE) (T : TH) (a b n m : Int) : CY (k + 3) Y (.func 45) [memA a n, memA b m] T = some (iV (cmpI a b), T, ⟨[], [], false⟩) := by
 have e0 : ∀ q, bodyZ E1 (CY (k + 2)) [] q (G45 E1) [memA a n, memA b m] (rep []) = (G45 E1).z (CY (k + 2)) [] q (finZ E1 [.tmp (.v 4)]) (fun _ _ _ _ => none) (finZ E1 [.tmp (.v 4)]) [] [memA a n, memA b m, .undef, .undef, .undef] (rep []) := by intro q; kernel_rfl
 refine call_flat (k := k + 2) (zf := G45 E1) (T2 := rep [.row 55 [iV a, uV n] false, .row 55 [iV b, uV m] false]) rfl rfl (fun _ => rfl) ((e0 _).trans ?_) (fun _ => rfl) rfl
 unfold G45
 dsimp only
 refine zqR ?_
 refine (zStep_newH rfl (box55 (x := iV a) (y := uV n) rfl)).trans ?_
 refine (zStep_newH rfl (box55 (x := iV b) (y := uV m) rfl)).trans ?_
 refine zqV <| zqR <| (zP_v (vFieldAddr_loc rfl)).trans <| (zL_v (wLoad_loc rfl rfl (by simp) rfl)).trans <| (zP_v (vFieldAddr_loc rfl)).trans <| (zL_v (wLoad_loc rfl rfl (by simp) rfl)).trans <| (zCall_eq (c73 (k := k) [] _ a b)).trans <| zqV <| zRet_app.trans ?_
 kernel_rfl
theorem c58 {k : Nat} (Y : YE) (T : TH) (a b n m : Int) : CY (k + 1) Y (.func 58) [memA a n, memA b m] T = some (memA a (IntKind.u64.wrap (n + 1)), T, ⟨[], [], false⟩) := by
 have e0 : ∀ q, bodyZ E1 (CY k) [] q (G58 E1) [memA a n, memA b m] (rep []) = (G58 E1).z (CY k) [] q (finZ E1 [.cell (.v 3) 55]) (fun _ _ _ _ => none) (finZ E1 [.cell (.v 3) 55]) [] [memA a n, memA b m, .undef, .undef] (rep []) := by intro q; kernel_rfl
 refine call_flat (zf := G58 E1) (T2 := rep [.row 55 [iV a, uV n] false, .row 55 [iV b, uV m] false, .row 55 [iV a, uV (IntKind.u64.wrap (n + 1))] false]) rfl rfl (fun _ => rfl) ((e0 _).trans ?_) (fun _ => rfl) rfl
 unfold G58
 dsimp only
 refine zqR ?_
 refine (zStep_newH rfl (box55 (x := iV a) (y := uV n) rfl)).trans ?_
 refine (zStep_newH rfl (box55 (x := iV b) (y := uV m) rfl)).trans ?_
 refine (zStep_newH rfl alloc55).trans ?_
 refine zqR <| (zP_v (vFieldAddr_loc rfl)).trans <| (zL_v (wLoad_loc rfl rfl (by simp) rfl)).trans <| (zP_v (vFieldAddr_loc rfl)).trans <| (zL_v (wLoad_loc rfl rfl (by simp) rfl)).trans <| (zP_v (vInt_eq fAdd_ok rfl rfl rfl)).trans <| (zStep_valH (x := memA a (IntKind.u64.wrap (n + 1))) (a := Acc.none) rfl rfl).trans <| (zStep_putH rfl (store55 (nm := 2) rfl rfl rfl)).trans <| zRet_app.trans ?_
 kernel_rfl
theorem most_uG {L V : List AV} {H : Heap} {a b : O} {x y : Int} (ha : gO L V a = uV x) (hb : gO L V b = uV y) : evalFA E1 L V H (.most true [a, b]) = some (.val (uV (max x y)), Acc.none) := by
 simp [evalFA, mostA, most2, ha, hb, uV]
 try omega
theorem c55 {k : Nat} (Y : YE) (T : TH) (a b n m : Int) : CY (k + 1) Y (.func 55) [memA a n, memA b m] T = some (memA a (max n m), T, ⟨[], [], false⟩) := by
 have e0 : ∀ q, bodyZ E1 (CY k) [] q (G55 E1) [memA a n, memA b m] (rep []) = (G55 E1).z (CY k) [] q (finZ E1 [.cell (.v 4) 55]) (fun _ _ _ _ => none) (finZ E1 [.cell (.v 4) 55]) [] [memA a n, memA b m, .undef, .undef, .undef] (rep []) := by intro q; kernel_rfl
 refine call_flat (zf := G55 E1) (T2 := rep [.row 55 [iV a, uV n] false, .row 55 [iV b, uV m] false, .row 55 [iV a, uV (max n m)] false]) rfl rfl (fun _ => rfl) ((e0 _).trans ?_) (fun _ => rfl) rfl
 unfold G55
 dsimp only
 refine zqR ?_
 refine (zStep_newH rfl (box55 (x := iV a) (y := uV n) rfl)).trans ?_
 refine (zStep_newH rfl (box55 (x := iV b) (y := uV m) rfl)).trans ?_
 refine (zStep_newH rfl alloc55).trans ?_
 refine zqR <| (zP_v (vFieldAddr_loc rfl)).trans <| (zL_v (wLoad_loc rfl rfl (by simp) rfl)).trans <| (zP_v (vFieldAddr_loc rfl)).trans <| (zL_v (wLoad_loc rfl rfl (by simp) rfl)).trans <| (zP_v (vFieldAddr_loc rfl)).trans <| (zL_v (wLoad_loc rfl rfl (by simp) rfl)).trans <| (zStep_valH rfl (most_uG rfl rfl)).trans <| (zStep_valH (x := memA a (max n m)) (a := Acc.none) rfl rfl).trans <| (zStep_putH rfl (store55 (nm := 2) rfl rfl rfl)).trans <| zRet_app.trans ?_
 kernel_rfl
theorem c62 {k : Nat} (Y : YE) (T : TH) (s u : List Nat) (n m p z : Int) : CY (k + 1) Y (.func 62) [copB s n m, copB u p z] T = some (copB u p z, T, ⟨[], [], false⟩) := by
 have e0 : ∀ q, bodyZ E1 (CY k) [] q (G62 E1) [copB s n m, copB u p z] (rep []) = (G62 E1).z (CY k) [] q (finZ E1 [.cell (.v 3) 59]) (fun _ _ _ _ => none) (finZ E1 [.cell (.v 3) 59]) [] [copB s n m, copB u p z, .undef, .undef] (rep []) := by intro q; kernel_rfl
 refine call_flat (zf := G62 E1) (T2 := rep [.row 59 [.str s, uV n, uV m] false, .row 59 [.str u, uV p, uV z] false, .row 59 [.str u, uV p, uV z] false]) rfl rfl (fun _ => rfl) ((e0 _).trans ?_) (fun _ => rfl) rfl
 unfold G62
 dsimp only
 refine zqR ?_
 refine (zStep_newH rfl (box59 (x := .str s) (y := uV n) (z := uV m) rfl)).trans ?_
 refine (zStep_newH rfl (box59 (x := .str u) (y := uV p) (z := uV z) rfl)).trans ?_
 refine (zStep_newH rfl alloc59).trans ?_
 refine zqR <| (zL_v (wLoad_loc rfl rfl (by simp) rfl)).trans <| (zStep_putH rfl (store59 (nm := 2) rfl rfl rfl)).trans <| zRet_app.trans ?_
 kernel_rfl
theorem zLoop_go {n : Nat} {b : CZ} {kn : KB} {kx : Nat → KB} {kr : KB} {L V : List AV} {T : TH} : zLoop (n + 1) b kn kx kr L V T = b (zLoop n b kn kx kr) kx kr L V T := by rw [zLoop_succ]
def orI (c e : Int) : Int := if c ≠ 0 then c else e
theorem or52 (k : Nat) (c e : Int) (f : Bool) : bodyZ E1 (CY (k + 4)) [] (k + 4) (G52 E1) [.sl 2 [iV c, iV e] f] (rep []) = some (iV (orI c e), rep []) := by
 have e0 : ∀ q, bodyZ E1 (CY (k + 4)) [] q (G52 E1) [.sl 2 [iV c, iV e] f] (rep []) = (G52 E1).z (CY (k + 4)) [] q (finZ E1 [.tmp (.v 6)]) (fun _ _ _ _ => none) (finZ E1 [.tmp (.v 6)]) [] [.sl 2 [iV c, iV e] f, .undef, .undef, .undef, .undef, .undef, .undef] (rep []) := by intro q; kernel_rfl
 refine (e0 _).trans ?_
 unfold G52 orI
 dsimp only
 by_cases h1 : c ≠ 0
 ·rw [if_pos h1]
  refine zqR <| zqV <| zqR <| zqV <| zqA <| zqR <| zqV <| (zV_v (vLenL_sl rfl)).trans <| zqV <| zBlock_app.trans <| zLoop_go.trans <| zqR <| (zP_v (vInt_eq fLss_ok rfl rfl (r := .bool true) (iLss (by simp)))).trans <| zqA <| (zCond_eq (p := true) rfl).trans ?_
  rw [if_pos rfl]
  refine zqK <| zqA <| zBlock_app.trans <| zqR <| (zP_v (vIndexAddr_sl (i := 0) rfl rfl (by decide) (by simp))).trans <| (zL_v (wLoad_ref rfl (by simp) rfl)).trans <| zqV <| zqR <| (zP_v (vInt_eq fNeq_ok rfl rfl (r := .bool true) (iNeq (decide_eq_true h1)))).trans <| (zCond_eq (p := true) rfl).trans ?_
  rw [if_pos rfl]
  refine zqR <| zqV <| zRet_app.trans ?_
  rfl
 rw [if_neg h1]
 by_cases h2 : e ≠ 0
 ·skip
  refine zqR <| zqV <| zqR <| zqV <| zqA <| zqR <| zqV <| (zV_v (vLenL_sl rfl)).trans <| zqV <| zBlock_app.trans <| zLoop_go.trans <| zqR <| (zP_v (vInt_eq fLss_ok rfl rfl (r := .bool true) (iLss (by simp)))).trans <| zqA <| (zCond_eq (p := true) rfl).trans ?_
  rw [if_pos rfl]
  refine zqK <| zqA <| zBlock_app.trans <| zqR <| (zP_v (vIndexAddr_sl (i := 0) rfl rfl (by decide) (by simp))).trans <| (zL_v (wLoad_ref rfl (by simp) rfl)).trans <| zqV <| zqR <| (zP_v (vInt_eq fNeq_ok rfl rfl (r := .bool false) (iNeq (decide_eq_false h1)))).trans <| (zCond_eq (p := false) rfl).trans ?_
  rw [if_neg (by decide)]
  refine zqK <| zReg_eq.trans <| (zP_v (vInt_eq fAdd_ok rfl rfl (r := iV 1) (by rfl))).trans <| zqV <| zLoop_go.trans <| zqR <| (zP_v (vInt_eq fLss_ok rfl rfl (r := .bool true) (iLss (by simp)))).trans <| zqA <| (zCond_eq (p := true) rfl).trans ?_
  rw [if_pos rfl]
  refine zqK <| zqA <| zBlock_app.trans <| zqR <| (zP_v (vIndexAddr_sl (i := 1) rfl rfl (by decide) (by simp))).trans <| (zL_v (wLoad_ref rfl (by simp) rfl)).trans <| zqV <| zqR <| (zP_v (vInt_eq fNeq_ok rfl rfl (r := .bool true) (iNeq (decide_eq_true h2)))).trans <| (zCond_eq (p := true) rfl).trans ?_
  rw [if_pos rfl]
  refine zqR <| zqV <| zRet_app.trans ?_
  rfl
 ·have h3 : e = 0 := by omega
  refine zqR <| zqV <| zqR <| zqV <| zqA <| zqR <| zqV <| (zV_v (vLenL_sl rfl)).trans <| zqV <| zBlock_app.trans <| zLoop_go.trans <| zqR <| (zP_v (vInt_eq fLss_ok rfl rfl (r := .bool true) (iLss (by simp)))).trans <| zqA <| (zCond_eq (p := true) rfl).trans ?_
  rw [if_pos rfl]
  refine zqK <| zqA <| zBlock_app.trans <| zqR <| (zP_v (vIndexAddr_sl (i := 0) rfl rfl (by decide) (by simp))).trans <| (zL_v (wLoad_ref rfl (by simp) rfl)).trans <| zqV <| zqR <| (zP_v (vInt_eq fNeq_ok rfl rfl (r := .bool false) (iNeq (decide_eq_false h1)))).trans <| (zCond_eq (p := false) rfl).trans ?_
  rw [if_neg (by decide)]
  refine zqK <| zReg_eq.trans <| (zP_v (vInt_eq fAdd_ok rfl rfl (r := iV 1) (by rfl))).trans <| zqV <| zLoop_go.trans <| zqR <| (zP_v (vInt_eq fLss_ok rfl rfl (r := .bool true) (iLss (by simp)))).trans <| zqA <| (zCond_eq (p := true) rfl).trans ?_
  rw [if_pos rfl]
  refine zqK <| zqA <| zBlock_app.trans <| zqR <| (zP_v (vIndexAddr_sl (i := 1) rfl rfl (by decide) (by simp))).trans <| (zL_v (wLoad_ref rfl (by simp) rfl)).trans <| zqV <| zqR <| (zP_v (vInt_eq fNeq_ok rfl rfl (r := .bool false) (iNeq (decide_eq_false h2)))).trans <| (zCond_eq (p := false) rfl).trans ?_
  rw [if_neg (by decide)]
  refine zqK <| zReg_eq.trans <| (zP_v (vInt_eq fAdd_ok rfl rfl (r := iV 2) (by rfl))).trans <| zqV <| zLoop_go.trans <| zqR <| (zP_v (vInt_eq fLss_ok rfl rfl (r := .bool false) (iLss (by simp)))).trans <| zqA <| (zCond_eq (p := false) rfl).trans ?_
  rw [if_neg (by decide)]
  refine zExit_app.trans ?_
  rw [ifZ_eq, if_pos (by rfl)]
  refine zqR <| zqV <| zRet_app.trans ?_
  rw [h3]
  rfl
theorem build2 {L V : List AV} {H : Heap} {a b : O} {c e : Int} (ha : gO L V a = iV c) (hb : gO L V b = iV e) : evalFA E1 L V H (.buildSlice 32 2 [(0, a), (1, b)]) = some (.new (.row 3 [iV c, iV e] false) (fun nm => .own nm 0 2 1), Acc.none) := by
 rw [show evalFA E1 L V H (.buildSlice 32 2 [(0, a), (1, b)]) = (buildSliceA E1 32 2 [(0, gO L V a), (1, gO L V b)]).map (·, Acc.none) from rfl, ha, hb]
 rfl
def H51 (s u : List Nat) (n m p z : Int) : Heap := [.row 59 [.str s, uV n, uV m] false, .row 59 [.str u, uV p, uV z] false, .row 59 [.str [], uV 0, uV 0] false]
theorem c51 {k : Nat} (Y : YE) (T : TH) (s u : List Nat) (n m p z : Int) : CY (k + 6) Y (.func 51) [copB s n m, copB u p z] T = some (if orI (cmpI n p) (cmpI m z) < 0 then copB u p z else copB s n m, T, ⟨[], [], false⟩) := by
 have c52 : CY (k + 5) [] (.func 52) [.own 5 0 2 1] (rep (H51 s u n m p z ++ [.dead, .dead, .row 3 [iV (cmpI n p), iV (cmpI m z)] false, .dead])) = some (iV (orI (cmpI n p) (cmpI m z)), rep (H51 s u n m p z ++ [.dead, .dead, .row 3 [iV (cmpI n p), iV (cmpI m z)] false, .dead]), ⟨[5] ++ [5], [], false⟩) := by
  have h := call_pure (E := E1) (GE := GE E1) (LZ := LZ E1) (k := k + 4) (Y := []) (T := rep (H51 s u n m p z ++ [.dead, .dead, .row 3 [iV (cmpI n p), iV (cmpI m z)] false, .dead])) (f := 52) (zf := G52 E1) (args := [.own 5 0 2 1]) (fargs := [.sl 2 [iV (cmpI n p), iV (cmpI m z)] false]) (ns := [5]) (ns2 := []) (T2 := rep []) rfl rfl (by kernel_rfl) (or52 k (cmpI n p) (cmpI m z) false) (r' := iV (orI (cmpI n p) (cmpI m z))) rfl
  exact h
 have e0 : ∀ q, bodyZ E1 (CY (k + 5)) [] q (G51 E1) [copB s n m, copB u p z] (rep []) = (G51 E1).z (CY (k + 5)) [] q (finZ E1 [.cell (.v 4) 59]) (fun _ _ _ _ => none) (finZ E1 [.cell (.v 4) 59]) [] [copB s n m, copB u p z, .undef, .undef, .undef] (rep []) := by intro q; kernel_rfl
 have hb : ∃ T2, bodyZ E1 (CY (k + 5)) [] (k + 5) (G51 E1) [copB s n m, copB u p z] (rep []) = some (if orI (cmpI n p) (cmpI m z) < 0 then copB u p z else copB s n m, T2) := by
  by_cases h1 : orI (cmpI n p) (cmpI m z) < 0
  ·rw [if_pos h1]
   refine ⟨rep [.row 59 [.str s, uV n, uV m] false, .row 59 [.str u, uV p, uV z] false, .row 59 [.str u, uV p, uV z] false, .dead, .dead, .row 3 [iV (cmpI n p), iV (cmpI m z)] false, .dead], (e0 _).trans ?_⟩
   unfold G51
   dsimp only
   refine zqR ?_
   refine (zStep_newH rfl (box59 (x := .str s) (y := uV n) (z := uV m) rfl)).trans ?_
   refine (zStep_newH rfl (box59 (x := .str u) (y := uV p) (z := uV z) rfl)).trans ?_
   refine (zStep_newH rfl alloc59).trans ?_
   refine zqA <| zqA <| zDreg_eq.trans <| (zPD_v (vFieldAddr_loc rfl)).trans <| (zLD_v (wLoad_loc rfl rfl (by simp) rfl) rfl (by kernel_rfl)).trans <| (zPD_v (vFieldAddr_loc rfl)).trans <| (zLD_v (wLoad_loc rfl rfl (by simp) rfl) rfl (by kernel_rfl)).trans <| (zCallD_idle (c53 (k := k + 3) [] _ n p) rfl).trans <| (zPD_v (vFieldAddr_loc rfl)).trans <| (zLD_v (wLoad_loc rfl rfl (by simp) rfl) rfl (by kernel_rfl)).trans <| (zPD_v (vFieldAddr_loc rfl)).trans <| (zLD_v (wLoad_loc rfl rfl (by simp) rfl) rfl (by kernel_rfl)).trans <| (zCallD_idle (c53 (k := k + 3) [] _ m z) rfl).trans ?_
   refine (zStepD_new rfl rfl (build2 rfl rfl) rfl (by kernel_rfl)).trans ?_
   refine (zCallD_v c52 rfl (by kernel_rfl)).trans <| (zPD_v (vInt_eq fLss_ok rfl rfl (r := .bool true) (iLss (decide_eq_true h1)))).trans <| (zCond_eq (p := true) rfl).trans ?_
   rw [if_pos rfl]
   refine zqR <| (zL_v (wLoad_loc rfl rfl (by simp) rfl)).trans <| (zStep_putH rfl (store59 (nm := 2) rfl rfl rfl)).trans <| zRet_app.trans ?_
   kernel_rfl
  ·rw [if_neg h1]
   refine ⟨rep [.row 59 [.str s, uV n, uV m] false, .row 59 [.str u, uV p, uV z] false, .row 59 [.str s, uV n, uV m] false, .dead, .dead, .row 3 [iV (cmpI n p), iV (cmpI m z)] false, .dead], (e0 _).trans ?_⟩
   unfold G51
   dsimp only
   refine zqR ?_
   refine (zStep_newH rfl (box59 (x := .str s) (y := uV n) (z := uV m) rfl)).trans ?_
   refine (zStep_newH rfl (box59 (x := .str u) (y := uV p) (z := uV z) rfl)).trans ?_
   refine (zStep_newH rfl alloc59).trans ?_
   refine zqA <| zqA <| zDreg_eq.trans <| (zPD_v (vFieldAddr_loc rfl)).trans <| (zLD_v (wLoad_loc rfl rfl (by simp) rfl) rfl (by kernel_rfl)).trans <| (zPD_v (vFieldAddr_loc rfl)).trans <| (zLD_v (wLoad_loc rfl rfl (by simp) rfl) rfl (by kernel_rfl)).trans <| (zCallD_idle (c53 (k := k + 3) [] _ n p) rfl).trans <| (zPD_v (vFieldAddr_loc rfl)).trans <| (zLD_v (wLoad_loc rfl rfl (by simp) rfl) rfl (by kernel_rfl)).trans <| (zPD_v (vFieldAddr_loc rfl)).trans <| (zLD_v (wLoad_loc rfl rfl (by simp) rfl) rfl (by kernel_rfl)).trans <| (zCallD_idle (c53 (k := k + 3) [] _ m z) rfl).trans ?_
   refine (zStepD_new rfl rfl (build2 rfl rfl) rfl (by kernel_rfl)).trans ?_
   refine (zCallD_v c52 rfl (by kernel_rfl)).trans <| (zPD_v (vInt_eq fLss_ok rfl rfl (r := .bool false) (iLss (decide_eq_false h1)))).trans <| (zCond_eq (p := false) rfl).trans ?_
   rw [if_neg (by decide)]
   refine zqK <| zqR <| (zL_v (wLoad_loc rfl rfl (by simp) rfl)).trans <| (zStep_putH rfl (store59 (nm := 2) rfl rfl rfl)).trans <| zRet_app.trans ?_
   kernel_rfl
 obtain ⟨T2, hb⟩ := hb
 refine call_flat (k := k + 5) (zf := G51 E1) rfl rfl (fun _ => rfl) hb (fun _ => ?_) ?_
 ·split <;> rfl
 ·split <;> rfl
end Go.Proofs.PxV2
