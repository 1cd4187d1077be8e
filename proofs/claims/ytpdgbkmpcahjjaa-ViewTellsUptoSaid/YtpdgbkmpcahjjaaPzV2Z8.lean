/- Views: IsView's conditions (printed by genview.py). -/
import Derived.Test.YtpdgbkmpcahjjaaPzV2Z6
set_option linter.unusedVariables false
set_option linter.unusedSimpArgs false
set_option maxRecDepth 100000
namespace Go.Proofs.PxV2
open Go Go.Px Go.Proofs
theorem iLss {k : IntKind} {a b : Int} {p : Bool} (h : decide (a < b) = p) : intBin .lss k a b = some (.bool p) := by subst h; rfl
theorem iGeq {k : IntKind} {a b : Int} {p : Bool} (h : decide (a ≥ b) = p) : intBin .geq k a b = some (.bool p) := by subst h; rfl
theorem iGtr {k : IntKind} {a b : Int} {p : Bool} (h : decide (a > b) = p) : intBin .gtr k a b = some (.bool p) := by subst h; rfl
theorem iLeq {k : IntKind} {a b : Int} {p : Bool} (h : decide (a ≤ b) = p) : intBin .leq k a b = some (.bool p) := by subst h; rfl
theorem iEql {k : IntKind} {a b : Int} {p : Bool} (h : decide (a = b) = p) : intBin .eql k a b = some (.bool p) := by
 subst h; show some (AV.bool (a == b)) = _; congr 2
theorem iEql0 {k : IntKind} {a : Nat} {p : Bool} (h : decide (a = 0) = p) : intBin .eql k (a : Int) 0 = some (.bool p) := by
 refine iEql ?_
 subst h
 rw [Bool.eq_iff_iff]; simp
theorem sGeq {s u : List Nat} {p : Bool} (h : (!lessN s u) = p) : binB E1 .geq 9 false false (.str s) (.str u) = some (.bool p) := by
 subst h; rfl
def V11 (w : VwT) (v1 v3 v4 v5 v6 : AV) : List AV := [w.av, v1, .loc 0 0, v3, v4, v5, v6]
noncomputable def cM : CZ := xcM E1 (fun _ _ _ => none)
noncomputable def cC : CZ := xcC E1 (fun _ _ _ => none)
def badM (M : List Mem) (i : Nat) : Bool := match M[i]? with
 | some (d, n) => decide (d < 0) || decide (d ≥ 4) || decide (n = 0) || (match i with | 0 => false | j + 1 => match M[j]? with | some (p, _) => decide (p ≥ d) | none => false)
 | none => false
def badC (C : List Cop) (i : Nat) : Bool := match C[i]? with
 | some (s, n, m) => decide (s.length < 1) || decide (s.length > 8) || decide (n = 0) || decide ((m : Int) < 1) || decide ((m : Int) > 3) || (match i with | 0 => false | j + 1 => match C[j]? with | some (p, _, _) => !lessN p s | none => false)
 | none => false
theorem condM (w : VwT) (H : Heap) (i nm : Nat) (d : Int) (n : Nat) (v4 v5 v6 : AV) (L0 : List AV) (h0 : H[0]? = some (.row 25 [w.m, w.c] false)) (h1 : H[nm]? = some (.row 55 [iV d, .int .u64 (n : Int)] false)) (hs : w.M[i]? = some (d, n)) (hb : w.M.length ≤ maxLen) :
  ∃ L', ∀ kn kx kr, cM kn kx kr L0 (V11 w (iV i) (.loc nm 0) v4 v5 v6) (rep H) = kn (.bool (badM w.M i) :: L') (V11 w (iV i) (.loc nm 0) v4 v5 v6) (rep H) := by
 have hml : maxLen = 9223372036854775807 := rfl
 have hlt0 := (List.getElem?_eq_some_iff.1 hs).1
 have hcl := memC_len w.M
 unfold badM
 rw [hs]
 dsimp only
 by_cases a : d < 0
 ·rw [show (decide (d < 0)) = true from decide_eq_true a]
  refine ⟨?_, fun kn kx kr => ?_⟩
  rotate_left
  unfold cM xcM
  refine zDreg_eq.trans ?_
  rw [show H ++ List.replicate 0 AO.dead = H by simp]
  refine (zPD_v (vFieldAddr_loc rfl)).trans <| (zLD_v (wLoad_loc rfl h1 (by simp) rfl) rfl spOk_nil).trans <| (zPD_v (vInt_eq fLss_ok rfl rfl (r := .bool true) (iLss (decide_eq_true a)))).trans <| zqM rfl <| zqM rfl <| zqM rfl <| (zPD_v (vPick_eq (q := true) rfl)).trans <| zqM rfl <| zqM rfl <| zqM rfl <| (zPD_v (vPick_eq (q := true) rfl)).trans <| zqM rfl <| zqM rfl <| zqM rfl <| zqS rfl <| zqS rfl <| zqS rfl <| zqS rfl <| zqS rfl <| zqS rfl <| zqS rfl <| zqS rfl <| zqS rfl <| zqS rfl ?_
  refine zqM rfl <| (zPD_v (vPick_eq (q := true) rfl)).trans ?_
  rfl
 by_cases b : d ≥ 4
 ·rw [show (decide (d < 0)) = false from decide_eq_false a, show (decide (d ≥ 4)) = true from decide_eq_true b]
  refine ⟨?_, fun kn kx kr => ?_⟩
  rotate_left
  unfold cM xcM
  refine zDreg_eq.trans ?_
  rw [show H ++ List.replicate 0 AO.dead = H by simp]
  refine (zPD_v (vFieldAddr_loc rfl)).trans <| (zLD_v (wLoad_loc rfl h1 (by simp) rfl) rfl spOk_nil).trans <| (zPD_v (vInt_eq fLss_ok rfl rfl (r := .bool false) (iLss (decide_eq_false a)))).trans <| zqH rfl <| (zPD_v (vFieldAddr_loc rfl)).trans <| zqH rfl <| (zLD_v (wLoad_loc rfl h1 (by simp) rfl) rfl (spOk_apart rfl spOk_nil)).trans <| zqH rfl <| (zPD_v (vInt_eq (fGen_ok (by simp) (by simp)) rfl rfl (r := .bool true) (iGeq (decide_eq_true b)))).trans <| (zPD_v (vPick_eq (q := false) rfl)).trans <| zqM rfl <| zqM rfl <| zqM rfl <| (zPD_v (vPick_eq (q := true) rfl)).trans <| zqM rfl <| zqM rfl <| zqM rfl <| zqS rfl <| zqS rfl <| zqS rfl <| zqS rfl <| zqS rfl <| zqS rfl <| zqS rfl ?_
  refine zqS rfl <| zqS rfl <| zqS rfl <| zqM rfl <| (zPD_v (vPick_eq (q := true) rfl)).trans ?_
  rfl
 by_cases c : n = 0
 ·rw [show (decide (d < 0)) = false from decide_eq_false a, show (decide (d ≥ 4)) = false from decide_eq_false b, show (decide (n = 0)) = true from decide_eq_true c]
  refine ⟨?_, fun kn kx kr => ?_⟩
  rotate_left
  unfold cM xcM
  refine zDreg_eq.trans ?_
  rw [show H ++ List.replicate 0 AO.dead = H by simp]
  refine (zPD_v (vFieldAddr_loc rfl)).trans <| (zLD_v (wLoad_loc rfl h1 (by simp) rfl) rfl spOk_nil).trans <| (zPD_v (vInt_eq fLss_ok rfl rfl (r := .bool false) (iLss (decide_eq_false a)))).trans <| zqH rfl <| (zPD_v (vFieldAddr_loc rfl)).trans <| zqH rfl <| (zLD_v (wLoad_loc rfl h1 (by simp) rfl) rfl (spOk_apart rfl spOk_nil)).trans <| zqH rfl <| (zPD_v (vInt_eq (fGen_ok (by simp) (by simp)) rfl rfl (r := .bool false) (iGeq (decide_eq_false b)))).trans <| (zPD_v (vPick_eq (q := false) rfl)).trans <| zqH rfl <| (zPD_v (vFieldAddr_loc rfl)).trans <| zqH rfl <| (zLD_v (wLoad_loc rfl h1 (by simp) rfl) rfl (spOk_apart rfl (spOk_apart rfl spOk_nil))).trans <| zqH rfl <| (zPD_v (vInt_eq fEql_ok rfl rfl (r := .bool true) (iEql0 (decide_eq_true c)))).trans <| (zPD_v (vPick_eq (q := false) rfl)).trans <| zqM rfl <| zqM rfl <| zqM rfl <| zqS rfl <| zqS rfl <| zqS rfl <| zqS rfl ?_
  refine zqS rfl <| zqS rfl <| zqS rfl <| zqS rfl <| zqS rfl <| zqS rfl <| zqM rfl <| (zPD_v (vPick_eq (q := true) rfl)).trans ?_
  rfl
 rw [show (decide (d < 0)) = false from decide_eq_false a, show (decide (d ≥ 4)) = false from decide_eq_false b, show (decide (n = 0)) = false from decide_eq_false c]
 cases i with
 | zero =>
  have e : ¬ ((0 : Nat) : Int) > 0 := by omega
  refine ⟨?_, fun kn kx kr => ?_⟩
  rotate_left
  unfold cM xcM
  refine zDreg_eq.trans ?_
  rw [show H ++ List.replicate 0 AO.dead = H by simp]
  refine (zPD_v (vFieldAddr_loc rfl)).trans <| (zLD_v (wLoad_loc rfl h1 (by simp) rfl) rfl spOk_nil).trans <| (zPD_v (vInt_eq fLss_ok rfl rfl (r := .bool false) (iLss (decide_eq_false a)))).trans <| zqH rfl <| (zPD_v (vFieldAddr_loc rfl)).trans <| zqH rfl <| (zLD_v (wLoad_loc rfl h1 (by simp) rfl) rfl (spOk_apart rfl spOk_nil)).trans <| zqH rfl <| (zPD_v (vInt_eq (fGen_ok (by simp) (by simp)) rfl rfl (r := .bool false) (iGeq (decide_eq_false b)))).trans <| (zPD_v (vPick_eq (q := false) rfl)).trans <| zqH rfl <| (zPD_v (vFieldAddr_loc rfl)).trans <| zqH rfl <| (zLD_v (wLoad_loc rfl h1 (by simp) rfl) rfl (spOk_apart rfl (spOk_apart rfl spOk_nil))).trans <| zqH rfl <| (zPD_v (vInt_eq fEql_ok rfl rfl (r := .bool false) (iEql0 (decide_eq_false c)))).trans <| (zPD_v (vPick_eq (q := false) rfl)).trans <| zqH rfl <| (zPD_v vMv_eq).trans <| zqH rfl <| (zPD_v (vInt_eq fGtr_ok rfl rfl (r := .bool false) (iGtr (decide_eq_false e)))).trans <| zqH rfl <| (zPD_v vMv_eq).trans <| zqM rfl ?_
  refine zqM rfl <| zqM rfl <| zqM rfl <| zqM rfl <| zqM rfl <| zqM rfl <| zqM rfl <| zqM rfl <| zqM rfl <| zqH rfl <| (zPD_v (vPick_eq (q := false) rfl)).trans <| (zPD_v (vPick_eq (q := false) rfl)).trans ?_
  rfl
 | succ j =>
  have e : ((j + 1 : Nat) : Int) > 0 := by omega
  have hlt : j < w.M.length := by omega
  obtain ⟨⟨p, pn⟩, hp⟩ : ∃ x, w.M[j]? = some x := ⟨w.M[j], by simp [hlt]⟩
  have hd := mem_drop w.M j p pn hp
  have hsub : intBin .sub .i64 ((j + 1 : Nat) : Int) 1 = some (iV (j : Nat)) := by
   show some (AV.int .i64 (IntKind.i64.wrap (((j + 1 : Nat) : Int) - 1))) = _
   rw [IntKind.wrap_i64]; congr 2; omega
  dsimp only
  rw [hp]
  dsimp only
  by_cases f : p ≥ d
  ·rw [show (decide (p ≥ d)) = true from decide_eq_true f]
   refine ⟨?_, fun kn kx kr => ?_⟩
   rotate_left
   unfold cM xcM
   refine zDreg_eq.trans ?_
   rw [show H ++ List.replicate 0 AO.dead = H by simp]
   refine (zPD_v (vFieldAddr_loc rfl)).trans <| (zLD_v (wLoad_loc rfl h1 (by simp) rfl) rfl spOk_nil).trans <| (zPD_v (vInt_eq fLss_ok rfl rfl (r := .bool false) (iLss (decide_eq_false a)))).trans <| zqH rfl <| (zPD_v (vFieldAddr_loc rfl)).trans <| zqH rfl <| (zLD_v (wLoad_loc rfl h1 (by simp) rfl) rfl (spOk_apart rfl spOk_nil)).trans <| zqH rfl <| (zPD_v (vInt_eq (fGen_ok (by simp) (by simp)) rfl rfl (r := .bool false) (iGeq (decide_eq_false b)))).trans <| (zPD_v (vPick_eq (q := false) rfl)).trans <| zqH rfl <| (zPD_v (vFieldAddr_loc rfl)).trans <| zqH rfl <| (zLD_v (wLoad_loc rfl h1 (by simp) rfl) rfl (spOk_apart rfl (spOk_apart rfl spOk_nil))).trans <| zqH rfl <| (zPD_v (vInt_eq fEql_ok rfl rfl (r := .bool false) (iEql0 (decide_eq_false c)))).trans <| (zPD_v (vPick_eq (q := false) rfl)).trans <| zqH rfl <| (zPD_v vMv_eq).trans <| zqH rfl <| (zPD_v (vInt_eq fGtr_ok rfl rfl (r := .bool true) (iGtr (decide_eq_true e)))).trans <| zqH rfl <| (zPD_v vMv_eq).trans <| zqH rfl ?_
   refine (zPD_v (vFieldAddr_loc rfl)).trans <| zqH rfl <| (zLD_v (wLoad_loc rfl h0 (by simp) rfl) rfl (spOk_apart rfl (spOk_apart rfl (spOk_apart rfl spOk_nil)))).trans <| zqH rfl <| (zPD_v vMv_eq).trans <| zqH rfl <| (zPD_v (vInt_eq fSub_ok rfl rfl (r := iV (j : Nat)) hsub)).trans <| zqH rfl <| (zPD_v (vIndexAddr_sl rfl rfl hlt (by omega))).trans ?_
   rw [hd]
   refine zqH rfl <| (zPD_v (vFieldAddr_ref rfl (by simp))).trans <| zqH rfl <| (zLD_idle (wLoad_ref rfl (by simp) rfl) rfl).trans <| zqH rfl <| (zPD_v (vFieldAddr_loc rfl)).trans <| zqH rfl <| (zLD_v (wLoad_loc rfl h1 (by simp) rfl) rfl (spOk_apart rfl (spOk_apart rfl (spOk_apart rfl (spOk_apart rfl spOk_nil))))).trans <| zqH rfl <| (zPD_v (vInt_eq (fGen_ok (by simp) (by simp)) rfl rfl (r := .bool true) (iGeq (decide_eq_true f)))).trans <| zqH rfl <| (zPD_v (vPick_eq (q := true) rfl)).trans <| (zPD_v (vPick_eq (q := false) rfl)).trans ?_
   rfl
  ·rw [show (decide (p ≥ d)) = false from decide_eq_false f]
   refine ⟨?_, fun kn kx kr => ?_⟩
   rotate_left
   unfold cM xcM
   refine zDreg_eq.trans ?_
   rw [show H ++ List.replicate 0 AO.dead = H by simp]
   refine (zPD_v (vFieldAddr_loc rfl)).trans <| (zLD_v (wLoad_loc rfl h1 (by simp) rfl) rfl spOk_nil).trans <| (zPD_v (vInt_eq fLss_ok rfl rfl (r := .bool false) (iLss (decide_eq_false a)))).trans <| zqH rfl <| (zPD_v (vFieldAddr_loc rfl)).trans <| zqH rfl <| (zLD_v (wLoad_loc rfl h1 (by simp) rfl) rfl (spOk_apart rfl spOk_nil)).trans <| zqH rfl <| (zPD_v (vInt_eq (fGen_ok (by simp) (by simp)) rfl rfl (r := .bool false) (iGeq (decide_eq_false b)))).trans <| (zPD_v (vPick_eq (q := false) rfl)).trans <| zqH rfl <| (zPD_v (vFieldAddr_loc rfl)).trans <| zqH rfl <| (zLD_v (wLoad_loc rfl h1 (by simp) rfl) rfl (spOk_apart rfl (spOk_apart rfl spOk_nil))).trans <| zqH rfl <| (zPD_v (vInt_eq fEql_ok rfl rfl (r := .bool false) (iEql0 (decide_eq_false c)))).trans <| (zPD_v (vPick_eq (q := false) rfl)).trans <| zqH rfl <| (zPD_v vMv_eq).trans <| zqH rfl <| (zPD_v (vInt_eq fGtr_ok rfl rfl (r := .bool true) (iGtr (decide_eq_true e)))).trans <| zqH rfl <| (zPD_v vMv_eq).trans <| zqH rfl ?_
   refine (zPD_v (vFieldAddr_loc rfl)).trans <| zqH rfl <| (zLD_v (wLoad_loc rfl h0 (by simp) rfl) rfl (spOk_apart rfl (spOk_apart rfl (spOk_apart rfl spOk_nil)))).trans <| zqH rfl <| (zPD_v vMv_eq).trans <| zqH rfl <| (zPD_v (vInt_eq fSub_ok rfl rfl (r := iV (j : Nat)) hsub)).trans <| zqH rfl <| (zPD_v (vIndexAddr_sl rfl rfl hlt (by omega))).trans ?_
   rw [hd]
   refine zqH rfl <| (zPD_v (vFieldAddr_ref rfl (by simp))).trans <| zqH rfl <| (zLD_idle (wLoad_ref rfl (by simp) rfl) rfl).trans <| zqH rfl <| (zPD_v (vFieldAddr_loc rfl)).trans <| zqH rfl <| (zLD_v (wLoad_loc rfl h1 (by simp) rfl) rfl (spOk_apart rfl (spOk_apart rfl (spOk_apart rfl (spOk_apart rfl spOk_nil))))).trans <| zqH rfl <| (zPD_v (vInt_eq (fGen_ok (by simp) (by simp)) rfl rfl (r := .bool false) (iGeq (decide_eq_false f)))).trans <| zqH rfl <| (zPD_v (vPick_eq (q := true) rfl)).trans <| (zPD_v (vPick_eq (q := false) rfl)).trans ?_
   rfl
theorem condC (w : VwT) (H : Heap) (i nm : Nat) (s : List Nat) (n m : Nat) (v1 v3 v6 : AV) (L0 : List AV) (h0 : H[0]? = some (.row 25 [w.m, w.c] false)) (h1 : H[nm]? = some (.row 59 [.str s, .int .u64 (n : Int), .int .u64 (m : Int)] false)) (hs : w.C[i]? = some (s, n, m)) (hb : w.C.length ≤ maxLen) :
  ∃ L', ∀ kn kx kr, cC kn kx kr L0 (V11 w v1 v3 (iV i) (.loc nm 0) v6) (rep H) = kn (.bool (badC w.C i) :: L') (V11 w v1 v3 (iV i) (.loc nm 0) v6) (rep H) := by
 have hml : maxLen = 9223372036854775807 := rfl
 have hlt0 := (List.getElem?_eq_some_iff.1 hs).1
 have hcl := copC_len w.C
 unfold badC
 rw [hs]
 dsimp only
 by_cases a : s.length < 1
 ·rw [show (decide (s.length < 1)) = true from decide_eq_true a]
  refine ⟨?_, fun kn kx kr => ?_⟩
  rotate_left
  unfold cC xcC
  refine zDreg_eq.trans ?_
  rw [show H ++ List.replicate 0 AO.dead = H by simp]
  refine (zPD_v (vFieldAddr_loc rfl)).trans <| (zLD_v (wLoad_loc rfl h1 (by simp) rfl) rfl spOk_nil).trans <| (zPD_v (vLenS_eq rfl)).trans <| (zPD_v (vInt_eq fLss_ok rfl rfl (r := .bool true) (iLss (decide_eq_true (by omega))))).trans <| zqM rfl <| zqM rfl <| zqM rfl <| zqM rfl <| (zPD_v (vPick_eq (q := true) rfl)).trans <| zqM rfl <| zqM rfl <| zqM rfl <| (zPD_v (vPick_eq (q := true) rfl)).trans <| zqM rfl <| zqM rfl <| zqM rfl <| (zPD_v (vPick_eq (q := true) rfl)).trans <| zqM rfl <| zqM rfl <| zqM rfl <| (zPD_v (vPick_eq (q := true) rfl)).trans <| zqM rfl <| zqM rfl <| zqM rfl ?_
  refine zqS rfl <| zqS rfl <| zqS rfl <| zqS rfl <| zqS rfl <| zqS rfl <| zqS rfl <| zqS rfl <| zqS rfl <| zqS rfl <| zqM rfl <| (zPD_v (vPick_eq (q := true) rfl)).trans ?_
  rfl
 by_cases b : s.length > 8
 ·rw [show (decide (s.length < 1)) = false from decide_eq_false a, show (decide (s.length > 8)) = true from decide_eq_true b]
  refine ⟨?_, fun kn kx kr => ?_⟩
  rotate_left
  unfold cC xcC
  refine zDreg_eq.trans ?_
  rw [show H ++ List.replicate 0 AO.dead = H by simp]
  refine (zPD_v (vFieldAddr_loc rfl)).trans <| (zLD_v (wLoad_loc rfl h1 (by simp) rfl) rfl spOk_nil).trans <| (zPD_v (vLenS_eq rfl)).trans <| (zPD_v (vInt_eq fLss_ok rfl rfl (r := .bool false) (iLss (decide_eq_false (by omega))))).trans <| zqH rfl <| (zPD_v (vFieldAddr_loc rfl)).trans <| zqH rfl <| (zLD_v (wLoad_loc rfl h1 (by simp) rfl) rfl (spOk_apart rfl spOk_nil)).trans <| zqH rfl <| (zPD_v (vLenS_eq rfl)).trans <| zqH rfl <| (zPD_v (vInt_eq fGtr_ok rfl rfl (r := .bool true) (iGtr (decide_eq_true (by omega))))).trans <| (zPD_v (vPick_eq (q := false) rfl)).trans <| zqM rfl <| zqM rfl <| zqM rfl <| (zPD_v (vPick_eq (q := true) rfl)).trans <| zqM rfl <| zqM rfl <| zqM rfl <| (zPD_v (vPick_eq (q := true) rfl)).trans <| zqM rfl <| zqM rfl <| zqM rfl ?_
  refine (zPD_v (vPick_eq (q := true) rfl)).trans <| zqM rfl <| zqM rfl <| zqM rfl <| zqS rfl <| zqS rfl <| zqS rfl <| zqS rfl <| zqS rfl <| zqS rfl <| zqS rfl <| zqS rfl <| zqS rfl <| zqS rfl <| zqM rfl <| (zPD_v (vPick_eq (q := true) rfl)).trans ?_
  rfl
 by_cases c : n = 0
 ·rw [show (decide (s.length < 1)) = false from decide_eq_false a, show (decide (s.length > 8)) = false from decide_eq_false b, show (decide (n = 0)) = true from decide_eq_true c]
  refine ⟨?_, fun kn kx kr => ?_⟩
  rotate_left
  unfold cC xcC
  refine zDreg_eq.trans ?_
  rw [show H ++ List.replicate 0 AO.dead = H by simp]
  refine (zPD_v (vFieldAddr_loc rfl)).trans <| (zLD_v (wLoad_loc rfl h1 (by simp) rfl) rfl spOk_nil).trans <| (zPD_v (vLenS_eq rfl)).trans <| (zPD_v (vInt_eq fLss_ok rfl rfl (r := .bool false) (iLss (decide_eq_false (by omega))))).trans <| zqH rfl <| (zPD_v (vFieldAddr_loc rfl)).trans <| zqH rfl <| (zLD_v (wLoad_loc rfl h1 (by simp) rfl) rfl (spOk_apart rfl spOk_nil)).trans <| zqH rfl <| (zPD_v (vLenS_eq rfl)).trans <| zqH rfl <| (zPD_v (vInt_eq fGtr_ok rfl rfl (r := .bool false) (iGtr (decide_eq_false (by omega))))).trans <| (zPD_v (vPick_eq (q := false) rfl)).trans <| zqH rfl <| (zPD_v (vFieldAddr_loc rfl)).trans <| zqH rfl <| (zLD_v (wLoad_loc rfl h1 (by simp) rfl) rfl (spOk_apart rfl (spOk_apart rfl spOk_nil))).trans <| zqH rfl <| (zPD_v (vInt_eq fEql_ok rfl rfl (r := .bool true) (iEql0 (decide_eq_true c)))).trans <| (zPD_v (vPick_eq (q := false) rfl)).trans <| zqM rfl <| zqM rfl <| zqM rfl <| (zPD_v (vPick_eq (q := true) rfl)).trans ?_
  refine zqM rfl <| zqM rfl <| zqM rfl <| (zPD_v (vPick_eq (q := true) rfl)).trans <| zqM rfl <| zqM rfl <| zqM rfl <| zqS rfl <| zqS rfl <| zqS rfl <| zqS rfl <| zqS rfl <| zqS rfl <| zqS rfl <| zqS rfl <| zqS rfl <| zqS rfl <| zqM rfl <| (zPD_v (vPick_eq (q := true) rfl)).trans ?_
  rfl
 by_cases e1 : (m : Int) < 1
 ·rw [show (decide (s.length < 1)) = false from decide_eq_false a, show (decide (s.length > 8)) = false from decide_eq_false b, show (decide (n = 0)) = false from decide_eq_false c, show (decide ((m : Int) < 1)) = true from decide_eq_true e1]
  refine ⟨?_, fun kn kx kr => ?_⟩
  rotate_left
  unfold cC xcC
  refine zDreg_eq.trans ?_
  rw [show H ++ List.replicate 0 AO.dead = H by simp]
  refine (zPD_v (vFieldAddr_loc rfl)).trans <| (zLD_v (wLoad_loc rfl h1 (by simp) rfl) rfl spOk_nil).trans <| (zPD_v (vLenS_eq rfl)).trans <| (zPD_v (vInt_eq fLss_ok rfl rfl (r := .bool false) (iLss (decide_eq_false (by omega))))).trans <| zqH rfl <| (zPD_v (vFieldAddr_loc rfl)).trans <| zqH rfl <| (zLD_v (wLoad_loc rfl h1 (by simp) rfl) rfl (spOk_apart rfl spOk_nil)).trans <| zqH rfl <| (zPD_v (vLenS_eq rfl)).trans <| zqH rfl <| (zPD_v (vInt_eq fGtr_ok rfl rfl (r := .bool false) (iGtr (decide_eq_false (by omega))))).trans <| (zPD_v (vPick_eq (q := false) rfl)).trans <| zqH rfl <| (zPD_v (vFieldAddr_loc rfl)).trans <| zqH rfl <| (zLD_v (wLoad_loc rfl h1 (by simp) rfl) rfl (spOk_apart rfl (spOk_apart rfl spOk_nil))).trans <| zqH rfl <| (zPD_v (vInt_eq fEql_ok rfl rfl (r := .bool false) (iEql0 (decide_eq_false c)))).trans <| (zPD_v (vPick_eq (q := false) rfl)).trans <| zqH rfl <| (zPD_v (vFieldAddr_loc rfl)).trans <| zqH rfl <| (zLD_v (wLoad_loc rfl h1 (by simp) rfl) rfl (spOk_apart rfl (spOk_apart rfl (spOk_apart rfl spOk_nil)))).trans ?_
  refine zqH rfl <| (zPD_v (vInt_eq fLss_ok rfl rfl (r := .bool true) (iLss (decide_eq_true e1)))).trans <| (zPD_v (vPick_eq (q := false) rfl)).trans <| zqM rfl <| zqM rfl <| zqM rfl <| (zPD_v (vPick_eq (q := true) rfl)).trans <| zqM rfl <| zqM rfl <| zqM rfl <| zqS rfl <| zqS rfl <| zqS rfl <| zqS rfl <| zqS rfl <| zqS rfl <| zqS rfl <| zqS rfl <| zqS rfl <| zqS rfl <| zqM rfl <| (zPD_v (vPick_eq (q := true) rfl)).trans ?_
  rfl
 by_cases e3 : (m : Int) > 3
 ·rw [show (decide (s.length < 1)) = false from decide_eq_false a, show (decide (s.length > 8)) = false from decide_eq_false b, show (decide (n = 0)) = false from decide_eq_false c, show (decide ((m : Int) < 1)) = false from decide_eq_false e1, show (decide ((m : Int) > 3)) = true from decide_eq_true e3]
  refine ⟨?_, fun kn kx kr => ?_⟩
  rotate_left
  unfold cC xcC
  refine zDreg_eq.trans ?_
  rw [show H ++ List.replicate 0 AO.dead = H by simp]
  refine (zPD_v (vFieldAddr_loc rfl)).trans <| (zLD_v (wLoad_loc rfl h1 (by simp) rfl) rfl spOk_nil).trans <| (zPD_v (vLenS_eq rfl)).trans <| (zPD_v (vInt_eq fLss_ok rfl rfl (r := .bool false) (iLss (decide_eq_false (by omega))))).trans <| zqH rfl <| (zPD_v (vFieldAddr_loc rfl)).trans <| zqH rfl <| (zLD_v (wLoad_loc rfl h1 (by simp) rfl) rfl (spOk_apart rfl spOk_nil)).trans <| zqH rfl <| (zPD_v (vLenS_eq rfl)).trans <| zqH rfl <| (zPD_v (vInt_eq fGtr_ok rfl rfl (r := .bool false) (iGtr (decide_eq_false (by omega))))).trans <| (zPD_v (vPick_eq (q := false) rfl)).trans <| zqH rfl <| (zPD_v (vFieldAddr_loc rfl)).trans <| zqH rfl <| (zLD_v (wLoad_loc rfl h1 (by simp) rfl) rfl (spOk_apart rfl (spOk_apart rfl spOk_nil))).trans <| zqH rfl <| (zPD_v (vInt_eq fEql_ok rfl rfl (r := .bool false) (iEql0 (decide_eq_false c)))).trans <| (zPD_v (vPick_eq (q := false) rfl)).trans <| zqH rfl <| (zPD_v (vFieldAddr_loc rfl)).trans <| zqH rfl <| (zLD_v (wLoad_loc rfl h1 (by simp) rfl) rfl (spOk_apart rfl (spOk_apart rfl (spOk_apart rfl spOk_nil)))).trans ?_
  refine zqH rfl <| (zPD_v (vInt_eq fLss_ok rfl rfl (r := .bool false) (iLss (decide_eq_false e1)))).trans <| (zPD_v (vPick_eq (q := false) rfl)).trans <| zqH rfl <| (zPD_v (vFieldAddr_loc rfl)).trans <| zqH rfl <| (zLD_v (wLoad_loc rfl h1 (by simp) rfl) rfl (spOk_apart rfl (spOk_apart rfl (spOk_apart rfl (spOk_apart rfl spOk_nil))))).trans <| zqH rfl <| (zPD_v (vInt_eq fGtr_ok rfl rfl (r := .bool true) (iGtr (decide_eq_true e3)))).trans <| (zPD_v (vPick_eq (q := false) rfl)).trans <| zqM rfl <| zqM rfl <| zqM rfl <| zqS rfl <| zqS rfl <| zqS rfl <| zqS rfl <| zqS rfl <| zqS rfl <| zqS rfl <| zqS rfl <| zqS rfl <| zqS rfl <| zqM rfl ?_
  refine (zPD_v (vPick_eq (q := true) rfl)).trans ?_
  rfl
 rw [show (decide (s.length < 1)) = false from decide_eq_false a, show (decide (s.length > 8)) = false from decide_eq_false b, show (decide (n = 0)) = false from decide_eq_false c, show (decide ((m : Int) < 1)) = false from decide_eq_false e1, show (decide ((m : Int) > 3)) = false from decide_eq_false e3]
 cases i with
 | zero =>
  have e : ¬ ((0 : Nat) : Int) > 0 := by omega
  refine ⟨?_, fun kn kx kr => ?_⟩
  rotate_left
  unfold cC xcC
  refine zDreg_eq.trans ?_
  rw [show H ++ List.replicate 0 AO.dead = H by simp]
  refine (zPD_v (vFieldAddr_loc rfl)).trans <| (zLD_v (wLoad_loc rfl h1 (by simp) rfl) rfl spOk_nil).trans <| (zPD_v (vLenS_eq rfl)).trans <| (zPD_v (vInt_eq fLss_ok rfl rfl (r := .bool false) (iLss (decide_eq_false (by omega))))).trans <| zqH rfl <| (zPD_v (vFieldAddr_loc rfl)).trans <| zqH rfl <| (zLD_v (wLoad_loc rfl h1 (by simp) rfl) rfl (spOk_apart rfl spOk_nil)).trans <| zqH rfl <| (zPD_v (vLenS_eq rfl)).trans <| zqH rfl <| (zPD_v (vInt_eq fGtr_ok rfl rfl (r := .bool false) (iGtr (decide_eq_false (by omega))))).trans <| (zPD_v (vPick_eq (q := false) rfl)).trans <| zqH rfl <| (zPD_v (vFieldAddr_loc rfl)).trans <| zqH rfl <| (zLD_v (wLoad_loc rfl h1 (by simp) rfl) rfl (spOk_apart rfl (spOk_apart rfl spOk_nil))).trans <| zqH rfl <| (zPD_v (vInt_eq fEql_ok rfl rfl (r := .bool false) (iEql0 (decide_eq_false c)))).trans <| (zPD_v (vPick_eq (q := false) rfl)).trans <| zqH rfl <| (zPD_v (vFieldAddr_loc rfl)).trans <| zqH rfl <| (zLD_v (wLoad_loc rfl h1 (by simp) rfl) rfl (spOk_apart rfl (spOk_apart rfl (spOk_apart rfl spOk_nil)))).trans ?_
  refine zqH rfl <| (zPD_v (vInt_eq fLss_ok rfl rfl (r := .bool false) (iLss (decide_eq_false e1)))).trans <| (zPD_v (vPick_eq (q := false) rfl)).trans <| zqH rfl <| (zPD_v (vFieldAddr_loc rfl)).trans <| zqH rfl <| (zLD_v (wLoad_loc rfl h1 (by simp) rfl) rfl (spOk_apart rfl (spOk_apart rfl (spOk_apart rfl (spOk_apart rfl spOk_nil))))).trans <| zqH rfl <| (zPD_v (vInt_eq fGtr_ok rfl rfl (r := .bool false) (iGtr (decide_eq_false e3)))).trans <| (zPD_v (vPick_eq (q := false) rfl)).trans <| zqH rfl <| (zPD_v vMv_eq).trans <| zqH rfl <| (zPD_v (vInt_eq fGtr_ok rfl rfl (r := .bool false) (iGtr (decide_eq_false e)))).trans <| zqH rfl <| (zPD_v vMv_eq).trans <| zqM rfl <| zqM rfl <| zqM rfl <| zqM rfl <| zqM rfl <| zqM rfl <| zqM rfl <| zqM rfl ?_
  refine zqM rfl <| zqM rfl <| zqH rfl <| (zPD_v (vPick_eq (q := false) rfl)).trans <| (zPD_v (vPick_eq (q := false) rfl)).trans ?_
  rfl
 | succ j =>
  have e : ((j + 1 : Nat) : Int) > 0 := by omega
  have hlt : j < w.C.length := by omega
  obtain ⟨⟨p, pn, pm⟩, hp⟩ : ∃ x, w.C[j]? = some x := ⟨w.C[j], by simp [hlt]⟩
  have hd := cop_drop w.C j p pn pm hp
  have hsub : intBin .sub .i64 ((j + 1 : Nat) : Int) 1 = some (iV (j : Nat)) := by
   show some (AV.int .i64 (IntKind.i64.wrap (((j + 1 : Nat) : Int) - 1))) = _
   rw [IntKind.wrap_i64]; congr 2; omega
  dsimp only
  rw [hp]
  dsimp only
  cases f : !lessN p s with
  | true =>
   refine ⟨?_, fun kn kx kr => ?_⟩
   rotate_left
   unfold cC xcC
   refine zDreg_eq.trans ?_
   rw [show H ++ List.replicate 0 AO.dead = H by simp]
   refine (zPD_v (vFieldAddr_loc rfl)).trans <| (zLD_v (wLoad_loc rfl h1 (by simp) rfl) rfl spOk_nil).trans <| (zPD_v (vLenS_eq rfl)).trans <| (zPD_v (vInt_eq fLss_ok rfl rfl (r := .bool false) (iLss (decide_eq_false (by omega))))).trans <| zqH rfl <| (zPD_v (vFieldAddr_loc rfl)).trans <| zqH rfl <| (zLD_v (wLoad_loc rfl h1 (by simp) rfl) rfl (spOk_apart rfl spOk_nil)).trans <| zqH rfl <| (zPD_v (vLenS_eq rfl)).trans <| zqH rfl <| (zPD_v (vInt_eq fGtr_ok rfl rfl (r := .bool false) (iGtr (decide_eq_false (by omega))))).trans <| (zPD_v (vPick_eq (q := false) rfl)).trans <| zqH rfl <| (zPD_v (vFieldAddr_loc rfl)).trans <| zqH rfl <| (zLD_v (wLoad_loc rfl h1 (by simp) rfl) rfl (spOk_apart rfl (spOk_apart rfl spOk_nil))).trans <| zqH rfl <| (zPD_v (vInt_eq fEql_ok rfl rfl (r := .bool false) (iEql0 (decide_eq_false c)))).trans <| (zPD_v (vPick_eq (q := false) rfl)).trans <| zqH rfl <| (zPD_v (vFieldAddr_loc rfl)).trans <| zqH rfl <| (zLD_v (wLoad_loc rfl h1 (by simp) rfl) rfl (spOk_apart rfl (spOk_apart rfl (spOk_apart rfl spOk_nil)))).trans ?_
   refine zqH rfl <| (zPD_v (vInt_eq fLss_ok rfl rfl (r := .bool false) (iLss (decide_eq_false e1)))).trans <| (zPD_v (vPick_eq (q := false) rfl)).trans <| zqH rfl <| (zPD_v (vFieldAddr_loc rfl)).trans <| zqH rfl <| (zLD_v (wLoad_loc rfl h1 (by simp) rfl) rfl (spOk_apart rfl (spOk_apart rfl (spOk_apart rfl (spOk_apart rfl spOk_nil))))).trans <| zqH rfl <| (zPD_v (vInt_eq fGtr_ok rfl rfl (r := .bool false) (iGtr (decide_eq_false e3)))).trans <| (zPD_v (vPick_eq (q := false) rfl)).trans <| zqH rfl <| (zPD_v vMv_eq).trans <| zqH rfl <| (zPD_v (vInt_eq fGtr_ok rfl rfl (r := .bool true) (iGtr (decide_eq_true e)))).trans <| zqH rfl <| (zPD_v vMv_eq).trans <| zqH rfl <| (zPD_v (vFieldAddr_loc rfl)).trans <| zqH rfl <| (zLD_v (wLoad_loc rfl h0 (by simp) rfl) rfl (spOk_apart rfl (spOk_apart rfl (spOk_apart rfl (spOk_apart rfl (spOk_apart rfl spOk_nil)))))).trans <| zqH rfl <| (zPD_v vMv_eq).trans <| zqH rfl <| (zPD_v (vInt_eq fSub_ok rfl rfl (r := iV (j : Nat)) hsub)).trans ?_
   refine zqH rfl <| (zPD_v (vIndexAddr_sl rfl rfl hlt (by omega))).trans ?_
   rw [hd]
   refine zqH rfl <| (zPD_v (vFieldAddr_ref rfl (by simp))).trans <| zqH rfl <| (zLD_idle (wLoad_ref rfl (by simp) rfl) rfl).trans <| zqH rfl <| (zPD_v (vFieldAddr_loc rfl)).trans <| zqH rfl <| (zLD_v (wLoad_loc rfl h1 (by simp) rfl) rfl (spOk_apart rfl (spOk_apart rfl (spOk_apart rfl (spOk_apart rfl (spOk_apart rfl (spOk_apart rfl spOk_nil))))))).trans <| zqH rfl <| (zPD_v (vInt_bin rfl rfl (x := .bool true) (sGeq f))).trans <| zqH rfl <| (zPD_v (vPick_eq (q := true) rfl)).trans <| (zPD_v (vPick_eq (q := false) rfl)).trans ?_
   rfl
  | false =>
   refine ⟨?_, fun kn kx kr => ?_⟩
   rotate_left
   unfold cC xcC
   refine zDreg_eq.trans ?_
   rw [show H ++ List.replicate 0 AO.dead = H by simp]
   refine (zPD_v (vFieldAddr_loc rfl)).trans <| (zLD_v (wLoad_loc rfl h1 (by simp) rfl) rfl spOk_nil).trans <| (zPD_v (vLenS_eq rfl)).trans <| (zPD_v (vInt_eq fLss_ok rfl rfl (r := .bool false) (iLss (decide_eq_false (by omega))))).trans <| zqH rfl <| (zPD_v (vFieldAddr_loc rfl)).trans <| zqH rfl <| (zLD_v (wLoad_loc rfl h1 (by simp) rfl) rfl (spOk_apart rfl spOk_nil)).trans <| zqH rfl <| (zPD_v (vLenS_eq rfl)).trans <| zqH rfl <| (zPD_v (vInt_eq fGtr_ok rfl rfl (r := .bool false) (iGtr (decide_eq_false (by omega))))).trans <| (zPD_v (vPick_eq (q := false) rfl)).trans <| zqH rfl <| (zPD_v (vFieldAddr_loc rfl)).trans <| zqH rfl <| (zLD_v (wLoad_loc rfl h1 (by simp) rfl) rfl (spOk_apart rfl (spOk_apart rfl spOk_nil))).trans <| zqH rfl <| (zPD_v (vInt_eq fEql_ok rfl rfl (r := .bool false) (iEql0 (decide_eq_false c)))).trans <| (zPD_v (vPick_eq (q := false) rfl)).trans <| zqH rfl <| (zPD_v (vFieldAddr_loc rfl)).trans <| zqH rfl <| (zLD_v (wLoad_loc rfl h1 (by simp) rfl) rfl (spOk_apart rfl (spOk_apart rfl (spOk_apart rfl spOk_nil)))).trans ?_
   refine zqH rfl <| (zPD_v (vInt_eq fLss_ok rfl rfl (r := .bool false) (iLss (decide_eq_false e1)))).trans <| (zPD_v (vPick_eq (q := false) rfl)).trans <| zqH rfl <| (zPD_v (vFieldAddr_loc rfl)).trans <| zqH rfl <| (zLD_v (wLoad_loc rfl h1 (by simp) rfl) rfl (spOk_apart rfl (spOk_apart rfl (spOk_apart rfl (spOk_apart rfl spOk_nil))))).trans <| zqH rfl <| (zPD_v (vInt_eq fGtr_ok rfl rfl (r := .bool false) (iGtr (decide_eq_false e3)))).trans <| (zPD_v (vPick_eq (q := false) rfl)).trans <| zqH rfl <| (zPD_v vMv_eq).trans <| zqH rfl <| (zPD_v (vInt_eq fGtr_ok rfl rfl (r := .bool true) (iGtr (decide_eq_true e)))).trans <| zqH rfl <| (zPD_v vMv_eq).trans <| zqH rfl <| (zPD_v (vFieldAddr_loc rfl)).trans <| zqH rfl <| (zLD_v (wLoad_loc rfl h0 (by simp) rfl) rfl (spOk_apart rfl (spOk_apart rfl (spOk_apart rfl (spOk_apart rfl (spOk_apart rfl spOk_nil)))))).trans <| zqH rfl <| (zPD_v vMv_eq).trans <| zqH rfl <| (zPD_v (vInt_eq fSub_ok rfl rfl (r := iV (j : Nat)) hsub)).trans ?_
   refine zqH rfl <| (zPD_v (vIndexAddr_sl rfl rfl hlt (by omega))).trans ?_
   rw [hd]
   refine zqH rfl <| (zPD_v (vFieldAddr_ref rfl (by simp))).trans <| zqH rfl <| (zLD_idle (wLoad_ref rfl (by simp) rfl) rfl).trans <| zqH rfl <| (zPD_v (vFieldAddr_loc rfl)).trans <| zqH rfl <| (zLD_v (wLoad_loc rfl h1 (by simp) rfl) rfl (spOk_apart rfl (spOk_apart rfl (spOk_apart rfl (spOk_apart rfl (spOk_apart rfl (spOk_apart rfl spOk_nil))))))).trans <| zqH rfl <| (zPD_v (vInt_bin rfl rfl (x := .bool false) (sGeq f))).trans <| zqH rfl <| (zPD_v (vPick_eq (q := true) rfl)).trans <| (zPD_v (vPick_eq (q := false) rfl)).trans ?_
   rfl
end Go.Proofs.PxV2
