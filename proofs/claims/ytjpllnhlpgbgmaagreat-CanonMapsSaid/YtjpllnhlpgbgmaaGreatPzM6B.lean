/- Canon: numbers joined, what is too large, one entry (walks by zauto). -/
import Derived.Test.YtjpllnhlpgbgmaaGreatPzM6A
import Derived.Test.YtjpllnhlpgbgmaaGreatPb4
set_option linter.unusedVariables false
set_option linter.unusedSimpArgs false
set_option maxRecDepth 100000
namespace Go.Proofs.PxM6
open Go Go.Px Go.Proofs
theorem get_some {α : Type} {l : List α} {i : Nat} (h : i < l.length) : ∃ x, l[i]? = some x := ⟨l[i], by simp [h]⟩
def numV (n : Nat) : List AV := [.int .u64 (n : Int), .int .u64 0, .sl 0 [] true, .sl 0 [] true, .sl 0 [] true]
def numC : List Nat → List AV
 | [] => []
 | n :: l => numV n ++ numC l
def sMax : AV := .agg [.int .i64 1, .sl 0 [] true]
def sMap : AV := .agg [.int .i64 4, .sl 1 [.int .i64 1, .sl 0 [] true] false]
theorem numC_len : ∀ l, (numC l).length = l.length * 5
 | [] => rfl
 | n :: l => by simp [numC, numC_len l, numV]; omega
theorem num_at {l : List Nat} {i : Nat} {x : Nat} (h : l[i]? = some x) : (numC l).drop (i * 5) = .int .u64 (x : Int) :: .int .u64 0 :: .sl 0 [] true :: .sl 0 [] true :: .sl 0 [] true :: (numC l).drop (i * 5 + 5) :=
 cells_at (enc := numC) (one := numV) (fun _ _ => rfl) (fun _ => rfl) h
def mapV (s : Txt) (fs : Bool) (v : List Nat) (fv : Bool) : List AV := [.int .u64 0, .int .u64 0, .sl s.length (txtC s) fs, .sl 0 [] true, .sl v.length (numC v) fv]
theorem c133n {k : Nat} (Y : YE) (T : TH) (n : Nat) : CY (k + 1) Y (.func 133) [.agg (numV n)] T = some (.bool false, T, ⟨[], [], false⟩) := by
 refine call_go (zf := G133 E1) rfl rfl (fun _ => rfl) (fun _ => rfl) ?_
 unfold G133 numV
 dsimp only
 refine zpR <| st (sV_new (ev_box rfl rfl ⟨_, rfl⟩)) <| zpV <| zpR <| st (zP_v (vFieldAddr_loc rfl)) <| st (zL_v (wL_loc rfl rfl rfl rfl)) <| st (zP_v (vLenL_sl rfl)) <| st (zP_v (vFieldAddr_loc rfl)) <| st (zL_v (wL_loc rfl rfl rfl rfl)) <| st (zP_v (vLenL_sl rfl)) <| st (zP_v (vFieldAddr_loc rfl)) <| st (zL_v (wL_loc rfl rfl rfl rfl)) <| st (zP_v (vLenL_sl rfl)) <| st (sP_val (a := Acc.none) rfl) <| st (zP_v (vInt_eq fGtr_ok rfl rfl (fGtr' (by omega)))) <| zph rfl <| st (zP_v (vFieldAddr_loc rfl)) <| zph rfl <| st (zL_v (wL_loc rfl rfl rfl rfl)) <| zph rfl <| st (zP_v (vLenL_sl rfl)) <| zph rfl <| st (zP_v (vInt_eq fEql_ok rfl rfl (fEql' (by omega)))) <| zph rfl ?_
 refine st (zP_v vMv_eq) <| zpm rfl <| zpm rfl <| zpm rfl <| zpm rfl <| zpm rfl <| zpm rfl <| zph rfl <| st (zP_v (vPick_f rfl)) <| st (zP_v (vPick_f rfl)) <| zpV <| st zRet_app ?_
 exact ends_fz rfl
set_option maxHeartbeats 1000000 in
theorem c109n {k : Nat} (Y : YE) (T : TH) (n m : Nat) : CY (k + 2) Y (.func 109) [sMax, .agg (numV n), .agg (numV m)] T = some (.tup [.agg (numV (max n m)), .nilIface], T, ⟨[], [], false⟩) := by
 refine call_go (zf := G109 E1) rfl rfl (fun _ => rfl) (fun _ => rfl) ?_
 unfold G109 numV sMax
 dsimp only
 refine zpR <| st (sV_new (ev_box rfl rfl ⟨_, rfl⟩)) <| st (sV_new (ev_box rfl rfl ⟨_, rfl⟩)) <| st (sV_new (ev_box rfl rfl ⟨_, rfl⟩)) <| st (sV_new (ev_alloc ⟨_, rfl, rfl⟩)) <| zpV <| zpA <| zpR <| st (zP_v (vFieldAddr_loc rfl)) <| st (wV_load (wL_loc rfl rfl rfl rfl)) <| st zBlock_app <| zpA <| zpR <| st (zP_v (vInt_eq fEql_ok rfl rfl (tEql (by omega)))) <| zpV <| zpt rfl <| zpK <| zpt rfl <| st zReg_eq <| st (zP_v (vFieldAddr_loc rfl)) <| st (zL_v (wL_loc rfl rfl rfl rfl)) <| st (zP_v (vFieldAddr_loc rfl)) <| st (zL_v (wL_loc rfl rfl rfl rfl)) <| st (sP_val (ev_maxN rfl rfl)) ?_
 refine st (zP_v (vFieldAddr_loc rfl)) <| st (sN_put (ev_store rfl rfl rfl ⟨_, rfl, rfl⟩ rfl rfl)) <| zpA <| zpR <| st (zP_v (vInt_any rfl rfl (fun _ _ => rfl) rfl)) <| zph rfl <| st (zL_v (wL_loc rfl rfl rfl rfl)) <| zph rfl <| st (cP_call rfl (c133n _ _ _)) <| st (zP_v (vPick_t rfl)) <| zpf rfl <| zpK <| zpA <| zpR <| st (zP_v (vInt_any rfl rfl (fun _ _ => rfl) rfl)) <| zpf rfl <| zpK <| zpR <| st (zL_v (wL_loc rfl rfl rfl rfl)) <| st (sN_put (ev_store rfl rfl rfl ⟨_, rfl, rfl⟩ rfl rfl)) <| zpV <| st zRet_app ?_
 exact ends_ct rfl rfl ⟨_, rfl, rfl, rfl⟩ rfl
theorem c144a {k : Nat} (Y : YE) (T : TH) (t : List Nat) (n : Nat) (r : List AV) : CY (k + 1) Y (.func 144) [sMax, .agg [.str t, .ref (numV n ++ r), .nilptr]] T = some (.tup [.agg (numV n), .nilIface], T, ⟨[], [], false⟩) := by
 refine call_go (zf := G144 E1) rfl rfl (fun _ => rfl) (fun _ => rfl) ?_
 unfold G144 sMax
 dsimp only
 simp only [numV, List.cons_append, List.nil_append]
 refine zpR <| st (sV_new (ev_box rfl rfl ⟨_, rfl⟩)) <| st (sV_new (ev_box rfl rfl ⟨_, rfl⟩)) <| st (sV_new (ev_alloc ⟨_, rfl, rfl⟩)) <| zpV <| zpA <| zpR <| st (zP_v (vFieldAddr_loc rfl)) <| st (zL_v (wL_loc rfl rfl rfl rfl)) <| st (zP_v (vInt_any rfl rfl (fun _ _ => rfl) rfl)) <| zpt rfl <| zpR <| st (zP_v (vFieldAddr_loc rfl)) <| st (zL_v (wL_loc rfl rfl rfl rfl)) <| st (zP_v (vNil_ref rfl)) <| st (zL_v (wL_ref rfl rfl rfl)) <| st (sN_put (ev_store rfl rfl rfl ⟨_, rfl, rfl⟩ rfl rfl)) <| zpV <| st zRet_app ?_
 exact ends_ct rfl rfl ⟨_, rfl, rfl, rfl⟩ rfl
theorem c144b {k : Nat} (Y : YE) (T : TH) (t : List Nat) (n m : Nat) (r q : List AV) : CY (k + 3) Y (.func 144) [sMax, .agg [.str t, .ref (numV n ++ r), .ref (numV m ++ q)]] T = some (.tup [.agg (numV (max n m)), .nilIface], T, ⟨[], [], false⟩) := by
 refine call_go (zf := G144 E1) rfl rfl (fun _ => rfl) (fun _ => rfl) ?_
 unfold G144 sMax
 dsimp only
 simp only [numV, List.cons_append, List.nil_append]
 refine zpR <| st (sV_new (ev_box rfl rfl ⟨_, rfl⟩)) <| st (sV_new (ev_box rfl rfl ⟨_, rfl⟩)) <| st (sV_new (ev_alloc ⟨_, rfl, rfl⟩)) <| zpV <| zpA <| zpR <| st (zP_v (vFieldAddr_loc rfl)) <| st (zL_v (wL_loc rfl rfl rfl rfl)) <| st (zP_v (vInt_any rfl rfl (fun _ _ => rfl) rfl)) <| zpf rfl <| zpK <| zpA <| st zDreg_eq <| st (zLD_v (wL_loc rfl rfl rfl rfl) rfl (by kernel_rfl)) <| st (zPD_v (vFieldAddr_loc rfl)) <| st (zLD_v (wL_loc rfl rfl rfl rfl) rfl (by kernel_rfl)) <| st (zPD_v (vNil_ref rfl)) <| st (zLD_idle (wL_ref rfl rfl rfl) rfl) <| st (zPD_v (vFieldAddr_loc rfl)) <| st (zLD_v (wL_loc rfl rfl rfl rfl) rfl (by kernel_rfl)) <| st (zPD_v (vNil_ref rfl)) <| st (zLD_idle (wL_ref rfl rfl rfl) rfl) <| st (cP_idle rfl (c109n _ _ _ _) rfl) ?_
 refine st (zPD_v (vExt_eq rfl rfl)) <| st (zPD_v (vExt_eq rfl rfl)) <| st (dN_put (ev_store rfl rfl rfl ⟨_, rfl, rfl⟩ rfl rfl) rfl (by kernel_rfl)) <| st (zVD_v vMv_eq) <| st zRet_app ?_
 exact ends_ct rfl rfl ⟨_, rfl, rfl, rfl⟩ rfl
end Go.Proofs.PxM6
