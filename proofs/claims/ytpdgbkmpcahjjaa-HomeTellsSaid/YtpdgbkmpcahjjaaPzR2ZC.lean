/- The law HomeTells (printed by genview4.py). -/
import Derived.Test.YtpdgbkmpcahjjaaPzR2ZA
import Derived.Test.YtpdgbkmpcahjjaaPzR2Q
set_option linter.unusedVariables false
set_option linter.unusedSimpArgs false
set_option maxRecDepth 100000
namespace Go.Px
open Go
theorem vInt_boo {E : Env} {L V : List AV} {T : TH} {x : AV} {f : IntKind → Int → Int → (AV → Ans) → Ans} {op : BinOp} {t : TypeId} {c1 c2 : Bool} {a b : O} {p q : Bool} (ha : gO L V a = .bool p) (hb : gO L V b = .bool q) (hr : binB E op t c1 c2 (.bool p) (.bool q) = some x) (c : AV → Ans) :
    vInt E f op t c1 c2 a b L V T c = c x := by
  simp only [vInt, gZ_eq, ha, hb, int2Z, intCZ_eq, optV_eq, hr]
end Go.Px
namespace Go.Proofs.PxR2
open Go Go.Px Go.Proofs
theorem eqBool (p : Bool) : binB E1 .eql 4 false false (.bool p) (.bool p) = some (.bool true) := by
  cases p <;> rfl
theorem flat_vvnk (v w : VwT) (n : Int) (key : List Nat) (g : Nat → Option AO) : fzL (fzG E1 g fzDeep) [v.av, w.av, iV n, .str key] = some ([v.av, w.av, iV n, .str key], []) := rfl
theorem home8 (v w : VwT) (n : Int) (key : List Nat) (k : Nat) (hk : 1000 ≤ k) (k1 : v.M.length < k) (k2 : v.C.length < k) (k3 : w.M.length < k) (k4 : w.C.length < k) (hvm : v.M.length ≤ maxLen) (hvc : v.C.length ≤ maxLen) (hwm : w.M.length ≤ maxLen) (hwc : w.C.length ≤ maxLen) :
    ∃ T2, bodyZ E1 (CY (k + 1)) [] (k + 1) (G8 E1) [v.av, w.av, iV n, .str key] (rep []) = some (.bool true, T2) := by
  have e0 : ∀ q, bodyZ E1 (CY (k + 1)) [] q (G8 E1) [v.av, w.av, iV n, .str key] (rep []) = (G8 E1).z (CY (k + 1)) [] q (finZ E1 [.tmp (.v 6)]) (fun _ _ _ _ => none) (finZ E1 [.tmp (.v 6)]) [] [v.av, w.av, .undef, .undef, .str key, iV n, .undef] (rep []) := by intro q; kernel_rfl
  have h38 := c38 (k := k + 1) (by omega) [] (rep (H43 v w))
  have ha := c11 (k := k) [] (rep (H43 v w)) v k1 k2 hvm hvc
  have hb := c11 (k := k) [] (rep (H43 v w)) w k3 k4 hwm hwc
  by_cases hva : isV v = true
  case neg =>
    rw [show isV v = false by simpa using hva] at ha
    refine ⟨?_, (e0 _).trans ?_⟩
    rotate_left
    unfold G8
    dsimp only
    refine zSeq_reg.trans ?_
    refine (zStep_newH rfl (box25 (x := v.m) (y := v.c) rfl)).trans ?_
    refine (zStep_newH rfl (box25 (x := w.m) (y := w.c) rfl)).trans ?_
    refine (zV_v vMv_eq).trans ?_
    refine zSeq_app.trans ?_
    refine zSeq_reg.trans ?_
    refine (zCall_eq h38).trans ?_
    refine (zP_v (vNot_eq (b := true) rfl)).trans ?_
    refine (zCond_eq (p := false) rfl).trans ?_
    rw [if_neg (by decide)]
    refine zSkip_app.trans ?_
    refine zSeq_app.trans ?_
    refine zSeq_reg.trans ?_
    refine (zL_v (wLoad_loc rfl rfl (by simp) rfl)).trans ?_
    refine (zCall_eq ha).trans ?_
    refine (zP_v (vNot_eq (b := false) rfl)).trans ?_
    refine (zG_miss rfl).trans ?_
    refine (zG_miss rfl).trans ?_
    refine (zG_miss rfl).trans ?_
    refine (zP_v (vPick_eq (q := true) rfl)).trans ?_
    refine (zG_miss rfl).trans ?_
    refine (zG_miss rfl).trans ?_
    refine (zG_miss rfl).trans ?_
    refine (zP_v (vPick_eq (q := true) rfl)).trans ?_
    refine (zCond_eq (p := true) rfl).trans ?_
    rw [if_pos rfl]
    refine zSeq_reg.trans ?_
    refine (zV_v vMv_eq).trans ?_
    refine zRet_app.trans ?_
    rfl
  rw [hva] at ha
  by_cases hvb : isV w = true
  case neg =>
    rw [show isV w = false by simpa using hvb] at hb
    refine ⟨?_, (e0 _).trans ?_⟩
    rotate_left
    unfold G8
    dsimp only
    refine zSeq_reg.trans ?_
    refine (zStep_newH rfl (box25 (x := v.m) (y := v.c) rfl)).trans ?_
    refine (zStep_newH rfl (box25 (x := w.m) (y := w.c) rfl)).trans ?_
    refine (zV_v vMv_eq).trans ?_
    refine zSeq_app.trans ?_
    refine zSeq_reg.trans ?_
    refine (zCall_eq h38).trans ?_
    refine (zP_v (vNot_eq (b := true) rfl)).trans ?_
    refine (zCond_eq (p := false) rfl).trans ?_
    rw [if_neg (by decide)]
    refine zSkip_app.trans ?_
    refine zSeq_app.trans ?_
    refine zSeq_reg.trans ?_
    refine (zL_v (wLoad_loc rfl rfl (by simp) rfl)).trans ?_
    refine (zCall_eq ha).trans ?_
    refine (zP_v (vNot_eq (b := true) rfl)).trans ?_
    refine (zG_hit rfl).trans ?_
    refine (zL_v (wLoad_loc rfl rfl (by simp) rfl)).trans ?_
    refine (zG_hit rfl).trans ?_
    refine (zCall_eq hb).trans ?_
    refine (zG_hit rfl).trans ?_
    refine (zP_v (vNot_eq (b := false) rfl)).trans ?_
    refine (zP_v (vPick_eq (q := false) rfl)).trans ?_
    refine (zG_miss rfl).trans ?_
    refine (zG_miss rfl).trans ?_
    refine (zG_miss rfl).trans ?_
    refine (zP_v (vPick_eq (q := true) rfl)).trans ?_
    refine (zCond_eq (p := true) rfl).trans ?_
    rw [if_pos rfl]
    refine zSeq_reg.trans ?_
    refine (zV_v vMv_eq).trans ?_
    refine zRet_app.trans ?_
    rfl
  rw [hvb] at hb
  by_cases hlen : key.length > 40
  · refine ⟨?_, (e0 _).trans ?_⟩
    rotate_left
    unfold G8
    dsimp only
    refine zSeq_reg.trans ?_
    refine (zStep_newH rfl (box25 (x := v.m) (y := v.c) rfl)).trans ?_
    refine (zStep_newH rfl (box25 (x := w.m) (y := w.c) rfl)).trans ?_
    refine (zV_v vMv_eq).trans ?_
    refine zSeq_app.trans ?_
    refine zSeq_reg.trans ?_
    refine (zCall_eq h38).trans ?_
    refine (zP_v (vNot_eq (b := true) rfl)).trans ?_
    refine (zCond_eq (p := false) rfl).trans ?_
    rw [if_neg (by decide)]
    refine zSkip_app.trans ?_
    refine zSeq_app.trans ?_
    refine zSeq_reg.trans ?_
    refine (zL_v (wLoad_loc rfl rfl (by simp) rfl)).trans ?_
    refine (zCall_eq ha).trans ?_
    refine (zP_v (vNot_eq (b := true) rfl)).trans ?_
    refine (zG_hit rfl).trans ?_
    refine (zL_v (wLoad_loc rfl rfl (by simp) rfl)).trans ?_
    refine (zG_hit rfl).trans ?_
    refine (zCall_eq hb).trans ?_
    refine (zG_hit rfl).trans ?_
    refine (zP_v (vNot_eq (b := true) rfl)).trans ?_
    refine (zP_v (vPick_eq (q := false) rfl)).trans ?_
    refine (zG_hit rfl).trans ?_
    refine (zP_v vMv_eq).trans ?_
    refine (zG_hit rfl).trans ?_
    refine (zP_v (vLenS_eq rfl)).trans ?_
    refine (zG_hit rfl).trans ?_
    refine (zP_v (vInt_eq fGtr_ok rfl rfl (r := .bool true) (iGtr (decide_eq_true (by omega))))).trans ?_
    refine (zP_v (vPick_eq (q := false) rfl)).trans ?_
    refine (zCond_eq (p := true) rfl).trans ?_
    rw [if_pos rfl]
    refine zSeq_reg.trans ?_
    refine (zV_v vMv_eq).trans ?_
    refine zRet_app.trans ?_
    rfl
  · obtain ⟨f1, g39⟩ := c39 (k := k) (by omega) [] (rep (H43 v w ++ List.replicate 8 .dead)) v (okV_of hva) key (by omega)
    obtain ⟨f2, g40⟩ := c40 (k := k) (by omega) [] (rep (H43 v w ++ List.replicate 8 .dead)) v (okV_of hva) key (by omega)
    have hln := homeN_len v (okV_of hva) key
    have g19 := c19 (k := k) [] (rep (H43 v w ++ List.replicate 8 .dead)) (homeN v key) (homeN v key) f1 f2 (by omega) (by omega)
    rw [show (decide (homeN v key = homeN v key)) = true by simp] at g19
    have g41 := c41 (k := k) (by omega) [] (rep (H43 v w ++ List.replicate 8 .dead)) v (okV_of hva) n key (by omega)
    have g42 := c42 (k := k) (by omega) [] (rep (H43 v w ++ List.replicate 8 .dead)) v (okV_of hva) n key (by omega)
    have g43 := c43 (k := k) (by omega) [] (rep (H43 v w ++ List.replicate 8 .dead)) v w (okV_of hva) (okV_of hvb) key (by omega)
    have g44 := c44 (k := k) (by omega) [] (rep (H43 v w ++ List.replicate 8 .dead)) v w (okV_of hva) (okV_of hvb) key (by omega)
    obtain ⟨fo, ho⟩ := outV_sl (newN (homeN v key) (homeN w key))
    have hlw := homeN_len w (okV_of hvb) key
    have hnl : (newN (homeN v key) (homeN w key)).length ≤ (homeN w key).length := List.length_filter_le _ _
    have g19b := c19 (k := k) [] (rep (H43 v w ++ List.replicate 8 .dead)) (newN (homeN v key) (homeN w key)) (newN (homeN v key) (homeN w key)) fo fo (by omega) (by omega)
    rw [show (decide (newN (homeN v key) (homeN w key) = newN (homeN v key) (homeN w key))) = true by simp] at g19b
    rw [ho] at g43 g44
    generalize decide (n ∈ homeN v key) = pk at g41 g42
    refine ⟨?_, (e0 _).trans ?_⟩
    rotate_left
    unfold G8
    dsimp only
    refine zSeq_reg.trans ?_
    refine (zStep_newH rfl (box25 (x := v.m) (y := v.c) rfl)).trans ?_
    refine (zStep_newH rfl (box25 (x := w.m) (y := w.c) rfl)).trans ?_
    refine (zV_v vMv_eq).trans ?_
    refine zSeq_app.trans ?_
    refine zSeq_reg.trans ?_
    refine (zCall_eq h38).trans ?_
    refine (zP_v (vNot_eq (b := true) rfl)).trans ?_
    refine (zCond_eq (p := false) rfl).trans ?_
    rw [if_neg (by decide)]
    refine zSkip_app.trans ?_
    refine zSeq_app.trans ?_
    refine zSeq_reg.trans ?_
    refine (zL_v (wLoad_loc rfl rfl (by simp) rfl)).trans ?_
    refine (zCall_eq ha).trans ?_
    refine (zP_v (vNot_eq (b := true) rfl)).trans ?_
    refine (zG_hit rfl).trans ?_
    refine (zL_v (wLoad_loc rfl rfl (by simp) rfl)).trans ?_
    refine (zG_hit rfl).trans ?_
    refine (zCall_eq hb).trans ?_
    refine (zG_hit rfl).trans ?_
    refine (zP_v (vNot_eq (b := true) rfl)).trans ?_
    refine (zP_v (vPick_eq (q := false) rfl)).trans ?_
    refine (zG_hit rfl).trans ?_
    refine (zP_v vMv_eq).trans ?_
    refine (zG_hit rfl).trans ?_
    refine (zP_v (vLenS_eq rfl)).trans ?_
    refine (zG_hit rfl).trans ?_
    refine (zP_v (vInt_eq fGtr_ok rfl rfl (r := .bool false) (iGtr (decide_eq_false (by omega))))).trans ?_
    refine (zP_v (vPick_eq (q := false) rfl)).trans ?_
    refine (zCond_eq (p := false) rfl).trans ?_
    rw [if_neg (by decide)]
    refine zSkip_app.trans ?_
    refine zSeq_app.trans ?_
    refine zDreg_eq.trans ?_
    refine (zLD_v (wLoad_loc rfl rfl (by simp) rfl) rfl spOk_nil).trans ?_
    refine (zCallD_idle g39 rfl).trans ?_
    refine (zLD_v (wLoad_loc rfl rfl (by simp) rfl) rfl (spOk_apart rfl spOk_nil)).trans ?_
    refine (zCallD_idle g40 rfl).trans ?_
    refine (zCallD_idle g19 rfl).trans ?_
    refine (zGD_hit rfl).trans ?_
    refine (zLD_v (wLoad_loc rfl rfl (by simp) rfl) rfl (spOk_apart rfl (spOk_apart rfl spOk_nil))).trans ?_
    refine (zGD_hit rfl).trans ?_
    refine (zPD_v vMv_eq).trans ?_
    refine (zGD_hit rfl).trans ?_
    refine (zPD_v vMv_eq).trans ?_
    refine (zGD_hit rfl).trans ?_
    refine (zCallD_idle g41 rfl).trans ?_
    refine (zGD_hit rfl).trans ?_
    refine (zLD_v (wLoad_loc rfl rfl (by simp) rfl) rfl (spOk_apart rfl (spOk_apart rfl (spOk_apart rfl spOk_nil)))).trans ?_
    refine (zGD_hit rfl).trans ?_
    refine (zPD_v vMv_eq).trans ?_
    refine (zGD_hit rfl).trans ?_
    refine (zPD_v vMv_eq).trans ?_
    refine (zGD_hit rfl).trans ?_
    refine (zCallD_idle g42 rfl).trans ?_
    refine (zGD_hit rfl).trans ?_
    refine (zPD_v (vInt_boo rfl rfl (x := .bool true) (eqBool _))).trans ?_
    refine (zPD_v (vPick_eq (q := true) rfl)).trans ?_
    refine (zGD_hit rfl).trans ?_
    refine (zLD_v (wLoad_loc rfl rfl (by simp) rfl) rfl (spOk_apart rfl (spOk_apart rfl (spOk_apart rfl (spOk_apart rfl spOk_nil))))).trans ?_
    refine (zGD_hit rfl).trans ?_
    refine (zLD_v (wLoad_loc rfl rfl (by simp) rfl) rfl (spOk_apart rfl (spOk_apart rfl (spOk_apart rfl (spOk_apart rfl (spOk_apart rfl spOk_nil)))))).trans ?_
    refine (zGD_hit rfl).trans ?_
    refine (zPD_v vMv_eq).trans ?_
    refine (zGD_hit rfl).trans ?_
    refine (zCallD_idle g43 rfl).trans ?_
    refine (zGD_hit rfl).trans ?_
    refine (zLD_v (wLoad_loc rfl rfl (by simp) rfl) rfl (spOk_apart rfl (spOk_apart rfl (spOk_apart rfl (spOk_apart rfl (spOk_apart rfl (spOk_apart rfl spOk_nil))))))).trans ?_
    refine (zGD_hit rfl).trans ?_
    refine (zLD_v (wLoad_loc rfl rfl (by simp) rfl) rfl (spOk_apart rfl (spOk_apart rfl (spOk_apart rfl (spOk_apart rfl (spOk_apart rfl (spOk_apart rfl (spOk_apart rfl spOk_nil)))))))).trans ?_
    refine (zGD_hit rfl).trans ?_
    refine (zPD_v vMv_eq).trans ?_
    refine (zGD_hit rfl).trans ?_
    refine (zCallD_idle g44 rfl).trans ?_
    refine (zGD_hit rfl).trans ?_
    refine (zCallD_idle g19b rfl).trans ?_
    refine (zPD_v (vPick_eq (q := true) rfl)).trans ?_
    refine (zVD_v vMv_eq).trans ?_
    refine zRet_app.trans ?_
    rfl
end Go.Proofs.PxR2
