/- Views: the same ones; the first ones; which are at the top (walks by zauto). -/
import Derived.Test.YtpdgbkmpcahjjaaPzV2K
set_option linter.unusedVariables false
set_option linter.unusedSimpArgs false
set_option maxRecDepth 100000
namespace Go.Proofs.PxV2
open Go Go.Px Go.Proofs
theorem neqC (x y : Cop) : binB E1 .neq 59 false false (.agg [.str x.1, .int .u64 (x.2.1 : Int), .int .u64 (x.2.2 : Int)]) (.agg [.str y.1, .int .u64 (y.2.1 : Int), .int .u64 (y.2.2 : Int)]) = some (.bool (decide (x ≠ y))) := by
 have h : binB E1 .neq 59 false false (.agg [.str x.1, .int .u64 (x.2.1 : Int), .int .u64 (x.2.2 : Int)]) (.agg [.str y.1, .int .u64 (y.2.1 : Int), .int .u64 (y.2.2 : Int)]) = (if (x.1 == y.1) = true then (if ((x.2.1 : Int) == (y.2.1 : Int)) = true then (if ((x.2.2 : Int) == (y.2.2 : Int)) = true then some true else some false) else some false) else some false).map fun b => AV.bool !b := by kernel_rfl
 rw [h]
 obtain ⟨a, b, e⟩ := x
 obtain ⟨c, d, g⟩ := y
 by_cases h1 : a = c
 ·by_cases h2 : b = d
  ·by_cases h3 : e = g
   ·subst h1 h2 h3; simp
   ·have : ¬ (e : Int) = (g : Int) := by omega
    simp [h1, h2, h3, this]
  ·have : ¬ (b : Int) = (d : Int) := by omega
   simp [h1, h2, this]
 ·simp [h1]
noncomputable def body48 : CZ := xbody48 E1 (fun _ _ _ => none)
def V48 (l m : List Cop) (f g : Bool) (i v4 r : AV) : List AV := [.sl l.length (copC l) f, .sl m.length (copC m) g, i, iV l.length, v4, r]
theorem loop48 {P : Ans → Prop} {kn : KB} {kx : Nat → KB} {kr : KB} {T : TH} (l m : List Cop) (f g : Bool) (hlm : l.length = m.length) (hl : l.length ≤ 9223372036854775807) (r : AV) :
  ∀ (d i q : Nat) (L : List AV) (v4 : AV), i + d = l.length → d < q → (l.drop i = m.drop i → ∀ L i v4, P (kx 0 L (V48 l m f g i v4 r) T)) → (l.drop i ≠ m.drop i → ∀ L i v4, P (kr L (V48 l m f g i v4 (.bool false)) T)) →
   P (zLoop q body48 kn kx kr L (V48 l m f g (iV i) v4 r) T)
 | 0, i, q, L, v4, hi, hq, h1, h2 => by
  obtain ⟨q, rfl⟩ : ∃ q', q = q' + 1 := ⟨q - 1, by omega⟩
  refine st zLoop_one ?_
  unfold body48 xbody48
  refine zpR <| st (zP_v (vInt_eq fLss_ok rfl rfl (fLss' (by omega)))) <| zpA <| zpf rfl <| st zExit_app ?_
  exact h1 (by rw [List.drop_eq_nil_of_le (by omega), List.drop_eq_nil_of_le (by omega)]) _ _ _
 | d + 1, i, q, L, v4, hi, hq, h1, h2 => by
  obtain ⟨q, rfl⟩ : ∃ q', q = q' + 1 := ⟨q - 1, by omega⟩
  obtain ⟨x, hx⟩ := get_some (l := l) (i := i) (by omega)
  obtain ⟨y, hy⟩ := get_some (l := m) (i := i) (by omega)
  have hcl := copC_len l
  have hcm := copC_len m
  rw [drop_at hx, drop_at hy] at h1 h2
  refine st zLoop_one ?_
  unfold body48 xbody48
  refine zpR <| st (zP_v (vInt_eq fLss_ok rfl rfl (tLss (by omega)))) <| zpA <| zpt rfl <| zpK <| zpA <| st zBlock_app <| zpR <| zpV <| zpA <| st zDreg0 <| st (zPD_v (vIndexAddr_sl rfl rfl (by omega) (by omega))) ?_
  rw [cop_at hx]
  refine st (zLD_idle (wLoad_ref rfl (by simp) rfl) rfl) <| st (zPD_v (vIndexAddr_sl rfl rfl (by omega) (by omega))) ?_
  rw [cop_at hy]
  refine st (zLD_idle (wLoad_ref rfl (by simp) rfl) rfl) <| st (zPD_v (vInt_any rfl rfl (fun _ _ => rfl) (neqC _ _))) ?_
  refine two (b := decide (x ≠ y)) (fun b1 => ?_) (fun b1 => ?_)
  ·have d1 := of_decide_eq_true b1
   refine st (zCond_t (bAV b1)) <| zpR <| zpV <| st zRet_app ?_
   exact h2 (fun e => by simp_all) _ _ _
  ·have d1 := of_decide_eq_false b1
   refine st (zCond_f (bAV b1)) <| zpK <| st zReg_eq <| st (zP_v (vInt_eq fAdd_ok rfl rfl (aAdd1 (by omega)))) <| zpV ?_
   exact loop48 l m f g hlm hl r d (i + 1) q _ _ (by omega) (by omega) (fun e => h1 (by simp_all)) (fun e => h2 (by simp_all))
theorem c47 {k : Nat} (Y : YE) (T : TH) (l m : List Mem) (f g : Bool) (hk : l.length + 2 ≤ k) (hl : l.length ≤ 9223372036854775807) : CY k Y (.func 47) [.sl l.length (memC l) f, .sl m.length (memC m) g] T = some (.bool (decide (l = m)), T, ⟨[], [], false⟩) := by
 obtain ⟨k, rfl⟩ : ∃ j, k = j + 1 := ⟨k - 1, by omega⟩
 refine call_go (zf := G47 E1) rfl rfl (fun _ => rfl) (fun _ => rfl) ?_
 unfold G47
 dsimp only
 by_cases hlm : l.length = m.length
 ·refine zpR <| zpV <| zpA <| zpR <| st (zP_v (vLenL_sl rfl)) <| st (zP_v (vLenL_sl rfl)) <| st (zP_v (vInt_eq fNeq_ok rfl rfl (fNeq' (by omega)))) <| zpf rfl <| zpK <| zpA <| zpR <| st (zV_v (vLenL_sl rfl)) <| zpV <| st zBlock_app ?_
  refine loop47 l m f g hlm hl _ l.length 0 k _ _ (by omega) (by omega) (fun e L i v4 => ?_) (fun e L i v4 => ?_) <;> rw [List.drop_zero, List.drop_zero] at e
  ·rw [show decide (l = m) = true by simpa using e]
   refine st (ifZ_pos rfl) <| zpR <| zpV <| st zRet_app ?_
   exact ends_tmp rfl
  ·rw [show decide (l = m) = false by simpa using e]
   exact ends_tmp rfl
 ·rw [show decide (l = m) = false by rw [decide_eq_false_iff_not]; intro h; exact hlm (by rw [h])]
  refine zpR <| zpV <| zpA <| zpR <| st (zP_v (vLenL_sl rfl)) <| st (zP_v (vLenL_sl rfl)) <| st (zP_v (vInt_eq fNeq_ok rfl rfl (tNeq (by omega)))) <| zpt rfl <| zpR <| zpV <| st zRet_app ?_
  exact ends_tmp rfl
theorem c48 {k : Nat} (Y : YE) (T : TH) (l m : List Cop) (f g : Bool) (hk : l.length + 2 ≤ k) (hl : l.length ≤ 9223372036854775807) : CY k Y (.func 48) [.sl l.length (copC l) f, .sl m.length (copC m) g] T = some (.bool (decide (l = m)), T, ⟨[], [], false⟩) := by
 obtain ⟨k, rfl⟩ : ∃ j, k = j + 1 := ⟨k - 1, by omega⟩
 refine call_go (zf := G48 E1) rfl rfl (fun _ => rfl) (fun _ => rfl) ?_
 unfold G48
 dsimp only
 by_cases hlm : l.length = m.length
 ·refine zpR <| zpV <| zpA <| zpR <| st (zP_v (vLenL_sl rfl)) <| st (zP_v (vLenL_sl rfl)) <| st (zP_v (vInt_eq fNeq_ok rfl rfl (fNeq' (by omega)))) <| zpf rfl <| zpK <| zpA <| zpR <| st (zV_v (vLenL_sl rfl)) <| zpV <| st zBlock_app ?_
  refine loop48 l m f g hlm hl _ l.length 0 k _ _ (by omega) (by omega) (fun e L i v4 => ?_) (fun e L i v4 => ?_) <;> rw [List.drop_zero, List.drop_zero] at e
  ·rw [show decide (l = m) = true by simpa using e]
   refine st (ifZ_pos rfl) <| zpR <| zpV <| st zRet_app ?_
   exact ends_tmp rfl
  ·rw [show decide (l = m) = false by simpa using e]
   exact ends_tmp rfl
 ·rw [show decide (l = m) = false by rw [decide_eq_false_iff_not]; intro h; exact hlm (by rw [h])]
  refine zpR <| zpV <| zpA <| zpR <| st (zP_v (vLenL_sl rfl)) <| st (zP_v (vLenL_sl rfl)) <| st (zP_v (vInt_eq fNeq_ok rfl rfl (tNeq (by omega)))) <| zpt rfl <| zpR <| zpV <| st zRet_app ?_
  exact ends_tmp rfl
end Go.Proofs.PxV2
