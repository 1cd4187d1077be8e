/- Views: the same members, copies (walks by zauto). -/
import Derived.Test.YtpdgbkmpcahjjaaPzV2H
import Derived.Test.YtpdgbkmpcahjjaaPb4
set_option linter.unusedVariables false
set_option linter.unusedSimpArgs false
set_option maxRecDepth 100000
namespace Go.Proofs.PxV2
open Go Go.Px Go.Proofs
theorem mem_at {l : List Mem} {i : Nat} {x : Mem} (h : l[i]? = some x) : (memC l).drop (i * 2) = iV x.1 :: .int .u64 (x.2 : Int) :: (memC l).drop (i * 2 + 2) := mem_drop l i x.1 x.2 h
theorem cop_at {l : List Cop} {i : Nat} {x : Cop} (h : l[i]? = some x) : (copC l).drop (i * 3) = .str x.1 :: .int .u64 (x.2.1 : Int) :: .int .u64 (x.2.2 : Int) :: (copC l).drop (i * 3 + 3) := cop_drop l i x.1 x.2.1 x.2.2 h
theorem get_some {α : Type} {l : List α} {i : Nat} (h : i < l.length) : ∃ x, l[i]? = some x := ⟨l[i], by simp [h]⟩
theorem neqM (x y : Mem) : binB E1 .neq 55 false false (.agg [iV x.1, .int .u64 (x.2 : Int)]) (.agg [iV y.1, .int .u64 (y.2 : Int)]) = some (.bool (decide (x ≠ y))) := by
 have h : binB E1 .neq 55 false false (.agg [iV x.1, .int .u64 (x.2 : Int)]) (.agg [iV y.1, .int .u64 (y.2 : Int)]) = (if (x.1 == y.1) = true then (if ((x.2 : Int) == (y.2 : Int)) = true then some true else some false) else some false).map fun b => AV.bool !b := by kernel_rfl
 rw [h]
 obtain ⟨a, b⟩ := x
 obtain ⟨c, d⟩ := y
 by_cases h1 : a = c
 ·by_cases h2 : b = d
  ·subst h1 h2; simp
  ·have : ¬ (b : Int) = (d : Int) := by omega
   simp [h1, h2, this]
 ·simp [h1]
noncomputable def body47 : CZ := xbody47 E1 (fun _ _ _ => none)
def V47 (l m : List Mem) (f g : Bool) (i v4 r : AV) : List AV := [.sl l.length (memC l) f, .sl m.length (memC m) g, i, iV l.length, v4, r]
theorem loop47 {P : Ans → Prop} {kn : KB} {kx : Nat → KB} {kr : KB} {T : TH} (l m : List Mem) (f g : Bool) (hlm : l.length = m.length) (hl : l.length ≤ 9223372036854775807) (r : AV) :
  ∀ (d i q : Nat) (L : List AV) (v4 : AV), i + d = l.length → d < q → (l.drop i = m.drop i → ∀ L i v4, P (kx 0 L (V47 l m f g i v4 r) T)) → (l.drop i ≠ m.drop i → ∀ L i v4, P (kr L (V47 l m f g i v4 (.bool false)) T)) →
   P (zLoop q body47 kn kx kr L (V47 l m f g (iV i) v4 r) T)
 | 0, i, q, L, v4, hi, hq, h1, h2 => by
  obtain ⟨q, rfl⟩ : ∃ q', q = q' + 1 := ⟨q - 1, by omega⟩
  refine st zLoop_one ?_
  unfold body47 xbody47
  refine zpR <| st (zP_v (vInt_eq fLss_ok rfl rfl (fLss' (by omega)))) <| zpA <| zpf rfl <| st zExit_app ?_
  exact h1 (by rw [List.drop_eq_nil_of_le (by omega), List.drop_eq_nil_of_le (by omega)]) _ _ _
 | d + 1, i, q, L, v4, hi, hq, h1, h2 => by
  obtain ⟨q, rfl⟩ : ∃ q', q = q' + 1 := ⟨q - 1, by omega⟩
  obtain ⟨x, hx⟩ := get_some (l := l) (i := i) (by omega)
  obtain ⟨y, hy⟩ := get_some (l := m) (i := i) (by omega)
  have hcl := memC_len l
  have hcm := memC_len m
  rw [drop_at hx, drop_at hy] at h1 h2
  refine st zLoop_one ?_
  unfold body47 xbody47
  refine zpR <| st (zP_v (vInt_eq fLss_ok rfl rfl (tLss (by omega)))) <| zpA <| zpt rfl <| zpK <| zpA <| st zBlock_app <| zpR <| zpV <| zpA <| st zDreg0 <| st (zPD_v (vIndexAddr_sl rfl rfl (by omega) (by omega))) ?_
  rw [mem_at hx]
  refine st (zLD_idle (wLoad_ref rfl (by simp) rfl) rfl) <| st (zPD_v (vIndexAddr_sl rfl rfl (by omega) (by omega))) ?_
  rw [mem_at hy]
  refine st (zLD_idle (wLoad_ref rfl (by simp) rfl) rfl) <| st (zPD_v (vInt_any rfl rfl (fun _ _ => rfl) (neqM _ _))) ?_
  refine two (b := decide (x ≠ y)) (fun b1 => ?_) (fun b1 => ?_)
  ·have d1 := of_decide_eq_true b1
   refine st (zCond_t (bAV b1)) <| zpR <| zpV <| st zRet_app ?_
   exact h2 (fun e => by simp_all) _ _ _
  ·have d1 := of_decide_eq_false b1
   refine st (zCond_f (bAV b1)) <| zpK <| st zReg_eq <| st (zP_v (vInt_eq fAdd_ok rfl rfl (aAdd1 (by omega)))) <| zpV ?_
   exact loop47 l m f g hlm hl r d (i + 1) q _ _ (by omega) (by omega) (fun e => h1 (by simp_all)) (fun e => h2 (by simp_all))
end Go.Proofs.PxV2
