/- Views: which are at the top; joined (walks by zauto). -/
import Derived.Test.YtpdgbkmpcahjjaaPzV2N
set_option linter.unusedVariables false
set_option linter.unusedSimpArgs false
set_option maxRecDepth 100000
namespace Go.Proofs.PxV2
open Go Go.Px Go.Proofs
def topN (n : Nat) : Bool := decide (n = 18446744073709551615)
def topW (w : VwT) : Bool := (w.M.any fun x => topN x.2) || w.C.any fun x => topN x.2.1
noncomputable def body16M : CZ := xbody16M E1 (fun _ _ _ => none)
noncomputable def body16C : CZ := xbody16C E1 (fun _ _ _ => none)
theorem loop16M {P : Ans → Prop} {kn : KB} {kx : Nat → KB} {kr : KB} (w : VwT) (hl : w.M.length ≤ 9223372036854775807) (hw : ∀ x ∈ w.M, x.2 < 18446744073709551616) (v3 : AV) :
  ∀ (d i q : Nat) (L : List AV), i + d = w.M.length → d < q → ((w.M.drop i).any (fun x => topN x.2) = false → ∀ L i, P (kx 0 L [w.av, i, .loc 0 0, v3, .bool false] (rep [.row 25 [w.m, w.c] false]))) → ((w.M.drop i).any (fun x => topN x.2) = true → ∀ L i, P (kr L [w.av, i, .loc 0 0, v3, .bool true] (rep [.row 25 [w.m, w.c] false]))) →
   P (zLoop q body16M kn kx kr L [w.av, iV i, .loc 0 0, v3, .bool false] (rep [.row 25 [w.m, w.c] false]))
 | 0, i, q, L, hi, hq, h1, h2 => by
  obtain ⟨q, rfl⟩ : ∃ q', q = q' + 1 := ⟨q - 1, by omega⟩
  refine st zLoop_one ?_
  unfold body16M xbody16M
  refine zpA <| zpR <| st (zP_v (vFieldAddr_loc rfl)) <| st (zL_v (wL_loc rfl rfl rfl rfl)) <| st (zP_v (vLenL_sl rfl)) <| st (zP_v (vInt_eq fLss_ok rfl rfl (fLss' (by omega)))) <| zpf rfl <| st zExit_app ?_
  exact h1 (by rw [List.drop_eq_nil_of_le (by omega)]; rfl) _ _
 | d + 1, i, q, L, hi, hq, h1, h2 => by
  obtain ⟨q, rfl⟩ : ∃ q', q = q' + 1 := ⟨q - 1, by omega⟩
  obtain ⟨x, hx⟩ := get_some (l := w.M) (i := i) (by omega)
  have hcl := memC_len w.M
  have hxw := hw x (List.mem_of_getElem? hx)
  rw [drop_at hx, List.any_cons] at h1 h2
  refine st zLoop_one ?_
  unfold body16M xbody16M
  by_cases ht : x.2 = 18446744073709551615
  ·have ht2 : topN x.2 = true := by simpa [topN] using ht
   refine zpA <| zpR <| st (zP_v (vFieldAddr_loc rfl)) <| st (zL_v (wL_loc rfl rfl rfl rfl)) <| st (zP_v (vLenL_sl rfl)) <| st (zP_v (vInt_eq fLss_ok rfl rfl (tLss (by omega)))) <| zpt rfl <| zpK <| zpA <| st zBlock_app <| zpR <| st (zP_v (vFieldAddr_loc rfl)) <| st (zL_v (wL_loc rfl rfl rfl rfl)) <| st (zP_v (vIndexAddr_sl rfl rfl (by omega) (by omega))) ?_
   (rw [mem_at hx, ht])
   refine st (zP_v (vFieldAddr_ref rfl (by simp))) <| st (zL_v (wL_ref rfl rfl rfl)) <| st (zP_v (vInt_eq fAdd_ok rfl rfl rfl)) <| st (zP_v (vInt_eq fEql_ok rfl rfl qEql)) <| zpt rfl <| zpR <| zpV <| st zRet_app ?_
   exact h2 (by rw [ht2]; rfl) _ _
  ·have ht2 : topN x.2 = false := by simpa [topN] using ht
   rw [ht2, Bool.false_or] at h1 h2
   refine zpA <| zpR <| st (zP_v (vFieldAddr_loc rfl)) <| st (zL_v (wL_loc rfl rfl rfl rfl)) <| st (zP_v (vLenL_sl rfl)) <| st (zP_v (vInt_eq fLss_ok rfl rfl (tLss (by omega)))) <| zpt rfl <| zpK <| zpA <| st zBlock_app <| zpR <| st (zP_v (vFieldAddr_loc rfl)) <| st (zL_v (wL_loc rfl rfl rfl rfl)) <| st (zP_v (vIndexAddr_sl rfl rfl (by omega) (by omega))) ?_
   rw [mem_at hx]
   refine st (zP_v (vFieldAddr_ref rfl (by simp))) <| st (zL_v (wL_ref rfl rfl rfl)) <| st (zP_v (vInt_eq fAdd_ok rfl rfl (aAddU1 (by omega)))) <| st (zP_v (vInt_eq fEql_ok rfl rfl (fEql' (by omega)))) <| zpf rfl <| zpK <| st zReg_eq <| st (zP_v vMv_eq) <| st (zP_v (vInt_eq fAdd_ok rfl rfl (aAdd1 (by omega)))) <| zpV ?_
   exact loop16M w hl hw v3 d (i + 1) q _ (by omega) (by omega) h1 h2
theorem loop16C {P : Ans → Prop} {kn : KB} {kx : Nat → KB} {kr : KB} (w : VwT) (hl : w.C.length ≤ 9223372036854775807) (hw : ∀ x ∈ w.C, x.2.1 < 18446744073709551616) (v1 : AV) :
  ∀ (d i q : Nat) (L : List AV), i + d = w.C.length → d < q → ((w.C.drop i).any (fun x => topN x.2.1) = false → ∀ L i, P (kx 2 L [w.av, v1, .loc 0 0, i, .bool false] (rep [.row 25 [w.m, w.c] false]))) → ((w.C.drop i).any (fun x => topN x.2.1) = true → ∀ L i, P (kr L [w.av, v1, .loc 0 0, i, .bool true] (rep [.row 25 [w.m, w.c] false]))) →
   P (zLoop q body16C kn kx kr L [w.av, v1, .loc 0 0, iV i, .bool false] (rep [.row 25 [w.m, w.c] false]))
 | 0, i, q, L, hi, hq, h1, h2 => by
  obtain ⟨q, rfl⟩ : ∃ q', q = q' + 1 := ⟨q - 1, by omega⟩
  refine st zLoop_one ?_
  unfold body16C xbody16C
  refine zpA <| zpR <| st (zP_v (vFieldAddr_loc rfl)) <| st (zL_v (wL_loc rfl rfl rfl rfl)) <| st (zP_v (vLenL_sl rfl)) <| st (zP_v (vInt_eq fLss_ok rfl rfl (fLss' (by omega)))) <| zpf rfl <| st zExit_app ?_
  exact h1 (by rw [List.drop_eq_nil_of_le (by omega)]; rfl) _ _
 | d + 1, i, q, L, hi, hq, h1, h2 => by
  obtain ⟨q, rfl⟩ : ∃ q', q = q' + 1 := ⟨q - 1, by omega⟩
  obtain ⟨x, hx⟩ := get_some (l := w.C) (i := i) (by omega)
  have hcl := copC_len w.C
  have hxw := hw x (List.mem_of_getElem? hx)
  rw [drop_at hx, List.any_cons] at h1 h2
  refine st zLoop_one ?_
  unfold body16C xbody16C
  by_cases ht : x.2.1 = 18446744073709551615
  ·have ht2 : topN x.2.1 = true := by simpa [topN] using ht
   refine zpA <| zpR <| st (zP_v (vFieldAddr_loc rfl)) <| st (zL_v (wL_loc rfl rfl rfl rfl)) <| st (zP_v (vLenL_sl rfl)) <| st (zP_v (vInt_eq fLss_ok rfl rfl (tLss (by omega)))) <| zpt rfl <| zpK <| zpA <| st zBlock_app <| zpR <| st (zP_v (vFieldAddr_loc rfl)) <| st (zL_v (wL_loc rfl rfl rfl rfl)) <| st (zP_v (vIndexAddr_sl rfl rfl (by omega) (by omega))) ?_
   (rw [cop_at hx, ht])
   refine st (zP_v (vFieldAddr_ref rfl (by simp))) <| st (zL_v (wL_ref rfl rfl rfl)) <| st (zP_v (vInt_eq fAdd_ok rfl rfl rfl)) <| st (zP_v (vInt_eq fEql_ok rfl rfl qEql)) <| zpt rfl <| zpR <| zpV <| st zRet_app ?_
   exact h2 (by rw [ht2]; rfl) _ _
  ·have ht2 : topN x.2.1 = false := by simpa [topN] using ht
   rw [ht2, Bool.false_or] at h1 h2
   refine zpA <| zpR <| st (zP_v (vFieldAddr_loc rfl)) <| st (zL_v (wL_loc rfl rfl rfl rfl)) <| st (zP_v (vLenL_sl rfl)) <| st (zP_v (vInt_eq fLss_ok rfl rfl (tLss (by omega)))) <| zpt rfl <| zpK <| zpA <| st zBlock_app <| zpR <| st (zP_v (vFieldAddr_loc rfl)) <| st (zL_v (wL_loc rfl rfl rfl rfl)) <| st (zP_v (vIndexAddr_sl rfl rfl (by omega) (by omega))) ?_
   rw [cop_at hx]
   refine st (zP_v (vFieldAddr_ref rfl (by simp))) <| st (zL_v (wL_ref rfl rfl rfl)) <| st (zP_v (vInt_eq fAdd_ok rfl rfl (aAddU1 (by omega)))) <| st (zP_v (vInt_eq fEql_ok rfl rfl (fEql' (by omega)))) <| zpf rfl <| zpK <| st zReg_eq <| st (zP_v vMv_eq) <| st (zP_v (vInt_eq fAdd_ok rfl rfl (aAdd1 (by omega)))) <| zpV ?_
   exact loop16C w hl hw v1 d (i + 1) q _ (by omega) (by omega) h1 h2
theorem fz_v1 (w : VwT) (g : Nat → Option AO) : fzL (fzG E1 g fzDeep) [w.av] = some ([w.av], []) := rfl
theorem c16 {k : Nat} (Y : YE) (T : TH) (w : VwT) (hk : w.M.length + w.C.length + 4 ≤ k) (hm : w.M.length ≤ 9223372036854775807) (hc : w.C.length ≤ 9223372036854775807) (hwm : ∀ x ∈ w.M, x.2 < 18446744073709551616) (hwc : ∀ x ∈ w.C, x.2.1 < 18446744073709551616) : CY k Y (.func 16) [w.av] T = some (.bool (topW w), T, ⟨[], [], false⟩) := by
 obtain ⟨k, rfl⟩ : ∃ j, k = j + 1 := ⟨k - 1, by omega⟩
 refine call_go (zf := G16 E1) rfl rfl (fz_v1 w) (fun _ => rfl) ?_
 unfold G16
 dsimp only
 refine zpR <| st (sV_new (ev_box rfl rfl ⟨_, rfl⟩)) <| zpV <| zpA <| zpR <| zpV <| st zBlock_app ?_
 refine loop16M w hm hwm _ w.M.length 0 k _ (by omega) (by omega) (fun e L i => ?_) (fun e L i => ?_) <;> rw [List.drop_zero] at e
 ·refine st (ifZ_pos rfl) <| zpA <| zpR <| zpV <| st zBlock_app ?_
  refine loop16C w hc hwc _ w.C.length 0 k _ (by omega) (by omega) (fun e2 L i => ?_) (fun e2 L i => ?_) <;> rw [List.drop_zero] at e2
  ·rw [show topW w = false by simp only [topW, e, e2]; rfl]
   refine st (ifZ_pos rfl) <| zpR <| zpV <| st zRet_app ?_
   exact ends_tmp rfl
  ·rw [show topW w = true by simp only [topW, e, e2]; rfl]
   exact ends_tmp rfl
 ·rw [show topW w = true by simp only [topW, e]; rfl]
  exact ends_tmp rfl
end Go.Proofs.PxV2
