/- Views: joined, turned, set (walks by zauto). -/
import Derived.Test.YtpdgbkmpcahjjaaPzV2O
set_option linter.unusedVariables false
set_option linter.unusedSimpArgs false
set_option maxRecDepth 100000
namespace Go.Proofs.PxV2
open Go Go.Px Go.Proofs
def mergeM (g : Mem → Mem → Mem) (A B : List Mem) : List Mem := B.foldl (fun C x => insM g x C) A
def mergeC (g : Cop → Cop → Cop) (A B : List Cop) : List Cop := B.foldl (fun C x => insC g x C) A
theorem mergeC_len (g : Cop → Cop → Cop) : ∀ (B A : List Cop), (mergeC g A B).length ≤ A.length + B.length
 | [], A => by simp [mergeC]
 | x :: B, A => by
  have := mergeC_len g B (insC g x A)
  have := insC_len g x A
  simp only [mergeC, List.foldl_cons, List.length_cons] at *
  omega
theorem mergeM_len (g : Mem → Mem → Mem) : ∀ (B A : List Mem), (mergeM g A B).length ≤ A.length + B.length
 | [], A => by simp [mergeM]
 | x :: B, A => by
  have := mergeM_len g B (insM g x A)
  have := insM_len g x A
  simp only [mergeM, List.foldl_cons, List.length_cons] at *
  omega
theorem gM_key (c d : Mem) (h : c.1 = d.1) : (gM c d).1 = c.1 := rfl
theorem gT_key (c d : Mem) (h : c.1 = d.1) : (gT c d).1 = c.1 := rfl
theorem gS_key (c d : Cop) (h : c.1 = d.1) : (gS c d).1 = c.1 := h.symm
theorem c49m {k : Nat} (Y : YE) (T : TH) (f : Nat) (g : Cop → Cop → Cop) (hnp : E1.prim f = fun _ => none) (hg : ∀ T c d, CY (k + 4) [] (.func f) [copA c, copA d] T = some (copA (g c d), T, ⟨[], [], false⟩)) (hgk : ∀ c d, c.1 = d.1 → (g c d).1 = c.1) (A B : List Cop) (fa fb : Bool) (hA : SortedC A) (hl : A.length + B.length < 50000) (hk : A.length + B.length < k) :
  ∃ fo, CY (k + 5) Y (.func 49) [.sl A.length (copC A) fa, .sl B.length (copC B) fb, .clo 50 [], .clo f []] T = some (.sl (mergeC g A B).length (copC (mergeC g A B)) fo, T, ⟨[], [], false⟩) ∧ SortedC (mergeC g A B) := c49 Y T f g hnp hg hgk A B fa fb hA hl hk
theorem c54m {k : Nat} (Y : YE) (T : TH) (f : Nat) (g : Mem → Mem → Mem) (hnp : E1.prim f = fun _ => none) (hg : ∀ T c d, CY (k + 4) [] (.func f) [memB c, memB d] T = some (memB (g c d), T, ⟨[], [], false⟩)) (hgk : ∀ c d, c.1 = d.1 → (g c d).1 = c.1) (A B : List Mem) (fa fb : Bool) (hA : SortedM A) (hl : A.length + B.length < 50000) (hk : A.length + B.length < k) :
  ∃ fo, CY (k + 5) Y (.func 54) [.sl A.length (memC A) fa, .sl B.length (memC B) fb, .clo 45 [], .clo f []] T = some (.sl (mergeM g A B).length (memC (mergeM g A B)) fo, T, ⟨[], [], false⟩) ∧ SortedM (mergeM g A B) := c54 Y T f g hnp hg hgk A B fa fb hA hl hk
theorem c17 {k : Nat} (Y : YE) (T : TH) (a b : VwT) (hk : 1000 ≤ k) (ha : OkV a) (hb : OkV b) (hsm : SortedM a.M) :
  ∃ f1 f2, CY k Y (.func 17) [a.av, b.av] T = some ((VwT.mk (mergeM gM a.M b.M) ((mergeC gJ a.C b.C).take 40) f1 f2).av, T, ⟨[], [], false⟩) := by
 obtain ⟨k, rfl⟩ : ∃ j, k = j + 7 + 1 := ⟨k - 8, by omega⟩
 have := ha.m; have := hb.m; have := ha.c; have := hb.c
 obtain ⟨f2, h49, hs49⟩ := c49m (k := k + 2) [] (rep [.row 25 [a.m, a.c] false, .row 25 [b.m, b.c] false, .row 25 [.sl 0 [] true, .sl 0 [] true] false]) 51 gJ rfl (fun T c d => g51 T c d) gJ_key a.C b.C a.fC b.fC ha.s (by omega) (by omega)
 obtain ⟨f1, h54, hs54⟩ := c54m (k := k + 2) [] (rep [.row 25 [a.m, a.c] false, .row 25 [b.m, b.c] false, .row 25 [.sl 0 [] true, .sl 0 [] true] false, .dead]) 55 gM rfl (fun T c d => g55 T c d) gM_key a.M b.M a.fM b.fM hsm (by omega) (by omega)
 have hl := mergeC_len gJ b.C a.C
 refine ⟨f1, f2 && (min (mergeC gJ a.C b.C).length 40 == (mergeC gJ a.C b.C).length), ?_⟩
 refine call_go (zf := G17 E1) rfl rfl (fz_two a b) (fun _ => rfl) ?_
 unfold G17
 dsimp only
 have hcl := copC_len (mergeC gJ a.C b.C)
 have e40 : AV.int .i64 (min ((mergeC gJ a.C b.C).length : Int) 40) = .int .i64 ((min (mergeC gJ a.C b.C).length 40 : Nat) : Int) := by congr 1; omega
 have er : (VwT.mk (mergeM gM a.M b.M) ((mergeC gJ a.C b.C).take 40) f1 (f2 && (min (mergeC gJ a.C b.C).length 40 == (mergeC gJ a.C b.C).length))).av = .agg [.sl (mergeM gM a.M b.M).length (memC (mergeM gM a.M b.M)) f1, .sl (min (mergeC gJ a.C b.C).length 40) ((copC (mergeC gJ a.C b.C)).take (min (mergeC gJ a.C b.C).length 40 * 3)) (f2 && (min (mergeC gJ a.C b.C).length 40 == (mergeC gJ a.C b.C).length))] := by
  have h2 : (mergeC gJ a.C b.C).take (min (mergeC gJ a.C b.C).length 40) = (mergeC gJ a.C b.C).take 40 := by
   by_cases h : (mergeC gJ a.C b.C).length ≤ 40
   ·rw [List.take_of_length_le (l := mergeC gJ a.C b.C) (i := 40) h, List.take_of_length_le (by omega)]
   ·rw [show min (mergeC gJ a.C b.C).length 40 = 40 by omega]
  rw [copC_take, h2]
  show AV.agg [_, .sl ((mergeC gJ a.C b.C).take 40).length _ _] = _
  rw [List.length_take, Nat.min_comm 40]
  rfl
 rw [er]
 refine zpR <| st (sV_new (ev_box rfl rfl ⟨_, rfl⟩)) <| st (sV_new (ev_box rfl rfl ⟨_, rfl⟩)) <| st (sV_new (ev_alloc ⟨_, rfl, rfl⟩)) <| zpR <| st (zP_v (vFieldAddr_loc rfl)) <| st (zL_v (wL_loc rfl rfl rfl rfl)) <| st (zP_v (vFieldAddr_loc rfl)) <| st (zL_v (wL_loc rfl rfl rfl rfl)) <| st (cP_call rfl h49) <| zpV <| zpA <| st zDreg_eq <| st (zPD_v (vFieldAddr_loc rfl)) <| st (zLD_v (wL_loc rfl rfl rfl rfl) rfl (by kernel_rfl)) <| st (zPD_v (vFieldAddr_loc rfl)) <| st (zLD_v (wL_loc rfl rfl rfl rfl) rfl (by kernel_rfl)) <| st (cP_idle rfl h54 rfl) <| st (zPD_v (vLenL_sl rfl)) <| st (dP_val (ev_min rfl rfl) rfl) <| st (dP_val (slice_sl_hi (h := min (mergeC gJ a.C b.C).length 40) row23 rfl e40 hcl (by omega)) rfl) <| st (dP_val (a := Acc.none) rfl rfl) <| st (dN_put (ev_store rfl rfl rfl ⟨_, rfl, rfl⟩ rfl rfl) rfl (by kernel_rfl)) <| st zRet_app ?_
 exact ends_cell rfl rfl ⟨_, rfl, Nat.le_refl _, rfl⟩ rfl
end Go.Proofs.PxV2
