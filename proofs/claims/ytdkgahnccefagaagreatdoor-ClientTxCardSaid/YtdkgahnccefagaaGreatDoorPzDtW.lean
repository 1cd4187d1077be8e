/- The walk out of the finite checks. -/
import Derived.Test.YtdkgahnccefagaaGreatDoorPzDtH0
import Derived.Test.YtdkgahnccefagaaGreatDoorPzDtH1
import Derived.Test.YtdkgahnccefagaaGreatDoorPzDtH2
import Derived.Test.YtdkgahnccefagaaGreatDoorPzDtH3
set_option linter.unusedVariables false
set_option linter.unusedSimpArgs false
set_option maxRecDepth 100000
namespace Go.Proofs.PxDt
open Go Go.Px

theorem tab133 : ∀ p ∈ T133, ∃ H acc, callA E1 400 (.func 133) p.1 [] = some (p.2, H, acc) := fun p hp => by
  have h0 : chk133 p = true := by
    unfold T133 at hp
    · exact List.all_eq_true.1 t133_0 p hp
  obtain ⟨H, acc, h⟩ := saysZ_ok h0
  obtain ⟨H1, h⟩ := z_ok rfl rfl nl1 hnp1 h
  exact ⟨H1, acc, h⟩
theorem ok2 : PrimOk Tryz.prog E2 := tell_prim env1 fr1 ok1 mixed (by decide +kernel) fun args r h => by
  obtain ⟨H, acc, h⟩ := tab133 _ (memoQ_ok h)
  exact ⟨400, H, acc, h⟩
theorem tab139 : ∀ p ∈ T139, ∃ H acc, callA E2 400 (.func 139) p.1 [] = some (p.2, H, acc) := fun p hp => by
  have h0 : chk139 p = true := by
    unfold T139 at hp
    · exact List.all_eq_true.1 t139_0 p hp
  obtain ⟨H, acc, h⟩ := saysZ_ok h0
  obtain ⟨H1, h⟩ := z_ok rfl rfl nl2 hnp2 h
  exact ⟨H1, acc, h⟩
theorem ok3 : PrimOk Tryz.prog E3 := tell_prim env2 fr2 ok2 mixed (by decide +kernel) fun args r h => by
  obtain ⟨H, acc, h⟩ := tab139 _ (memoQ_ok h)
  exact ⟨400, H, acc, h⟩
theorem tab75 : ∀ p ∈ T75, ∃ H acc, callA E3 400 (.func 75) p.1 [] = some (p.2, H, acc) := fun p hp => by
  have h0 : chk75 p = true := by
    unfold T75 at hp
    · exact List.all_eq_true.1 t75_0 p hp
  obtain ⟨H, acc, h⟩ := saysZ_ok h0
  obtain ⟨H1, h⟩ := z_ok rfl rfl nl3 hnp3 h
  exact ⟨H1, acc, h⟩
theorem ok4 : PrimOk Tryz.prog E4 := tell_prim env3 fr3 ok3 mixed (by decide +kernel) fun args r h => by
  obtain ⟨H, acc, h⟩ := tab75 _ (memoQ_ok h)
  exact ⟨400, H, acc, h⟩
theorem tab136 : ∀ p ∈ T136, ∃ H acc, callA E4 400 (.func 136) p.1 [] = some (p.2, H, acc) := fun p hp => by
  have h0 : chk136 p = true := by
    unfold T136 at hp
    · exact List.all_eq_true.1 t136_0 p hp
  obtain ⟨H, acc, h⟩ := saysZ_ok h0
  obtain ⟨H1, h⟩ := z_ok rfl rfl nl4 hnp4 h
  exact ⟨H1, acc, h⟩
theorem ok5 : PrimOk Tryz.prog E5 := tell_prim env4 fr4 ok4 mixed (by decide +kernel) fun args r h => by
  obtain ⟨H, acc, h⟩ := tab136 _ (memoQ_ok h)
  exact ⟨400, H, acc, h⟩
theorem tab77 : ∀ p ∈ T77, ∃ H acc, callA E5 400 (.func 77) p.1 [] = some (p.2, H, acc) := fun p hp => by
  have h0 : chk77 p = true := by
    unfold T77 at hp
    · exact List.all_eq_true.1 t77_0 p hp
  obtain ⟨H, acc, h⟩ := saysZ_ok h0
  obtain ⟨H1, h⟩ := z_ok rfl rfl nl5 hnp5 h
  exact ⟨H1, acc, h⟩
theorem ok6 : PrimOk Tryz.prog E6 := tell_prim env5 fr5 ok5 mixed (by decide +kernel) fun args r h => by
  obtain ⟨H, acc, h⟩ := tab77 _ (memoQ_ok h)
  exact ⟨400, H, acc, h⟩
theorem tab95 : ∀ p ∈ T95, ∃ H acc, callA E6 400 (.func 95) p.1 [] = some (p.2, H, acc) := fun p hp => by
  have h0 : chk95 p = true := by
    unfold T95 at hp
    · exact List.all_eq_true.1 t95_0 p hp
  obtain ⟨H, acc, h⟩ := saysZ_ok h0
  obtain ⟨H1, h⟩ := z_ok rfl rfl nl6 hnp6 h
  exact ⟨H1, acc, h⟩
theorem ok7 : PrimOk Tryz.prog E7 := tell_prim env6 fr6 ok6 mixed (by decide +kernel) fun args r h => by
  obtain ⟨H, acc, h⟩ := tab95 _ (memoQ_ok h)
  exact ⟨400, H, acc, h⟩
theorem tab374 : ∀ p ∈ T374, ∃ H acc, callA E7 400 (.func 374) p.1 [] = some (p.2, H, acc) := fun p hp => by
  have h0 : chk374 p = true := by
    unfold T374 at hp
    · exact List.all_eq_true.1 t374_0 p hp
  obtain ⟨H, acc, h⟩ := saysZ_ok h0
  obtain ⟨H1, h⟩ := z_ok rfl rfl nl7 hnp7 h
  exact ⟨H1, acc, h⟩
theorem ok8 : PrimOk Tryz.prog E8 := tell_prim env7 fr7 ok7 mixed (by decide +kernel) fun args r h => by
  obtain ⟨H, acc, h⟩ := tab374 _ (memoQ_ok h)
  exact ⟨400, H, acc, h⟩
theorem tab104 : ∀ p ∈ T104, ∃ H acc, callA E8 400 (.func 104) p.1 [] = some (p.2, H, acc) := fun p hp => by
  have h0 : chk104 p = true := by
    unfold T104 at hp
    simp only [List.mem_append] at hp
    rcases hp with (hp | hp)
    · exact List.all_eq_true.1 t104_0 p hp
    · exact List.all_eq_true.1 t104_1 p hp
  obtain ⟨H, acc, h⟩ := saysZ_ok h0
  obtain ⟨H1, h⟩ := z_ok rfl rfl nl8 hnp8 h
  exact ⟨H1, acc, h⟩
theorem ok9 : PrimOk Tryz.prog E9 := tell_prim env8 fr8 ok8 mixed (by decide +kernel) fun args r h => by
  obtain ⟨H, acc, h⟩ := tab104 _ (memoQ_ok h)
  exact ⟨400, H, acc, h⟩
theorem tab268 : ∀ p ∈ T268, ∃ H acc, callA E9 400 (.func 268) p.1 [] = some (p.2, H, acc) := fun p hp => by
  have h0 : chk268 p = true := by
    unfold T268 at hp
    · exact List.all_eq_true.1 t268_0 p hp
  obtain ⟨H, acc, h⟩ := saysZ_ok h0
  obtain ⟨H1, h⟩ := z_ok rfl rfl nl9 hnp9 h
  exact ⟨H1, acc, h⟩
theorem ok10 : PrimOk Tryz.prog E10 := tell_prim env9 fr9 ok9 mixed (by decide +kernel) fun args r h => by
  obtain ⟨H, acc, h⟩ := tab268 _ (memoQ_ok h)
  exact ⟨400, H, acc, h⟩
theorem tab138 : ∀ p ∈ T138, ∃ H acc, callA E10 400 (.func 138) p.1 [] = some (p.2, H, acc) := fun p hp => by
  have h0 : chk138 p = true := by
    unfold T138 at hp
    · exact List.all_eq_true.1 t138_0 p hp
  obtain ⟨H, acc, h⟩ := saysZ_ok h0
  obtain ⟨H1, h⟩ := z_ok rfl rfl nl10 hnp10 h
  exact ⟨H1, acc, h⟩
theorem ok11 : PrimOk Tryz.prog E11 := tell_prim env10 fr10 ok10 mixed (by decide +kernel) fun args r h => by
  obtain ⟨H, acc, h⟩ := tab138 _ (memoQ_ok h)
  exact ⟨400, H, acc, h⟩
theorem tab141 : ∀ p ∈ T141, ∃ H acc, callA E11 400 (.func 141) p.1 [] = some (p.2, H, acc) := fun p hp => by
  have h0 : chk141 p = true := by
    unfold T141 at hp
    · exact List.all_eq_true.1 t141_0 p hp
  obtain ⟨H, acc, h⟩ := saysZ_ok h0
  obtain ⟨H1, h⟩ := z_ok rfl rfl nl11 hnp11 h
  exact ⟨H1, acc, h⟩
theorem ok12 : PrimOk Tryz.prog E12 := tell_prim env11 fr11 ok11 mixed (by decide +kernel) fun args r h => by
  obtain ⟨H, acc, h⟩ := tab141 _ (memoQ_ok h)
  exact ⟨400, H, acc, h⟩
theorem tab150 : ∀ p ∈ T150, ∃ H acc, callA E12 400 (.func 150) p.1 [] = some (p.2, H, acc) := fun p hp => by
  have h0 : chk150 p = true := by
    unfold T150 at hp
    · exact List.all_eq_true.1 t150_0 p hp
  obtain ⟨H, acc, h⟩ := saysZ_ok h0
  obtain ⟨H1, h⟩ := z_ok rfl rfl nl12 hnp12 h
  exact ⟨H1, acc, h⟩
theorem ok13 : PrimOk Tryz.prog E13 := tell_prim env12 fr12 ok12 mixed (by decide +kernel) fun args r h => by
  obtain ⟨H, acc, h⟩ := tab150 _ (memoQ_ok h)
  exact ⟨400, H, acc, h⟩
theorem tab15 : ∀ p ∈ T15, ∃ H acc, callA E13 400 (.func 15) p.1 [] = some (p.2, H, acc) := fun p hp => by
  have h0 : chk15 p = true := by
    unfold T15 at hp
    · exact List.all_eq_true.1 t15_0 p hp
  obtain ⟨H, acc, h⟩ := saysZ_ok h0
  obtain ⟨H1, h⟩ := z_ok rfl rfl nl13 hnp13 h
  exact ⟨H1, acc, h⟩
theorem ok14 : PrimOk Tryz.prog E14 := tell_prim env13 fr13 ok13 mixed (by decide +kernel) fun args r h => by
  obtain ⟨H, acc, h⟩ := tab15 _ (memoQ_ok h)
  exact ⟨400, H, acc, h⟩

theorem nonneg8 {a : Int} (h : (Lit.int .u8 a).wf = true) : 0 ≤ a := by
  have h1 : IntKind.u8.min = 0 := rfl
  simp [Lit.wf] at h
  omega

theorem all (x0 : Nat) (x1 : Bool) (h0 : x0 < 5) : chk 4 [.res .u8 x0 5, .bool x1] = true := by
  rcases x0 with _ | _ | _ | _ | _ | x0
  · cases x1
    · exact c0_0
    · exact c0_1
  · cases x1
    · exact c1_0
    · exact c1_1
  · cases x1
    · exact c2_0
    · exact c2_1
  · cases x1
    · exact c3_0
    · exact c3_1
  · cases x1
    · exact c4_0
    · exact c4_1
  · omega


theorem the_walk (a0 : Int) (a1 : Bool) (w0 : (Lit.int .u8 a0).wf = true) (w : World) :
    Calls Tryz.prog 4 #[.int .u8 a0, .bool a1] w fun e w' => e = .returned (.bool true) ∧ Go.Px.GrownO w w' := by
  obtain ⟨H, acc, h⟩ := chk_ok (all (a0.toNat % 5) a1 (Nat.mod_lt _ (by decide)))
  refine pure_grown env14 fr14 ok14 mixed h (S := fun _ _ => False) (fun _ _ h => h.elim) ?_
  exact .cons _ _ _ _ _ (.res _ _ _ _ _ (nonneg8 w0) rfl) (.cons _ _ _ _ _ (.bool _ _) (.nil _))
end Go.Proofs.PxDt
