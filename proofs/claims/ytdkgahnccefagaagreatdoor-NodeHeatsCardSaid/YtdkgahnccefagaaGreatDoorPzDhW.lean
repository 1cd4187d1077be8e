/- The walk out of the finite checks. -/
import Derived.Test.YtdkgahnccefagaaGreatDoorPzDhH0
import Derived.Test.YtdkgahnccefagaaGreatDoorPzDhH1
set_option linter.unusedVariables false
set_option linter.unusedSimpArgs false
set_option maxRecDepth 100000
namespace Go.Proofs.PxDh
open Go Go.Px

theorem tab48 : ∀ p ∈ T48, ∃ H acc, callA E1 400 (.func 48) p.1 [] = some (p.2, H, acc) := fun p hp => by
  have h0 : chk48 p = true := by
    unfold T48 at hp
    · exact List.all_eq_true.1 t48_0 p hp
  obtain ⟨H, acc, h⟩ := saysZ_ok h0
  obtain ⟨H1, h⟩ := z_ok rfl rfl nl1 hnp1 h
  exact ⟨H1, acc, h⟩
theorem ok2 : PrimOk Tryz.prog E2 := tell_prim env1 fr1 ok1 mixed (by decide +kernel) fun args r h => by
  obtain ⟨H, acc, h⟩ := tab48 _ (memoQ_ok h)
  exact ⟨400, H, acc, h⟩
theorem tab75 : ∀ p ∈ T75, ∃ H acc, callA E2 400 (.func 75) p.1 [] = some (p.2, H, acc) := fun p hp => by
  have h0 : chk75 p = true := by
    unfold T75 at hp
    · exact List.all_eq_true.1 t75_0 p hp
  obtain ⟨H, acc, h⟩ := saysZ_ok h0
  obtain ⟨H1, h⟩ := z_ok rfl rfl nl2 hnp2 h
  exact ⟨H1, acc, h⟩
theorem ok3 : PrimOk Tryz.prog E3 := tell_prim env2 fr2 ok2 mixed (by decide +kernel) fun args r h => by
  obtain ⟨H, acc, h⟩ := tab75 _ (memoQ_ok h)
  exact ⟨400, H, acc, h⟩
theorem tab76 : ∀ p ∈ T76, ∃ H acc, callA E3 400 (.func 76) p.1 [] = some (p.2, H, acc) := fun p hp => by
  have h0 : chk76 p = true := by
    unfold T76 at hp
    · exact List.all_eq_true.1 t76_0 p hp
  obtain ⟨H, acc, h⟩ := saysZ_ok h0
  obtain ⟨H1, h⟩ := z_ok rfl rfl nl3 hnp3 h
  exact ⟨H1, acc, h⟩
theorem ok4 : PrimOk Tryz.prog E4 := tell_prim env3 fr3 ok3 mixed (by decide +kernel) fun args r h => by
  obtain ⟨H, acc, h⟩ := tab76 _ (memoQ_ok h)
  exact ⟨400, H, acc, h⟩
theorem tab136 : ∀ p ∈ T136, ∃ H acc, callA E4 400 (.func 136) p.1 [] = some (p.2, H, acc) := fun p hp => by
  have h0 : chk136 p = true := by
    unfold T136 at hp
    · exact List.all_eq_true.1 t136_0 p hp
  obtain ⟨H, acc, h⟩ := saysZ_ok h0
  obtain ⟨H1, h⟩ := z_ok rfl rfl nl4 hnp4 h
  exact ⟨H1, acc, h⟩
theorem ok5 : PrimOk Tryz.prog E5 := tell_prim env4 fr4 ok4 mixed (by decide +kernel) fun args r h => by
  obtain ⟨H, acc, h⟩ := tab136 _ (memoQ_ok h)
  exact ⟨400, H, acc, h⟩
theorem tab137 : ∀ p ∈ T137, ∃ H acc, callA E5 400 (.func 137) p.1 [] = some (p.2, H, acc) := fun p hp => by
  have h0 : chk137 p = true := by
    unfold T137 at hp
    · exact List.all_eq_true.1 t137_0 p hp
  obtain ⟨H, acc, h⟩ := saysZ_ok h0
  obtain ⟨H1, h⟩ := z_ok rfl rfl nl5 hnp5 h
  exact ⟨H1, acc, h⟩
theorem ok6 : PrimOk Tryz.prog E6 := tell_prim env5 fr5 ok5 mixed (by decide +kernel) fun args r h => by
  obtain ⟨H, acc, h⟩ := tab137 _ (memoQ_ok h)
  exact ⟨400, H, acc, h⟩
theorem tab77 : ∀ p ∈ T77, ∃ H acc, callA E6 400 (.func 77) p.1 [] = some (p.2, H, acc) := fun p hp => by
  have h0 : chk77 p = true := by
    unfold T77 at hp
    · exact List.all_eq_true.1 t77_0 p hp
  obtain ⟨H, acc, h⟩ := saysZ_ok h0
  obtain ⟨H1, h⟩ := z_ok rfl rfl nl6 hnp6 h
  exact ⟨H1, acc, h⟩
theorem ok7 : PrimOk Tryz.prog E7 := tell_prim env6 fr6 ok6 mixed (by decide +kernel) fun args r h => by
  obtain ⟨H, acc, h⟩ := tab77 _ (memoQ_ok h)
  exact ⟨400, H, acc, h⟩
theorem tab138 : ∀ p ∈ T138, ∃ H acc, callA E7 400 (.func 138) p.1 [] = some (p.2, H, acc) := fun p hp => by
  have h0 : chk138 p = true := by
    unfold T138 at hp
    · exact List.all_eq_true.1 t138_0 p hp
  obtain ⟨H, acc, h⟩ := saysZ_ok h0
  obtain ⟨H1, h⟩ := z_ok rfl rfl nl7 hnp7 h
  exact ⟨H1, acc, h⟩
theorem ok8 : PrimOk Tryz.prog E8 := tell_prim env7 fr7 ok7 mixed (by decide +kernel) fun args r h => by
  obtain ⟨H, acc, h⟩ := tab138 _ (memoQ_ok h)
  exact ⟨400, H, acc, h⟩
theorem tab78 : ∀ p ∈ T78, ∃ H acc, callA E8 400 (.func 78) p.1 [] = some (p.2, H, acc) := fun p hp => by
  have h0 : chk78 p = true := by
    unfold T78 at hp
    · exact List.all_eq_true.1 t78_0 p hp
  obtain ⟨H, acc, h⟩ := saysZ_ok h0
  obtain ⟨H1, h⟩ := z_ok rfl rfl nl8 hnp8 h
  exact ⟨H1, acc, h⟩
theorem ok9 : PrimOk Tryz.prog E9 := tell_prim env8 fr8 ok8 mixed (by decide +kernel) fun args r h => by
  obtain ⟨H, acc, h⟩ := tab78 _ (memoQ_ok h)
  exact ⟨400, H, acc, h⟩
theorem tab80 : ∀ p ∈ T80, ∃ H acc, callA E9 400 (.func 80) p.1 [] = some (p.2, H, acc) := fun p hp => by
  have h0 : chk80 p = true := by
    unfold T80 at hp
    · exact List.all_eq_true.1 t80_0 p hp
  obtain ⟨H, acc, h⟩ := saysZ_ok h0
  obtain ⟨H1, h⟩ := z_ok rfl rfl nl9 hnp9 h
  exact ⟨H1, acc, h⟩
theorem ok10 : PrimOk Tryz.prog E10 := tell_prim env9 fr9 ok9 mixed (by decide +kernel) fun args r h => by
  obtain ⟨H, acc, h⟩ := tab80 _ (memoQ_ok h)
  exact ⟨400, H, acc, h⟩
theorem tab81 : ∀ p ∈ T81, ∃ H acc, callA E10 400 (.func 81) p.1 [] = some (p.2, H, acc) := fun p hp => by
  have h0 : chk81 p = true := by
    unfold T81 at hp
    · exact List.all_eq_true.1 t81_0 p hp
  obtain ⟨H, acc, h⟩ := saysZ_ok h0
  obtain ⟨H1, h⟩ := z_ok rfl rfl nl10 hnp10 h
  exact ⟨H1, acc, h⟩
theorem ok11 : PrimOk Tryz.prog E11 := tell_prim env10 fr10 ok10 mixed (by decide +kernel) fun args r h => by
  obtain ⟨H, acc, h⟩ := tab81 _ (memoQ_ok h)
  exact ⟨400, H, acc, h⟩
theorem tab82 : ∀ p ∈ T82, ∃ H acc, callA E11 400 (.func 82) p.1 [] = some (p.2, H, acc) := fun p hp => by
  have h0 : chk82 p = true := by
    unfold T82 at hp
    · exact List.all_eq_true.1 t82_0 p hp
  obtain ⟨H, acc, h⟩ := saysZ_ok h0
  obtain ⟨H1, h⟩ := z_ok rfl rfl nl11 hnp11 h
  exact ⟨H1, acc, h⟩
theorem ok12 : PrimOk Tryz.prog E12 := tell_prim env11 fr11 ok11 mixed (by decide +kernel) fun args r h => by
  obtain ⟨H, acc, h⟩ := tab82 _ (memoQ_ok h)
  exact ⟨400, H, acc, h⟩
theorem tab95 : ∀ p ∈ T95, ∃ H acc, callA E12 400 (.func 95) p.1 [] = some (p.2, H, acc) := fun p hp => by
  have h0 : chk95 p = true := by
    unfold T95 at hp
    · exact List.all_eq_true.1 t95_0 p hp
  obtain ⟨H, acc, h⟩ := saysZ_ok h0
  obtain ⟨H1, h⟩ := z_ok rfl rfl nl12 hnp12 h
  exact ⟨H1, acc, h⟩
theorem ok13 : PrimOk Tryz.prog E13 := tell_prim env12 fr12 ok12 mixed (by decide +kernel) fun args r h => by
  obtain ⟨H, acc, h⟩ := tab95 _ (memoQ_ok h)
  exact ⟨400, H, acc, h⟩
theorem tab118 : ∀ p ∈ T118, ∃ H acc, callA E13 400 (.func 118) p.1 [] = some (p.2, H, acc) := fun p hp => by
  have h0 : chk118 p = true := by
    unfold T118 at hp
    · exact List.all_eq_true.1 t118_0 p hp
  obtain ⟨H, acc, h⟩ := saysZ_ok h0
  obtain ⟨H1, h⟩ := z_ok rfl rfl nl13 hnp13 h
  exact ⟨H1, acc, h⟩
theorem ok14 : PrimOk Tryz.prog E14 := tell_prim env13 fr13 ok13 mixed (by decide +kernel) fun args r h => by
  obtain ⟨H, acc, h⟩ := tab118 _ (memoQ_ok h)
  exact ⟨400, H, acc, h⟩
theorem tab141 : ∀ p ∈ T141, ∃ H acc, callA E14 400 (.func 141) p.1 [] = some (p.2, H, acc) := fun p hp => by
  have h0 : chk141 p = true := by
    unfold T141 at hp
    · exact List.all_eq_true.1 t141_0 p hp
  obtain ⟨H, acc, h⟩ := saysZ_ok h0
  obtain ⟨H1, h⟩ := z_ok rfl rfl nl14 hnp14 h
  exact ⟨H1, acc, h⟩
theorem ok15 : PrimOk Tryz.prog E15 := tell_prim env14 fr14 ok14 mixed (by decide +kernel) fun args r h => by
  obtain ⟨H, acc, h⟩ := tab141 _ (memoQ_ok h)
  exact ⟨400, H, acc, h⟩
theorem tab147 : ∀ p ∈ T147, ∃ H acc, callA E15 400 (.func 147) p.1 [] = some (p.2, H, acc) := fun p hp => by
  have h0 : chk147 p = true := by
    unfold T147 at hp
    · exact List.all_eq_true.1 t147_0 p hp
  obtain ⟨H, acc, h⟩ := saysZ_ok h0
  obtain ⟨H1, h⟩ := z_ok rfl rfl nl15 hnp15 h
  exact ⟨H1, acc, h⟩
theorem ok16 : PrimOk Tryz.prog E16 := tell_prim env15 fr15 ok15 mixed (by decide +kernel) fun args r h => by
  obtain ⟨H, acc, h⟩ := tab147 _ (memoQ_ok h)
  exact ⟨400, H, acc, h⟩
theorem tab183 : ∀ p ∈ T183, ∃ H acc, callA E16 400 (.func 183) p.1 [] = some (p.2, H, acc) := fun p hp => by
  have h0 : chk183 p = true := by
    unfold T183 at hp
    · exact List.all_eq_true.1 t183_0 p hp
  obtain ⟨H, acc, h⟩ := saysZ_ok h0
  obtain ⟨H1, h⟩ := z_ok rfl rfl nl16 hnp16 h
  exact ⟨H1, acc, h⟩
theorem ok17 : PrimOk Tryz.prog E17 := tell_prim env16 fr16 ok16 mixed (by decide +kernel) fun args r h => by
  obtain ⟨H, acc, h⟩ := tab183 _ (memoQ_ok h)
  exact ⟨400, H, acc, h⟩
theorem tab181 : ∀ p ∈ T181, ∃ H acc, callA E17 400 (.func 181) p.1 [] = some (p.2, H, acc) := fun p hp => by
  have h0 : chk181 p = true := by
    unfold T181 at hp
    · exact List.all_eq_true.1 t181_0 p hp
  obtain ⟨H, acc, h⟩ := saysZ_ok h0
  obtain ⟨H1, h⟩ := z_ok rfl rfl nl17 hnp17 h
  exact ⟨H1, acc, h⟩
theorem ok18 : PrimOk Tryz.prog E18 := tell_prim env17 fr17 ok17 mixed (by decide +kernel) fun args r h => by
  obtain ⟨H, acc, h⟩ := tab181 _ (memoQ_ok h)
  exact ⟨400, H, acc, h⟩
theorem tab6 : ∀ p ∈ T6, ∃ H acc, callA E18 400 (.func 6) p.1 [] = some (p.2, H, acc) := fun p hp => by
  have h0 : chk6 p = true := by
    unfold T6 at hp
    · exact List.all_eq_true.1 t6_0 p hp
  obtain ⟨H, acc, h⟩ := saysZ_ok h0
  obtain ⟨H1, h⟩ := z_ok rfl rfl nl18 hnp18 h
  exact ⟨H1, acc, h⟩
theorem ok19 : PrimOk Tryz.prog E19 := tell_prim env18 fr18 ok18 mixed (by decide +kernel) fun args r h => by
  obtain ⟨H, acc, h⟩ := tab6 _ (memoQ_ok h)
  exact ⟨400, H, acc, h⟩

theorem nonneg8 {a : Int} (h : (Lit.int .u8 a).wf = true) : 0 ≤ a := by
  have h1 : IntKind.u8.min = 0 := rfl
  simp [Lit.wf] at h
  omega

theorem all (x0 : Nat) (h0 : x0 < 12) : chk 5 [.res .u8 x0 12] = true := by
  rcases x0 with _ | _ | _ | _ | _ | _ | _ | _ | _ | _ | _ | _ | x0
  · exact c0
  · exact c1
  · exact c2
  · exact c3
  · exact c4
  · exact c5
  · exact c6
  · exact c7
  · exact c8
  · exact c9
  · exact c10
  · exact c11
  · omega


theorem the_walk (a0 : Int) (w0 : (Lit.int .u8 a0).wf = true) (w : World) :
    Calls Tryz.prog 5 #[.int .u8 a0] w fun e w' => e = .returned (.bool true) ∧ Go.Px.GrownO w w' := by
  obtain ⟨H, acc, h⟩ := chk_ok (all (a0.toNat % 12) (Nat.mod_lt _ (by decide)))
  refine pure_grown env19 fr19 ok19 mixed h (S := fun _ _ => False) (fun _ _ h => h.elim) ?_
  exact .cons _ _ _ _ _ (.res _ _ _ _ _ (nonneg8 w0) rfl) (.nil _)
end Go.Proofs.PxDh
