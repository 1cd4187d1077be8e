/- CauseWrites: its walk out of the finite check. -/
import Derived.Test.YtnpphcbfainkbaaGreatPzG1H0
import Derived.Test.YtnpphcbfainkbaaGreatPzG1H1
import Derived.Test.YtnpphcbfainkbaaGreatPzG1H2
import Derived.Test.YtnpphcbfainkbaaGreatPzG1H3
set_option linter.unusedVariables false
set_option linter.unusedSimpArgs false
set_option maxRecDepth 100000
namespace Go.Proofs.PxG1
open Go Go.Px

theorem tab7 : ∀ p ∈ T7, ∃ H acc, callA E2 400 (.func 7) p.1 [] = some (p.2, H, acc) := fun p hp => by
  have h0 : chk7 p = true := by
    unfold T7 at hp
    simp only [List.mem_append] at hp
    rcases hp with (((((hp | hp) | hp) | hp) | hp) | hp)
    · exact List.all_eq_true.1 t7_0 p hp
    · exact List.all_eq_true.1 t7_1 p hp
    · exact List.all_eq_true.1 t7_2 p hp
    · exact List.all_eq_true.1 t7_3 p hp
    · exact List.all_eq_true.1 t7_4 p hp
    · exact List.all_eq_true.1 t7_5 p hp
  obtain ⟨H, acc, h⟩ := saysR_ok h0
  exact ⟨H, acc, z_ok rfl rfl nl2 hnp2 h⟩

theorem tab9 : ∀ p ∈ T9, ∃ H acc, callA E3 400 (.func 9) p.1 [] = some (p.2, H, acc) := fun p hp => by
  have h0 : chk9 p = true := by
    unfold T9 at hp
    simp only [List.mem_append] at hp
    rcases hp with ((((((((((((((hp | hp) | hp) | hp) | hp) | hp) | hp) | hp) | hp) | hp) | hp) | hp) | hp) | hp) | hp)
    · exact List.all_eq_true.1 t9_0 p hp
    · exact List.all_eq_true.1 t9_1 p hp
    · exact List.all_eq_true.1 t9_2 p hp
    · exact List.all_eq_true.1 t9_3 p hp
    · exact List.all_eq_true.1 t9_4 p hp
    · exact List.all_eq_true.1 t9_5 p hp
    · exact List.all_eq_true.1 t9_6 p hp
    · exact List.all_eq_true.1 t9_7 p hp
    · exact List.all_eq_true.1 t9_8 p hp
    · exact List.all_eq_true.1 t9_9 p hp
    · exact List.all_eq_true.1 t9_10 p hp
    · exact List.all_eq_true.1 t9_11 p hp
    · exact List.all_eq_true.1 t9_12 p hp
    · exact List.all_eq_true.1 t9_13 p hp
    · exact List.all_eq_true.1 t9_14 p hp
  obtain ⟨H, acc, h⟩ := saysR_ok h0
  exact ⟨H, acc, z_ok rfl rfl nl3 hnp3 h⟩

theorem tab10 : ∀ p ∈ T10, ∃ H acc, callA E4 400 (.func 10) p.1 [] = some (p.2, H, acc) := fun p hp => by
  have h0 : chk10 p = true := by
    unfold T10 at hp
    simp only [List.mem_append] at hp
    rcases hp with (((hp | hp) | hp) | hp)
    · exact List.all_eq_true.1 t10_0 p hp
    · exact List.all_eq_true.1 t10_1 p hp
    · exact List.all_eq_true.1 t10_2 p hp
    · exact List.all_eq_true.1 t10_3 p hp
  obtain ⟨H, acc, h⟩ := saysR_ok h0
  exact ⟨H, acc, z_ok rfl rfl nl4 hnp4 h⟩

theorem ok3 : PrimOk Tryz.prog E3 := tell_prim env2 fr2 ok2 mixed (by decide +kernel) fun args r h => by
  obtain ⟨H, acc, h⟩ := tab7 _ (memoQ_ok h)
  exact ⟨400, H, acc, h⟩
theorem ok4 : PrimOk Tryz.prog E4 := tell_prim env3 fr3 ok3 mixed (by decide +kernel) fun args r h => by
  obtain ⟨H, acc, h⟩ := tab9 _ (memoQ_ok h)
  exact ⟨400, H, acc, h⟩
theorem ok5 : PrimOk Tryz.prog E5 := tell_prim env4 fr4 ok4 mixed (by decide +kernel) fun args r h => by
  obtain ⟨H, acc, h⟩ := tab10 _ (memoQ_ok h)
  exact ⟨400, H, acc, h⟩

theorem nonneg8 {a : Int} (h : (Lit.int .u8 a).wf = true) : 0 ≤ a := by
  have h1 : IntKind.u8.min = 0 := rfl
  simp [Lit.wf] at h
  omega
theorem nonneg16 {a : Int} (h : (Lit.int .u16 a).wf = true) : 0 ≤ a := by
  have h1 : IntKind.u16.min = 0 := rfl
  simp [Lit.wf] at h
  omega

theorem cw_all : ∀ n < 8, ∀ s : Nat, chk 4 [.res .u8 n 8, .res .u16 (s % 2 ^ (n + 1)) (2 ^ (n + 1))] = true := fun n hn s => by
  rcases n with _ | _ | _ | _ | _ | _ | _ | _ | n
  · exact List.all_eq_true.1 cw0 _ (List.mem_range.2 (Nat.mod_lt _ (by decide)))
  · exact List.all_eq_true.1 cw1 _ (List.mem_range.2 (Nat.mod_lt _ (by decide)))
  · exact List.all_eq_true.1 cw2 _ (List.mem_range.2 (Nat.mod_lt _ (by decide)))
  · exact List.all_eq_true.1 cw3 _ (List.mem_range.2 (Nat.mod_lt _ (by decide)))
  · exact List.all_eq_true.1 cw4 _ (List.mem_range.2 (Nat.mod_lt _ (by decide)))
  · exact List.all_eq_true.1 cw5 _ (List.mem_range.2 (Nat.mod_lt _ (by decide)))
  · have hs : s % 128 < 128 := Nat.mod_lt _ (by decide)
    obtain ⟨q, r, hq, hr, e⟩ : ∃ q r, q < 4 ∧ r < 32 ∧ s % 128 = r + q * 32 := ⟨s % 128 / 32, s % 128 % 32, by omega, Nat.mod_lt _ (by decide), by omega⟩
    show chk 4 [.res .u8 6 8, .res .u16 (s % 128) 128] = true
    rw [e]
    rcases q with _ | _ | _ | _ | q
    · exact List.all_eq_true.1 cw6_0 r (List.mem_range.2 hr)
    · exact List.all_eq_true.1 cw6_1 r (List.mem_range.2 hr)
    · exact List.all_eq_true.1 cw6_2 r (List.mem_range.2 hr)
    · exact List.all_eq_true.1 cw6_3 r (List.mem_range.2 hr)
    · omega
  · have hs : s % 256 < 256 := Nat.mod_lt _ (by decide)
    obtain ⟨q, r, hq, hr, e⟩ : ∃ q r, q < 8 ∧ r < 32 ∧ s % 256 = r + q * 32 := ⟨s % 256 / 32, s % 256 % 32, by omega, Nat.mod_lt _ (by decide), by omega⟩
    show chk 4 [.res .u8 7 8, .res .u16 (s % 256) 256] = true
    rw [e]
    rcases q with _ | _ | _ | _ | _ | _ | _ | _ | q
    · exact List.all_eq_true.1 cw7_0 r (List.mem_range.2 hr)
    · exact List.all_eq_true.1 cw7_1 r (List.mem_range.2 hr)
    · exact List.all_eq_true.1 cw7_2 r (List.mem_range.2 hr)
    · exact List.all_eq_true.1 cw7_3 r (List.mem_range.2 hr)
    · exact List.all_eq_true.1 cw7_4 r (List.mem_range.2 hr)
    · exact List.all_eq_true.1 cw7_5 r (List.mem_range.2 hr)
    · exact List.all_eq_true.1 cw7_6 r (List.mem_range.2 hr)
    · exact List.all_eq_true.1 cw7_7 r (List.mem_range.2 hr)
    · omega
  · omega

theorem cw_walk (a0 a1 : Int) (w0 : (Lit.int .u8 a0).wf = true) (w1 : (Lit.int .u16 a1).wf = true) (w : World) :
    Calls Tryz.prog 4 #[.int .u8 a0, .int .u16 a1] w fun e w' => e = .returned (.bool true) ∧ Go.RowKit.Grown w w' := by
  obtain ⟨H, acc, h⟩ := chk_ok (cw_all (a0.toNat % 8) (Nat.mod_lt _ (by decide)) a1.toNat)
  refine pure_grown env5 fr5 ok5 mixed h (S := fun _ _ => False) (fun _ _ h => h.elim) ?_
  exact .cons _ _ _ _ _ (.res _ _ _ _ _ (nonneg8 w0) rfl) (.cons _ _ _ _ _ (.res _ _ _ _ _ (nonneg16 w1) rfl) (.nil _))
end Go.Proofs.PxG1
