/- The walk out of the finite check. -/
import Derived.Test.YtefondfmngjekaaGreatPzC1H0
import Derived.Test.YtefondfmngjekaaGreatPzC1H1
import Derived.Test.YtefondfmngjekaaGreatPzC1H2
import Derived.Test.YtefondfmngjekaaGreatPzC1H3
import Derived.Test.YtefondfmngjekaaGreatPzC1H4
set_option linter.unusedVariables false
set_option linter.unusedSimpArgs false
set_option maxRecDepth 100000
namespace Go.Proofs.PxC1
open Go Go.Px

theorem nonneg8 {a : Int} (h : (Lit.int .u8 a).wf = true) : 0 ≤ a := by
  have h1 : IntKind.u8.min = 0 := rfl
  simp [Lit.wf] at h
  omega
theorem all (x0 : Nat) (x1 : Bool) (h0 : x0 < 10) : chk 3 [.res .u8 x0 10, .bool x1] = true := by
  rcases x0 with _ | _ | _ | _ | _ | _ | _ | _ | _ | _ | x0
  · cases x1
    · exact c0_0
    · exact c0_1
  · cases x1
    · exact c1_0
    · exact c1_1
  · cases x1
    · exact c2_0
    · exact c2_1
  · cases x1
    · exact c3_0
    · exact c3_1
  · cases x1
    · exact c4_0
    · exact c4_1
  · cases x1
    · exact c5_0
    · exact c5_1
  · cases x1
    · exact c6_0
    · exact c6_1
  · cases x1
    · exact c7_0
    · exact c7_1
  · cases x1
    · exact c8_0
    · exact c8_1
  · cases x1
    · exact c9_0
    · exact c9_1
  · omega

theorem the_walk (a0 : Int) (a1 : Bool) (w0 : (Lit.int .u8 a0).wf = true) (w : World) :
    Calls Tryz.prog 3 #[.int .u8 a0, .bool a1] w fun e w' => e = .returned (.bool true) ∧ Go.RowKit.Grown w w' := by
  obtain ⟨H, acc, h⟩ := chk_ok (all (a0.toNat % 10) a1 (Nat.mod_lt _ (by decide)))
  refine pure_grown env2 fr2 ok2 mixed h (S := fun _ _ => False) (fun _ _ h => h.elim) ?_
  exact .cons _ _ _ _ _ (.res _ _ _ _ _ (nonneg8 w0) rfl) (.cons _ _ _ _ _ (.bool _ _) (.nil _))
end Go.Proofs.PxC1
