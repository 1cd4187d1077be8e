/- HomeMoves: its walk out of the finite check. -/
import Derived.Test.YtnpphcbfainkbaaPzTryH0
import Derived.Test.YtnpphcbfainkbaaPzTryH1
import Derived.Test.YtnpphcbfainkbaaPzTryH2
import Derived.Test.YtnpphcbfainkbaaPzTryH3
set_option linter.unusedVariables false
set_option linter.unusedSimpArgs false
namespace Go.Proofs.PxTry
open Go Go.Px

theorem u8_nonneg {a : Int} (h : (Lit.int .u8 a).wf = true) : 0 ≤ a := by
  have h1 : IntKind.u8.min = 0 := rfl
  simp [Lit.wf] at h
  omega

theorem home_all : ∀ k < 26, ∀ n < 4, ∀ b < 16, chk 10 [.res .u8 b 16, .res .u8 n 4, .res .u8 k 26] = true := fun k hk n hn b hb => by
  rcases k with _ | _ | _ | _ | _ | _ | _ | _ | _ | _ | _ | _ | _ | _ | _ | _ | _ | _ | _ | _ | _ | _ | _ | _ | _ | _ | k
  · exact List.all_eq_true.1 (List.all_eq_true.1 home0 n (List.mem_range.2 hn)) b (List.mem_range.2 hb)
  · exact List.all_eq_true.1 (List.all_eq_true.1 home1 n (List.mem_range.2 hn)) b (List.mem_range.2 hb)
  · exact List.all_eq_true.1 (List.all_eq_true.1 home2 n (List.mem_range.2 hn)) b (List.mem_range.2 hb)
  · exact List.all_eq_true.1 (List.all_eq_true.1 home3 n (List.mem_range.2 hn)) b (List.mem_range.2 hb)
  · exact List.all_eq_true.1 (List.all_eq_true.1 home4 n (List.mem_range.2 hn)) b (List.mem_range.2 hb)
  · exact List.all_eq_true.1 (List.all_eq_true.1 home5 n (List.mem_range.2 hn)) b (List.mem_range.2 hb)
  · exact List.all_eq_true.1 (List.all_eq_true.1 home6 n (List.mem_range.2 hn)) b (List.mem_range.2 hb)
  · exact List.all_eq_true.1 (List.all_eq_true.1 home7 n (List.mem_range.2 hn)) b (List.mem_range.2 hb)
  · exact List.all_eq_true.1 (List.all_eq_true.1 home8 n (List.mem_range.2 hn)) b (List.mem_range.2 hb)
  · exact List.all_eq_true.1 (List.all_eq_true.1 home9 n (List.mem_range.2 hn)) b (List.mem_range.2 hb)
  · exact List.all_eq_true.1 (List.all_eq_true.1 home10 n (List.mem_range.2 hn)) b (List.mem_range.2 hb)
  · exact List.all_eq_true.1 (List.all_eq_true.1 home11 n (List.mem_range.2 hn)) b (List.mem_range.2 hb)
  · exact List.all_eq_true.1 (List.all_eq_true.1 home12 n (List.mem_range.2 hn)) b (List.mem_range.2 hb)
  · exact List.all_eq_true.1 (List.all_eq_true.1 home13 n (List.mem_range.2 hn)) b (List.mem_range.2 hb)
  · exact List.all_eq_true.1 (List.all_eq_true.1 home14 n (List.mem_range.2 hn)) b (List.mem_range.2 hb)
  · exact List.all_eq_true.1 (List.all_eq_true.1 home15 n (List.mem_range.2 hn)) b (List.mem_range.2 hb)
  · exact List.all_eq_true.1 (List.all_eq_true.1 home16 n (List.mem_range.2 hn)) b (List.mem_range.2 hb)
  · exact List.all_eq_true.1 (List.all_eq_true.1 home17 n (List.mem_range.2 hn)) b (List.mem_range.2 hb)
  · exact List.all_eq_true.1 (List.all_eq_true.1 home18 n (List.mem_range.2 hn)) b (List.mem_range.2 hb)
  · exact List.all_eq_true.1 (List.all_eq_true.1 home19 n (List.mem_range.2 hn)) b (List.mem_range.2 hb)
  · exact List.all_eq_true.1 (List.all_eq_true.1 home20 n (List.mem_range.2 hn)) b (List.mem_range.2 hb)
  · exact List.all_eq_true.1 (List.all_eq_true.1 home21 n (List.mem_range.2 hn)) b (List.mem_range.2 hb)
  · exact List.all_eq_true.1 (List.all_eq_true.1 home22 n (List.mem_range.2 hn)) b (List.mem_range.2 hb)
  · exact List.all_eq_true.1 (List.all_eq_true.1 home23 n (List.mem_range.2 hn)) b (List.mem_range.2 hb)
  · exact List.all_eq_true.1 (List.all_eq_true.1 home24 n (List.mem_range.2 hn)) b (List.mem_range.2 hb)
  · exact List.all_eq_true.1 (List.all_eq_true.1 home25 n (List.mem_range.2 hn)) b (List.mem_range.2 hb)
  · omega

theorem home_walk (a0 a1 a2 : Int) (w0 : (Lit.int .u8 a0).wf = true) (w1 : (Lit.int .u8 a1).wf = true) (w2 : (Lit.int .u8 a2).wf = true) (w : World) :
    Calls Try.prog 10 #[.int .u8 a0, .int .u8 a1, .int .u8 a2] w fun e w' => e = .returned (.bool true) ∧ Go.RowKit.Grown w w' := by
  obtain ⟨H, acc, h⟩ := chk_ok (home_all (a2.toNat % 26) (Nat.mod_lt _ (by decide)) (a1.toNat % 4) (Nat.mod_lt _ (by decide)) (a0.toNat % 16) (Nat.mod_lt _ (by decide)))
  refine pure_grown env2 fr2 ok2 mixed h (S := fun _ _ => False) (fun _ _ h => h.elim) ?_
  exact .cons _ _ _ _ _ (.res _ _ _ _ _ (u8_nonneg w0) rfl) (.cons _ _ _ _ _ (.res _ _ _ _ _ (u8_nonneg w1) rfl) (.cons _ _ _ _ _ (.res _ _ _ _ _ (u8_nonneg w2) rfl) (.nil _)))
end Go.Proofs.PxTry
