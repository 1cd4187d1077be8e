/- The environment of the seat: its tables, what is told of the library's functions. -/
import Derived.Test.YtnpphcbfainkbaaGreatPxEnvG1
import Derived.Test.YtnpphcbfainkbaaGreatPxIs
import Derived.Test.YtnpphcbfainkbaaGreatPzE
import Derived.Test.YtnpphcbfainkbaaGreatPxG1Is
namespace Go.Proofs.PxG1
open Go Go.Px Go.Proofs

noncomputable def E0 : Env := { ty := Tryz.tyT, fn := Tryz.fnT, pure := fun k => !Tryz.rawT.contains k, prim := fun _ _ => none }
noncomputable def E1 : Env := (E0.say 168 sayCmp).say 19 (sayV (isQ 62))

theorem fnL_ok : Tryz.fnL = Tryz.prog.funcs.toList := by kernel_rfl
theorem tab_ok : tabOkB Tryz.prog 0 Tryz.tyL = true := by kernel_rfl
theorem go_ok : (Tryz.prog.funcs.toList.all fun g => !(g.name == "runtime.NumGoroutine")) = true := by kernel_rfl
theorem mixed : Tryz.prog.follows .mixedOrders = true := by kernel_rfl

theorem env0 : EnvOk Tryz.prog E0 := envOk_of rfl rfl tab_ok fnL_ok go_ok
theorem fr0 : PrimFr E0 := ⟨fun g args q hq => by cases hq⟩
theorem ok0 : PrimOk Tryz.prog E0 := fun g args q hq => by cases hq

theorem say168 : SayOk Tryz.prog 168 sayCmp := sayCmp_ok Tryz.func168 (by kernel_rfl) (by kernel_rfl) (by kernel_rfl) (by kernel_rfl)

theorem sayV_nl' (q : List AV → Option AV) : ∀ args p, sayV q args = some p → ∀ H eff acc, p H = some (eff, acc) → NoLoopE eff := fun args p hq H eff acc h => by
  obtain ⟨r, rfl⟩ := sayV_nl q args p hq H eff acc h
  trivial
theorem nl1 : PrimNL E1 := say_nl (say_nl (fun f args p h => by cases h) sayCmp_nl) (sayV_nl' _)
theorem np1 {f : Nat} (h1 : f ≠ 168) (h2 : f ≠ 19) (l : List AV) : E1.prim f l = none := say_np h2 (say_np h1 rfl)
theorem env1 : EnvOk Tryz.prog E1 := say_env (say_env env0)
theorem fr1 : PrimFr E1 := say_fr (say_fr fr0 sayCmp_fr) (sayV_fr _)
theorem ok1 : PrimOk Tryz.prog E1 := say_ok (say_ok ok0 say168) say19
end Go.Proofs.PxG1
