/- The environment of the seat: its tables, what is told of the library's functions. -/
import Derived.Test.YtefondfmngjekaaGreatPxEnvC1
import Derived.Test.YtefondfmngjekaaGreatPxIs
import Derived.Test.YtefondfmngjekaaGreatPxZa
import Derived.Test.YtefondfmngjekaaGreatPzE
import Derived.Test.YtefondfmngjekaaGreatPxC1Is
import Derived.Test.YtefondfmngjekaaGreatPxC1C
namespace Go.Proofs.PxC1
open Go Go.Px Go.Proofs

noncomputable def E0 : Env := { ty := Tryz.tyT, fn := Tryz.fnT, pure := fun k => !Tryz.rawT.contains k, prim := fun _ _ => none }
noncomputable def E1 : Env := ((((E0.say 143 sayCmp).say 7 (sayV (isQ 39))).say 16 (sayClone E0 41)).say 45 (sayClone E0 27))

theorem fnL_ok : Tryz.fnL = Tryz.prog.funcs.toList := by kernel_rfl
theorem tab_ok : tabOkB Tryz.prog 0 Tryz.tyL = true := by kernel_rfl
theorem go_ok : (Tryz.prog.funcs.toList.all fun g => !(g.name == "runtime.NumGoroutine")) = true := by kernel_rfl
theorem mixed : Tryz.prog.follows .mixedOrders = true := by kernel_rfl

theorem env0 : EnvOk Tryz.prog E0 := envOk_of rfl rfl tab_ok fnL_ok go_ok
theorem fr0 : PrimFr E0 := ⟨fun g args q hq => by cases hq⟩
theorem ok0 : PrimOk Tryz.prog E0 := fun g args q hq => by cases hq
theorem sayV_nl' (q : List AV → Option AV) : ∀ args p, sayV q args = some p → ∀ H eff acc, p H = some (eff, acc) → NoLoopE eff := fun args p hq H eff acc h => by
  obtain ⟨r, rfl⟩ := sayV_nl q args p hq H eff acc h
  trivial
theorem say143 : SayOk Tryz.prog 143 sayCmp := sayCmp_ok Tryz.func143 (by kernel_rfl) (by kernel_rfl) (by kernel_rfl) (by kernel_rfl)
theorem say16 : SayOk Tryz.prog 16 (sayClone E0 41) := sayClone_ok env0 Tryz.func16 (by kernel_rfl) (by kernel_rfl) Tryz.underlying41 clone_nil16 clone_some16
theorem say45 : SayOk Tryz.prog 45 (sayClone E0 27) := sayClone_ok env0 Tryz.func45 (by kernel_rfl) (by kernel_rfl) Tryz.underlying27 clone_nil45 clone_some45
theorem nl1 : PrimNL E1 := (say_nl (say_nl (say_nl (say_nl (fun f args p h => by cases h) sayCmp_nl) (sayV_nl' _)) (sayClone_nl _ _)) (sayClone_nl _ _))
theorem np1 {f : Nat} (h0 : f ≠ 143) (h1 : f ≠ 7) (h2 : f ≠ 16) (h3 : f ≠ 45) (l : List AV) : E1.prim f l = none := (say_np h3 (say_np h2 (say_np h1 (say_np h0 rfl))))
theorem env1 : EnvOk Tryz.prog E1 := (say_env (say_env (say_env (say_env env0))))
theorem fr1 : PrimFr E1 := (say_fr (say_fr (say_fr (say_fr fr0 sayCmp_fr) (sayV_fr _)) (sayClone_fr _ _)) (sayClone_fr _ _))
theorem ok1 : PrimOk Tryz.prog E1 := (say_ok (say_ok (say_ok (say_ok ok0 say143) say7) say16) say45)
end Go.Proofs.PxC1
