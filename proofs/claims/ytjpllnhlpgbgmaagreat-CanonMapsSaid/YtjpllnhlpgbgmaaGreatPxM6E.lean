/- The environment of the seat: its tables, what is told of the library's functions. -/
import Derived.Test.YtjpllnhlpgbgmaaGreatPxEnvM6
import Derived.Test.YtjpllnhlpgbgmaaGreatPb4
import Derived.Test.YtjpllnhlpgbgmaaGreatPb3
import Derived.Test.YtjpllnhlpgbgmaaGreatPxM6Is
import Derived.Test.YtjpllnhlpgbgmaaGreatPxM6C
namespace Go.Proofs.PxM6
open Go Go.Px Go.Proofs
noncomputable def E0 : Env := { ty := Tryz.tyT, fn := Tryz.fnT, pure := fun k => !Tryz.rawT.contains k, prim := fun _ _ => none }
noncomputable def E1 : Env := ((((E0.say 163 sayCmp).say 12 (sayV (isQ 51))).say 20 (sayClone E0 44)).say 57 (sayClone E0 25))
theorem fnL_ok : Tryz.fnL = Tryz.prog.funcs.toList := by kernel_rfl
theorem tab_ok : tabOkB Tryz.prog 0 Tryz.tyL = true := by kernel_rfl
theorem go_ok : (Tryz.prog.funcs.toList.all fun g => !(g.name == "runtime.NumGoroutine")) = true := by kernel_rfl
theorem mixed : Tryz.prog.follows .mixedOrders = true := by kernel_rfl
theorem env0 : EnvOk Tryz.prog E0 := envOk_of rfl rfl tab_ok fnL_ok go_ok
theorem fr0 : PrimFr E0 := ⟨fun g args q hq => (by cases hq), fun g args q hq => (by cases hq)⟩
theorem ok0 : PrimOk Tryz.prog E0 := fun g args q hq => by cases hq
theorem sayV_nl' (q : List AV → Option AV) : ∀ args p, sayV q args = some p → ∀ H eff acc, p H = some (eff, acc) → NoLoopE eff := fun args p hq H eff acc h => by
 obtain ⟨r, rfl⟩ := sayV_nl q args p hq H eff acc h
 trivial
theorem say163 : SayOk Tryz.prog 163 sayCmp := sayCmp_ok Tryz.func163 (by kernel_rfl) (by kernel_rfl) (by kernel_rfl) (by kernel_rfl)
theorem say20 : SayOk Tryz.prog 20 (sayClone E0 44) := sayClone_ok env0 Tryz.func20 (by kernel_rfl) (by kernel_rfl) Tryz.underlying44 clone_nil20 clone_some20
theorem say57 : SayOk Tryz.prog 57 (sayClone E0 25) := sayClone_ok env0 Tryz.func57 (by kernel_rfl) (by kernel_rfl) Tryz.underlying25 clone_nil57 clone_some57
theorem nl1 : PrimNL E1 := (say_nl (say_nl (say_nl (say_nl (fun f args p h => by cases h) sayCmp_nl) (sayV_nl' _)) (sayClone_nl _ _)) (sayClone_nl _ _))
theorem np1 {f : Nat} (h0 : f ≠ 163) (h1 : f ≠ 12) (h2 : f ≠ 20) (h3 : f ≠ 57) (l : List AV) : E1.prim f l = none := (say_np h3 (say_np h2 (say_np h1 (say_np h0 rfl))))
theorem env1 : EnvOk Tryz.prog E1 := (say_env (say_env (say_env (say_env env0))))
theorem fr1 : PrimFr E1 := (say_fr (say_fr (say_fr (say_fr fr0 sayCmp_fr) (sayV_fr _)) (sayClone_fr _ _)) (sayClone_fr _ _))
theorem ok1 : PrimOk Tryz.prog E1 := (say_ok (say_ok (say_ok (say_ok ok0 say163) say12) say20) say57)
end Go.Proofs.PxM6
