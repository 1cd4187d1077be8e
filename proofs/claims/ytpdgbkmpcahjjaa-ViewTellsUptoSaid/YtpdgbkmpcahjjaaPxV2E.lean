/- The environment of the seat: its tables, what is told of the library's functions. -/
import Derived.Test.YtpdgbkmpcahjjaaPxEnvV2
import Derived.Test.YtpdgbkmpcahjjaaPb4
import Derived.Test.YtpdgbkmpcahjjaaPb3
import Derived.Test.YtpdgbkmpcahjjaaPxV2C
import Derived.Test.YtpdgbkmpcahjjaaPxV2I76
import Derived.Test.YtpdgbkmpcahjjaaPxV2I80
namespace Go.Proofs.PxV2
open Go Go.Px Go.Proofs
noncomputable def E0 : Env := { ty := Try.tyT, fn := Try.fnT, pure := fun k => !Try.rawT.contains k, prim := fun _ _ => none }
noncomputable def E1 : Env := (((((E0.say 97 sayCmp).say 59 (sayClone E0 23)).say 61 (sayClone E0 22)).say 76 (sayInsert E0 23 59)).say 80 (sayInsert E0 22 55))
theorem fnL_ok : Try.fnL = Try.prog.funcs.toList := by kernel_rfl
theorem tab_ok : tabOkB Try.prog 0 Try.tyL = true := by kernel_rfl
theorem go_ok : (Try.prog.funcs.toList.all fun g => !(g.name == "runtime.NumGoroutine")) = true := by kernel_rfl
theorem mixed : Try.prog.follows .mixedOrders = true := by kernel_rfl
theorem env0 : EnvOk Try.prog E0 := envOk_of rfl rfl tab_ok fnL_ok go_ok
theorem fr0 : PrimFr E0 := ⟨fun g args q hq => (by cases hq), fun g args q hq => (by cases hq)⟩
theorem ok0 : PrimOk Try.prog E0 := fun g args q hq => by cases hq
theorem ty76_59 : ∃ ei, E0.ty 59 = some ei ∧ ei.size = 3 ∧ ei.bytes = 32 := ⟨_, rfl, rfl, rfl⟩
theorem ty80_55 : ∃ ei, E0.ty 55 = some ei ∧ ei.size = 2 ∧ ei.bytes = 16 := ⟨_, rfl, rfl, rfl⟩
theorem say97 : SayOk Try.prog 97 sayCmp := sayCmp_ok Try.func97 (by kernel_rfl) (by kernel_rfl) (by kernel_rfl) (by kernel_rfl)
theorem say59 : SayOk Try.prog 59 (sayClone E0 23) := sayClone_ok env0 Try.func59 (by kernel_rfl) (by kernel_rfl) Try.underlying23 clone_nil59 clone_some59
theorem say61 : SayOk Try.prog 61 (sayClone E0 22) := sayClone_ok env0 Try.func61 (by kernel_rfl) (by kernel_rfl) Try.underlying22 clone_nil61 clone_some61
theorem say76 : SayOk Try.prog 76 (sayInsert E0 23 59) := by
 obtain ⟨ei, h1, h2, h3⟩ := ty76_59
 exact sayInsert_ok env0 Try.func76 (by kernel_rfl) (by kernel_rfl) h1 Try.underlying23 ins_end76 (h2 ▸ ins_shift76) (h2 ▸ h3 ▸ ins_grow76)
theorem say80 : SayOk Try.prog 80 (sayInsert E0 22 55) := by
 obtain ⟨ei, h1, h2, h3⟩ := ty80_55
 exact sayInsert_ok env0 Try.func80 (by kernel_rfl) (by kernel_rfl) h1 Try.underlying22 ins_end80 (h2 ▸ ins_shift80) (h2 ▸ h3 ▸ ins_grow80)
theorem nl1 : PrimNL E1 := (say_nl (say_nl (say_nl (say_nl (say_nl (fun f args p h => by cases h) sayCmp_nl) (sayClone_nl _ _)) (sayClone_nl _ _)) (sayInsert_nl _ _ _)) (sayInsert_nl _ _ _))
theorem np1 {f : Nat} (h0 : f ≠ 97) (h1 : f ≠ 59) (h2 : f ≠ 61) (h3 : f ≠ 76) (h4 : f ≠ 80) (l : List AV) : E1.prim f l = none := (say_np h4 (say_np h3 (say_np h2 (say_np h1 (say_np h0 rfl)))))
theorem env1 : EnvOk Try.prog E1 := (say_env (say_env (say_env (say_env (say_env env0)))))
theorem fr1 : PrimFr E1 := (say_fr (say_fr (say_fr (say_fr (say_fr fr0 sayCmp_fr) (sayClone_fr _ _)) (sayClone_fr _ _)) (sayInsert_fr _ _ _)) (sayInsert_fr _ _ _))
theorem ok1 : PrimOk Try.prog E1 := (say_ok (say_ok (say_ok (say_ok (say_ok ok0 say97) say59) say61) say76) say80)
end Go.Proofs.PxV2
