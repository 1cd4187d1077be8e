/- The environment of the seat: its tables, what is told of the library's functions. -/
import Derived.Test.YtnpphcbfainkbaaPxEnvTry
import Derived.Test.YtnpphcbfainkbaaPxZa
import Derived.Test.YtnpphcbfainkbaaPzE
import Derived.Test.YtnpphcbfainkbaaPxTryC
import Derived.Test.YtnpphcbfainkbaaPxTryI78
import Derived.Test.YtnpphcbfainkbaaPxTryI82
namespace Go.Proofs.PxTry
open Go Go.Px Go.Proofs

noncomputable def E0 : Env := { ty := Try.tyT, fn := Try.fnT, pure := fun k => !Try.rawT.contains k, prim := fun _ _ => none }
noncomputable def E1 : Env := ((((E0.say 99 sayCmp).say 61 (sayClone E0 23)).say 63 (sayClone E0 22)).say 78 (sayInsert E0 23 60)).say 82 (sayInsert E0 22 56)

theorem fnL_ok : Try.fnL = Try.prog.funcs.toList := by kernel_rfl
theorem tab_ok : tabOkB Try.prog 0 Try.tyL = true := by kernel_rfl
theorem go_ok : (Try.prog.funcs.toList.all fun g => !(g.name == "runtime.NumGoroutine")) = true := by kernel_rfl
theorem mixed : Try.prog.follows .mixedOrders = true := by kernel_rfl

theorem env0 : EnvOk Try.prog E0 := envOk_of rfl rfl tab_ok fnL_ok go_ok
theorem fr0 : PrimFr E0 := ⟨fun g args q hq => by cases hq⟩
theorem ok0 : PrimOk Try.prog E0 := fun g args q hq => by cases hq

theorem ty60 : ∃ ei, E0.ty 60 = some ei ∧ ei.size = 3 ∧ ei.bytes = 32 := ⟨_, rfl, rfl, rfl⟩
theorem ty56 : ∃ ei, E0.ty 56 = some ei ∧ ei.size = 2 ∧ ei.bytes = 16 := ⟨_, rfl, rfl, rfl⟩

theorem say99 : SayOk Try.prog 99 sayCmp := sayCmp_ok Try.func99 (by kernel_rfl) (by kernel_rfl) (by kernel_rfl) (by kernel_rfl)
theorem say61 : SayOk Try.prog 61 (sayClone E0 23) := sayClone_ok env0 Try.func61 (by kernel_rfl) (by kernel_rfl) Try.underlying23 clone_nil61 clone_some61
theorem say63 : SayOk Try.prog 63 (sayClone E0 22) := sayClone_ok env0 Try.func63 (by kernel_rfl) (by kernel_rfl) Try.underlying22 clone_nil63 clone_some63
theorem say78 : SayOk Try.prog 78 (sayInsert E0 23 60) := by
  obtain ⟨ei, h1, h2, h3⟩ := ty60
  exact sayInsert_ok env0 Try.func78 (by kernel_rfl) (by kernel_rfl) h1 Try.underlying23 ins_end78 (h2 ▸ ins_shift78) (h2 ▸ h3 ▸ ins_grow78)
theorem say82 : SayOk Try.prog 82 (sayInsert E0 22 56) := by
  obtain ⟨ei, h1, h2, h3⟩ := ty56
  exact sayInsert_ok env0 Try.func82 (by kernel_rfl) (by kernel_rfl) h1 Try.underlying22 ins_end82 (h2 ▸ ins_shift82) (h2 ▸ h3 ▸ ins_grow82)

theorem nl1 : PrimNL E1 := say_nl (say_nl (say_nl (say_nl (say_nl (fun f args p h => by cases h) sayCmp_nl) (sayClone_nl _ _)) (sayClone_nl _ _)) (sayInsert_nl _ _ _)) (sayInsert_nl _ _ _)
theorem np1 {f : Nat} (h1 : f ≠ 99) (h2 : f ≠ 61) (h3 : f ≠ 63) (h4 : f ≠ 78) (h5 : f ≠ 82) (l : List AV) : E1.prim f l = none := say_np h5 (say_np h4 (say_np h3 (say_np h2 (say_np h1 rfl))))

theorem env1 : EnvOk Try.prog E1 := say_env (say_env (say_env (say_env (say_env env0))))
theorem fr1 : PrimFr E1 := say_fr (say_fr (say_fr (say_fr (say_fr fr0 sayCmp_fr) (sayClone_fr _ _)) (sayClone_fr _ _)) (sayInsert_fr _ _ _)) (sayInsert_fr _ _ _)
theorem ok1 : PrimOk Try.prog E1 := say_ok (say_ok (say_ok (say_ok (say_ok ok0 say99) say61) say63) say78) say82
end Go.Proofs.PxTry
