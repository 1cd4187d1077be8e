/- The environment of the seat: its tables, what is told of the library's functions. -/
import Derived.Test.YtdkgahnccefagaaGreatDoorPxEnvDt
import Derived.Test.YtdkgahnccefagaaGreatDoorPb3
import Derived.Test.YtdkgahnccefagaaGreatDoorPxDtIs
import Derived.Test.YtdkgahnccefagaaGreatDoorPxDtC
import Derived.Test.YtdkgahnccefagaaGreatDoorPxDtI310
import Derived.Test.YtdkgahnccefagaaGreatDoorPxDtI165
import Derived.Test.YtdkgahnccefagaaGreatDoorPxDtBd
namespace Go.Proofs.PxDt
open Go Go.Px Go.Proofs

noncomputable def E0 : Env := { ty := Tryz.tyT, fn := Tryz.fnT, pure := fun k => !Tryz.rawT.contains k, prim := fun _ _ => none }
noncomputable def E1 : Env := ((((((((((E0.say 23 (sayV (isQ 66))).say 32 (sayClone E0 31)).say 68 (sayClone E0 23)).say 69 (sayClone E0 24)).say 58 (sayClone E0 60)).say 59 (sayClone E0 39)).say 310 (sayInsert E0 34 9)).say 165 (sayInsert E0 23 77)).say 391 (sayCheckB 342 2)).say 261 (sayStringB 5))

theorem fnL_ok : Tryz.fnL = Tryz.prog.funcs.toList := by kernel_rfl
theorem tab_ok : tabOkB Tryz.prog 0 Tryz.tyL = true := by kernel_rfl
theorem go_ok : (Tryz.prog.funcs.toList.all fun g => !(g.name == "runtime.NumGoroutine")) = true := by kernel_rfl
theorem mixed : Tryz.prog.follows .mixedOrders = true := by kernel_rfl

theorem env0 : EnvOk Tryz.prog E0 := envOk_of rfl rfl tab_ok fnL_ok go_ok
theorem fr0 : PrimFr E0 := ⟨fun g args q hq => (by cases hq), fun g args q hq => (by cases hq)⟩
theorem ok0 : PrimOk Tryz.prog E0 := fun g args q hq => by cases hq
theorem sayV_nl' (q : List AV → Option AV) : ∀ args p, sayV q args = some p → ∀ H eff acc, p H = some (eff, acc) → NoLoopE eff := fun args p hq H eff acc h => by
  obtain ⟨r, rfl⟩ := sayV_nl q args p hq H eff acc h
  trivial
theorem ty310_9 : ∃ ei, E0.ty 9 = some ei ∧ ei.size = 1 ∧ ei.bytes = 16 := ⟨_, rfl, rfl, rfl⟩
theorem ty165_77 : ∃ ei, E0.ty 77 = some ei ∧ ei.size = 2 ∧ ei.bytes = 16 := ⟨_, rfl, rfl, rfl⟩
theorem sayCheckB_nl2 (tR len : Nat) : ∀ args p, sayCheckB tR len args = some p → ∀ H eff acc, p H = some (eff, acc) → NoLoopE eff := fun args p hq H eff acc h => by
  obtain ⟨_, _, _, _, _, rfl⟩ := sayCheckB_nl tR len args p hq H eff acc h
  trivial
theorem sayStringB_nl2 (tB : Nat) : ∀ args p, sayStringB tB args = some p → ∀ H eff acc, p H = some (eff, acc) → NoLoopE eff := fun args p hq H eff acc h => by
  obtain ⟨_, _, rfl⟩ := sayStringB_nl tB args p hq H eff acc h
  trivial
theorem say32 : SayOk Tryz.prog 32 (sayClone E0 31) := sayClone_ok env0 Tryz.func32 (by kernel_rfl) (by kernel_rfl) Tryz.underlying31 clone_nil32 clone_some32
theorem say68 : SayOk Tryz.prog 68 (sayClone E0 23) := sayClone_ok env0 Tryz.func68 (by kernel_rfl) (by kernel_rfl) Tryz.underlying23 clone_nil68 clone_some68
theorem say69 : SayOk Tryz.prog 69 (sayClone E0 24) := sayClone_ok env0 Tryz.func69 (by kernel_rfl) (by kernel_rfl) Tryz.underlying24 clone_nil69 clone_some69
theorem say58 : SayOk Tryz.prog 58 (sayClone E0 60) := sayClone_ok env0 Tryz.func58 (by kernel_rfl) (by kernel_rfl) Tryz.underlying60 clone_nil58 clone_some58
theorem say59 : SayOk Tryz.prog 59 (sayClone E0 39) := sayClone_ok env0 Tryz.func59 (by kernel_rfl) (by kernel_rfl) Tryz.underlying39 clone_nil59 clone_some59
theorem say310 : SayOk Tryz.prog 310 (sayInsert E0 34 9) := by
  obtain ⟨ei, h1, h2, h3⟩ := ty310_9
  exact sayInsert_ok env0 Tryz.func310 (by kernel_rfl) (by kernel_rfl) h1 Tryz.underlying34 ins_end310 (h2 ▸ ins_shift310) (h2 ▸ h3 ▸ ins_grow310)
theorem say165 : SayOk Tryz.prog 165 (sayInsert E0 23 77) := by
  obtain ⟨ei, h1, h2, h3⟩ := ty165_77
  exact sayInsert_ok env0 Tryz.func165 (by kernel_rfl) (by kernel_rfl) h1 Tryz.underlying23 ins_end165 (h2 ▸ ins_shift165) (h2 ▸ h3 ▸ ins_grow165)
theorem say391 : SayOk Tryz.prog 391 (sayCheckB 342 2) := say_check
theorem say261 : SayOk Tryz.prog 261 (sayStringB 5) := say_string
theorem nl1 : PrimNL E1 := (say_nl (say_nl (say_nl (say_nl (say_nl (say_nl (say_nl (say_nl (say_nl (say_nl (fun f args p h => by cases h) (sayV_nl' _)) (sayClone_nl _ _)) (sayClone_nl _ _)) (sayClone_nl _ _)) (sayClone_nl _ _)) (sayClone_nl _ _)) (sayInsert_nl _ _ _)) (sayInsert_nl _ _ _)) (sayCheckB_nl2 _ _)) (sayStringB_nl2 _))
theorem np1 {f : Nat} (h0 : f ≠ 23) (h1 : f ≠ 32) (h2 : f ≠ 68) (h3 : f ≠ 69) (h4 : f ≠ 58) (h5 : f ≠ 59) (h6 : f ≠ 310) (h7 : f ≠ 165) (h8 : f ≠ 391) (h9 : f ≠ 261) (l : List AV) : E1.prim f l = none := (say_np h9 (say_np h8 (say_np h7 (say_np h6 (say_np h5 (say_np h4 (say_np h3 (say_np h2 (say_np h1 (say_np h0 rfl))))))))))
theorem env1 : EnvOk Tryz.prog E1 := (say_env (say_env (say_env (say_env (say_env (say_env (say_env (say_env (say_env (say_env env0))))))))))
theorem fr1 : PrimFr E1 := (say_fr (say_fr (say_fr (say_fr (say_fr (say_fr (say_fr (say_fr (say_fr (say_fr fr0 (sayV_fr _)) (sayClone_fr _ _)) (sayClone_fr _ _)) (sayClone_fr _ _)) (sayClone_fr _ _)) (sayClone_fr _ _)) (sayInsert_fr _ _ _)) (sayInsert_fr _ _ _)) (sayCheckB_fr _ _)) (sayStringB_fr _))
theorem ok1 : PrimOk Tryz.prog E1 := (say_ok (say_ok (say_ok (say_ok (say_ok (say_ok (say_ok (say_ok (say_ok (say_ok ok0 say23) say32) say68) say69) say58) say59) say310) say165) say391) say261)
end Go.Proofs.PxDt
