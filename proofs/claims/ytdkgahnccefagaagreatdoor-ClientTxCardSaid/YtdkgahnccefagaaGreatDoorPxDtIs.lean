/- errors.Is at the seat, by its text: the target a number that is an error. -/
import Derived.Test.YtdkgahnccefagaaGreatDoorProg
import Derived.Test.YtdkgahnccefagaaGreatDoorPb3
import Derived.WalkKit
import Derived.LaidEql
import Derived.Stop.Asserts
import Derived.RowKitTokens
set_option linter.unusedVariables false
set_option linter.unusedSimpArgs false
namespace Go.Proofs.PxDt
open Go Go.RowKit Go.Extern.Stop Go.Stop Go.Extern Go.Px

def cmpX : Array Value → Sem Value := Extern.ReflectliteType.method fun t => do Extern.Rtype.noPackHeld "Comparable" t; pure (.bool (← typeInfo t).comparable)
theorem isTypeOf (v : Value) (w : World) : (Extern.ReflectliteType.typeOf #[.iface 66 v]).run Tryz.prog w = .ok (.iface 191 (.agg #[.pointer (some ⟨3, 66, none⟩)])) w := by kernel_rfl
theorem isComparable (w : World) : (cmpX #[.agg #[.pointer (some ⟨3, 66, none⟩)]]).run Tryz.prog w = .ok (.bool true) w := by kernel_rfl
theorem isMethodComparable (v : Value) (w : World) : (Go.method 604 191 v "Comparable").run Tryz.prog w = .ok (447, v) w := by kernel_rfl
theorem isNo1 (v : Value) (xT : TypeId) (w : World) : (Instr.typeAssert (.iface 66 v) xT 193 true).run Tryz.prog w = .ok (.tuple #[.nilIface, .bool false]) w := run_typeAssert_lacksB Tryz.underlying193 (by kernel_rfl) (by kernel_rfl) v xT w
theorem isNo2 (v : Value) (xT : TypeId) (w : World) : (Instr.typeAssert (.iface 66 v) xT 196 true).run Tryz.prog w = .ok (.tuple #[.nilIface, .bool false]) w := run_typeAssert_lacksB Tryz.underlying196 (by kernel_rfl) (by kernel_rfl) v xT w
theorem isNo3 (v : Value) (xT : TypeId) (w : World) : (Instr.typeAssert (.iface 66 v) xT 197 true).run Tryz.prog w = .ok (.tuple #[.nilIface, .bool false]) w := run_typeAssert_lacksB Tryz.underlying197 (by kernel_rfl) (by kernel_rfl) v xT w
theorem isComp : (Tryz.prog.info? 66).map (·.comparable) = some true := by kernel_rfl

theorem isEq (n k : Int) (w : World) : (binOp .eql 55 (.iface 66 (.int .i64 n)) (.iface 66 (.int .i64 k))).run Tryz.prog w = .ok (.bool (n == k)) w := by
  obtain ⟨i, hi, hcmp⟩ := Option.map_eq_some_iff.1 isComp
  have : ∀ d, (Op.equalIn (d + 2) 55 (.iface 66 (.int .i64 n)) (.iface 66 (.int .i64 k))).run Tryz.prog w = .ok (n == k) w := fun d => by
    simp [Op.equalIn, run_underlying Tryz.underlying55, run_underlying Tryz.underlying66, typeInfo, hi, hcmp]
  show ((do pure (.bool (← Op.equal 55 (.iface 66 (.int .i64 n)) (.iface 66 (.int .i64 k)))) : Sem Value)).run Tryz.prog w = _
  have := this 9998
  simp only [Op.equal, Op.maxDepth, Sem.run_bind, this, Result.andThen_ok]
  rfl

set_option maxHeartbeats 2000000 in
theorem is_nil (k : Int) (w : World) : Calls Tryz.prog 23 #[.nilIface, .iface 66 (.int .i64 k)] w fun e w1 => e = .returned (.bool false) ∧ w1 = w := by
  have hn := run_eql_iface_nil_left (P := Tryz.prog) w 66 (.int .i64 k) Tryz.underlying55
  go_enter Tryz.func23, Tryz.ntmps23
  go_wp2
  go_ret
  exact ⟨rfl, rfl⟩

set_option maxHeartbeats 4000000 in
set_option maxRecDepth 100000 in
theorem is_val (n k : Int) (w : World) : Calls Tryz.prog 23 #[.iface 66 (.int .i64 n), .iface 66 (.int .i64 k)] w fun e w1 => e = .returned (.bool (n == k)) ∧ w1 = w := by
  have h8 := @run_callFunc_extern Tryz.prog 60 _ Extern.ReflectliteType.typeOf Tryz.func60 (by kernel_rfl) (by kernel_rfl) (by kernel_rfl) (by kernel_rfl)
  have h32 := @run_callFunc_extern Tryz.prog 447 _ cmpX Tryz.func447 (by kernel_rfl) (by kernel_rfl) (by kernel_rfl) (by kernel_rfl)
  have tT := isTypeOf
  have cT := isComparable
  have mR := isMethodComparable
  have n1 := isNo1
  have n2 := isNo2
  have n3 := isNo3
  have heq := isEq n k
  by_cases hnk : n = k
  · subst hnk
    have hb : (n == n) = true := by simp
    rw [hb] at heq ⊢
    clear hb
    go_enter Tryz.func23, Tryz.ntmps23
    go_wp2
    refine wp_loop_rounds 1 ?_
    rw [rounds_succ]
    go_wp2
    go_ret
    exact ⟨rfl, rfl⟩
  · have hb : (n == k) = false := beq_eq_false_iff_ne.2 hnk
    rw [hb] at heq ⊢
    clear hb hnk
    go_enter Tryz.func23, Tryz.ntmps23
    go_wp2
    refine wp_loop_rounds 1 ?_
    rw [rounds_succ]
    go_wp2
    go_ret
    exact ⟨rfl, rfl⟩

theorem say23 : SayOk Tryz.prog 23 (sayV (isQ 66)) := isQ_ok Tryz.func23 (by kernel_rfl) (by kernel_rfl) is_nil (fun n w => by have := is_val n n w; simpa using this) (fun n k w h => by
  have := is_val n k w
  rw [beq_eq_false_iff_ne.2 h] at this
  exact this)
end Go.Proofs.PxDt
