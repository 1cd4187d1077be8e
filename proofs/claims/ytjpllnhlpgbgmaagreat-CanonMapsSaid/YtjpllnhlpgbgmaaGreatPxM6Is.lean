/- errors.Is at the seat, by its text: the target a number that is an error. -/
import Derived.Test.YtjpllnhlpgbgmaaGreatProg
import Derived.Test.YtjpllnhlpgbgmaaGreatPb4
import Derived.WalkKit
import Derived.LaidEql
import Derived.Stop.Asserts
import Derived.RowKitTokens
set_option linter.unusedVariables false
set_option linter.unusedSimpArgs false
namespace Go.Proofs.PxM6
open Go Go.RowKit Go.Extern.Stop Go.Stop Go.Extern Go.Px
def cmpX : Array Value → Sem Value := Extern.ReflectliteType.method fun t => do Extern.Rtype.noPackHeld "Comparable" t; pure (.bool (← typeInfo t).comparable)
theorem isTypeOf (v : Value) (w : World) : (Extern.ReflectliteType.typeOf #[.iface 51 v]).run Tryz.prog w = .ok (.iface 80 (.agg #[.pointer (some ⟨1, 51, none⟩)])) w := by kernel_rfl
theorem isComparable (w : World) : (cmpX #[.agg #[.pointer (some ⟨1, 51, none⟩)]]).run Tryz.prog w = .ok (.bool true) w := by kernel_rfl
theorem isMethodComparable (v : Value) (w : World) : (Go.method 315 80 v "Comparable").run Tryz.prog w = .ok (183, v) w := by kernel_rfl
theorem isNo1 (v : Value) (xT : TypeId) (w : World) : (Instr.typeAssert (.iface 51 v) xT 82 true).run Tryz.prog w = .ok (.tuple #[.nilIface, .bool false]) w := run_typeAssert_lacksB Tryz.underlying82 (by kernel_rfl) (by kernel_rfl) v xT w
theorem isNo2 (v : Value) (xT : TypeId) (w : World) : (Instr.typeAssert (.iface 51 v) xT 85 true).run Tryz.prog w = .ok (.tuple #[.nilIface, .bool false]) w := run_typeAssert_lacksB Tryz.underlying85 (by kernel_rfl) (by kernel_rfl) v xT w
theorem isNo3 (v : Value) (xT : TypeId) (w : World) : (Instr.typeAssert (.iface 51 v) xT 87 true).run Tryz.prog w = .ok (.tuple #[.nilIface, .bool false]) w := run_typeAssert_lacksB Tryz.underlying87 (by kernel_rfl) (by kernel_rfl) v xT w
theorem isComp : (Tryz.prog.info? 51).map (·.comparable) = some true := by kernel_rfl
theorem isEq (n k : Int) (w : World) : (binOp .eql 32 (.iface 51 (.int .i64 n)) (.iface 51 (.int .i64 k))).run Tryz.prog w = .ok (.bool (n == k)) w := by
 obtain ⟨i, hi, hcmp⟩ := Option.map_eq_some_iff.1 isComp
 have : ∀ d, (Op.equalIn (d + 2) 32 (.iface 51 (.int .i64 n)) (.iface 51 (.int .i64 k))).run Tryz.prog w = .ok (n == k) w := fun d => by
  simp [Op.equalIn, run_underlying Tryz.underlying32, run_underlying Tryz.underlying51, typeInfo, hi, hcmp]
 show ((do pure (.bool (← Op.equal 32 (.iface 51 (.int .i64 n)) (.iface 51 (.int .i64 k)))) : Sem Value)).run Tryz.prog w = _
 have := this 9998
 simp only [Op.equal, Op.maxDepth, Sem.run_bind, this, Result.andThen_ok]
 rfl
set_option maxHeartbeats 2000000 in
theorem is_nil (k : Int) (w : World) : Calls Tryz.prog 12 #[.nilIface, .iface 51 (.int .i64 k)] w fun e w1 => e = .returned (.bool false) ∧ w1 = w := by
 have hn := run_eql_iface_nil_left (P := Tryz.prog) w 51 (.int .i64 k) Tryz.underlying32
 go_enter Tryz.func12, Tryz.ntmps12
 go_wp2
 go_ret
 exact ⟨rfl, rfl⟩
set_option maxHeartbeats 4000000 in
set_option maxRecDepth 100000 in
theorem is_val (n k : Int) (w : World) : Calls Tryz.prog 12 #[.iface 51 (.int .i64 n), .iface 51 (.int .i64 k)] w fun e w1 => e = .returned (.bool (n == k)) ∧ w1 = w := by
 have h8 := @run_callFunc_extern Tryz.prog 26 _ Extern.ReflectliteType.typeOf Tryz.func26 (by kernel_rfl) (by kernel_rfl) (by kernel_rfl) (by kernel_rfl)
 have h32 := @run_callFunc_extern Tryz.prog 183 _ cmpX Tryz.func183 (by kernel_rfl) (by kernel_rfl) (by kernel_rfl) (by kernel_rfl)
 have tT := isTypeOf
 have cT := isComparable
 have mR := isMethodComparable
 have n1 := isNo1
 have n2 := isNo2
 have n3 := isNo3
 have heq := isEq n k
 by_cases hnk : n = k
 ·subst hnk
  have hb : (n == n) = true := by simp
  rw [hb] at heq ⊢
  clear hb
  go_enter Tryz.func12, Tryz.ntmps12
  go_wp2
  refine wp_loop_rounds 1 ?_
  rw [rounds_succ]
  go_wp2
  go_ret
  exact ⟨rfl, rfl⟩
 ·have hb : (n == k) = false := beq_eq_false_iff_ne.2 hnk
  rw [hb] at heq ⊢
  clear hb hnk
  go_enter Tryz.func12, Tryz.ntmps12
  go_wp2
  refine wp_loop_rounds 1 ?_
  rw [rounds_succ]
  go_wp2
  go_ret
  exact ⟨rfl, rfl⟩
theorem say12 : SayOk Tryz.prog 12 (sayV (isQ 51)) := isQ_ok Tryz.func12 (by kernel_rfl) (by kernel_rfl) is_nil (fun n w => by have := is_val n n w; simpa using this) (fun n k w h => by
 have := is_val n k w
 rw [beq_eq_false_iff_ne.2 h] at this
 exact this)
end Go.Proofs.PxM6
