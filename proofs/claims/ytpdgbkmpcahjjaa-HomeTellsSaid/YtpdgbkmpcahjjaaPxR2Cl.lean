/- The comparison that slices.SortFunc is given: how far from a number, then the node. -/
import Derived.Test.YtpdgbkmpcahjjaaProg
import Derived.Test.YtpdgbkmpcahjjaaPb4
import Derived.RowKit3
import Derived.WalkKit
import Derived.Tactics
import Derived.Tactics2
import Derived.WalkSpells
import Derived.StillTactics
import Derived.Laws.Pointers
import Derived.Deep.RegionHeld3
namespace Go.Proofs.PxR2
open Go Go.Shelf Go.RowKit Go.Lib Go.Sort Go.Proofs Go.Px
theorem nan78 (x : Int) (w : World) : Calls Try.prog 78 #[.int .u64 x] w fun e w' => e = .returned (.bool false) ∧ w' = w := by
  go_enter Try.func78, Try.ntmps78
  go_wp2
  go_ret
  exact ⟨by simp, rfl⟩
theorem nan87 (x : Int) (w : World) : Calls Try.prog 87 #[.int .i64 x] w fun e w' => e = .returned (.bool false) ∧ w' = w := by
  go_enter Try.func87, Try.ntmps87
  go_wp2
  go_ret
  exact ⟨by simp, rfl⟩
set_option maxHeartbeats 1000000 in
theorem cmp53 (x y : Int) (w : World) : Calls Try.prog 53 #[.int .u64 x, .int .u64 y] w fun e w' => e = .returned (.int .i64 (Lib.compareInt x y)) ∧ w' = w := by
  go_enter Try.func53, Try.ntmps53
  go_wp2_with (go_at_call 78; refine (nan78 _ _).mono ?_; rintro e w' ⟨rfl, hw⟩; rw [hw])
  all_goals (go_ret; refine ⟨?_, rfl⟩; unfold Lib.compareInt; (repeat' split) <;> first | rfl | (exfalso; omega))
set_option maxHeartbeats 1000000 in
theorem cmp73 (x y : Int) (w : World) : Calls Try.prog 73 #[.int .i64 x, .int .i64 y] w fun e w' => e = .returned (.int .i64 (Lib.compareInt x y)) ∧ w' = w := by
  go_enter Try.func73, Try.ntmps73
  go_wp2_with (go_at_call 87; refine (nan87 _ _).mono ?_; rintro e w' ⟨rfl, hw⟩; rw [hw])
  all_goals (go_ret; refine ⟨?_, rfl⟩; unfold Lib.compareInt; (repeat' split) <;> first | rfl | (exfalso; omega))
set_option maxHeartbeats 1000000 in
theorem or52 (p q : Int) (b : Nat) (w : World) (h0 : w.cell? ⟨b, 0, none⟩ = some (.int .i64 p)) (h1 : w.cell? ⟨b, 1, none⟩ = some (.int .i64 q)) : Calls Try.prog 52 #[.slice (some ⟨b, 0, none⟩) 2 2] w fun e w' => e = .returned (.int .i64 (if p ≠ 0 then p else q)) ∧ w' = w := by
  go_enter Try.func52, Try.ntmps52
  go_wp2
  refine wp_loop_rounds 3 ?_
  rw [rounds_succ]
  go_wp2
  all_goals first | (go_ret; exact ⟨by simp_all, rfl⟩) | (rw [rounds_succ]; go_wp2)
  all_goals first | (go_ret; exact ⟨by simp_all, rfl⟩) | (rw [rounds_succ]; go_wp2)
  all_goals first | (go_ret; exact ⟨by simp_all, rfl⟩) | (go_ret2; exact ⟨by simp_all, rfl⟩)
theorem or52' (p q r : Int) (hr : (if p ≠ 0 then p else q) = r) (b : Nat) (w : World) (h0 : w.cell? ⟨b, 0, none⟩ = some (.int .i64 p)) (h1 : w.cell? ⟨b, 1, none⟩ = some (.int .i64 q)) : Calls Try.prog 52 #[.slice (some ⟨b, 0, none⟩) 2 2] w fun e w' => e = .returned (.int .i64 r) ∧ w' = w := by
  rw [← hr]; exact or52 p q b w h0 h1
theorem far_wrap {a f : Nat} (_ : a < 18446744073709551616) (hf : f < 18446744073709551616) : IntKind.u64.wrap ((a : Int) - f) = farN f a := by
  unfold farN
  simp [IntKind.wrap, IntKind.bits, IntKind.signed]
  omega
set_option maxHeartbeats 12800000 in
theorem closure84 (x y : SpotM) (f : Nat) (hf : f < 18446744073709551616) (cb co : Nat) (W : World) (hc : W.cell? ⟨cb, co, none⟩ = some (.int .u64 (f : Int))) :
    Calls Try.prog 84 (#[.agg (encS x).toArray, .agg (encS y).toArray] ++ #[.pointer (some ⟨cb, co, none⟩)]) W fun e w' => e = .returned (.int .i64 (cfS f x y)) ∧ ∃ q os', w' = grow (W.drewN q) os' := by
  have e1 := far_wrap x.1.isLt hf
  have e2 := far_wrap y.1.isLt hf
  unfold cfS
  generalize ((farN f x.1.val : Nat) : Int) = u at e1 ⊢
  generalize ((farN f y.1.val : Nat) : Int) = v at e2 ⊢
  show Calls Try.prog 84 #[.agg #[.int .u64 x.1.val, .int .i64 x.2], .agg #[.int .u64 y.1.val, .int .i64 y.2], .pointer (some ⟨cb, co, none⟩)] W _
  generalize ((x.1.val : Nat) : Int) = x1 at e1 ⊢
  generalize ((y.1.val : Nat) : Int) = y1 at e2 ⊢
  generalize x.2 = x2
  generalize y.2 = y2
  generalize (f : Int) = g at *
  generalize hr : (if compareInt u v ≠ 0 then compareInt u v else compareInt x2 y2) = r
  have eb := World.new_ne W ⟨cb, co, none⟩ hc
  have hb : cb < W.heap.size := World.block_lt_of_cell? W ⟨cb, co, none⟩ hc
  have eb1 : W.heap.size + 1 ≠ cb := by omega
  have eb2 : W.heap.size + 1 + 1 ≠ cb := by omega
  have hk : ∀ o1 o2 o3, (((W.alloc o1).alloc o2).alloc o3).drew.cell? ⟨cb, co, none⟩ = some (.int .u64 g) := fun o1 o2 o3 => by
    show (((W.alloc o1).alloc o2).alloc o3).cell? ⟨cb, co, none⟩ = _
    rw [World.cell?_alloc_past _ _ _ (by simp; omega), World.cell?_alloc_past _ _ _ (by simp; omega), World.cell?_alloc_past _ _ _ hb, hc]
  go_enter Try.func84, Try.ntmps84
  go_wp2
  go_region_held3 (fun w' => w'.cell? ⟨W.heap.size, 0, none⟩ = some (.int .u64 x1) ∧ w'.cell? ⟨W.heap.size, 1, none⟩ = some (.int .i64 x2) ∧ w'.cell? ⟨W.heap.size + 1, 0, none⟩ = some (.int .u64 y1) ∧ w'.cell? ⟨W.heap.size + 1, 1, none⟩ = some (.int .i64 y2) ∧ w'.cell? ⟨cb, co, none⟩ = some (.int .u64 g)) (first | go_keep | (refine ⟨?_, ?_, ?_, ?_, hk _ _ _⟩ <;> simp [*]))
    (first | (go_at_call 53; refine (cmp53 _ _ _).mono ?_; rintro e w' ⟨rfl, rfl⟩) | (go_at_call 73; refine (cmp73 _ _ _).mono ?_; rintro e w' ⟨rfl, rfl⟩) | (go_at_call 52; refine (or52' (compareInt u v) (compareInt x2 y2) r hr (W.heap.size + 1 + 1) _ ?_ ?_).mono ?_; (show (World.alloc _ _).cell? _ = _; rw [World.cell?_alloc_at _ _ _ _ (by simp)]; rfl); (show (World.alloc _ _).cell? _ = _; rw [World.cell?_alloc_at _ _ _ _ (by simp)]; rfl); rintro e w' ⟨rfl, rfl⟩))
  go_wp2
  go_ret
  exact ⟨rfl, 1, _, by rw [alloc_eq_grow, alloc_eq_grow, alloc_eq_grow, grow_grow, grow_grow]; rfl⟩
end Go.Proofs.PxR2
