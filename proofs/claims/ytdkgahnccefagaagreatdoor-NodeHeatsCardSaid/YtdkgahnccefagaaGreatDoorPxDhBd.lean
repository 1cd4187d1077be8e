/- strings.Builder.copyCheck and String at the seat, told. -/
import Derived.Test.YtdkgahnccefagaaGreatDoorProg
import Derived.Test.YtdkgahnccefagaaGreatDoorPb4
import Derived.WalkKit
import Derived.Lib.Builder
import Derived.Lib.UnsafeStr
import Derived.Shelf.RegionOpenPlain
import Derived.Laws.Externs
set_option linter.unusedVariables false
set_option linter.unusedSimpArgs false
namespace Go.Proofs.PxDh
open Go Go.RowKit Go.Extern Go.Px
theorem sizeB : (Tryz.prog.info? 340).map (·.size) = some 2 := by kernel_rfl
theorem cellsR : Tryz.prog.cellsOf 342 = 2 := by kernel_rfl
theorem rowB : rowAt Tryz.prog (sameLayout Tryz.prog Tryz.prog.depth · 340) Tryz.prog.depth 342 1 0 1 = true := by decide +kernel
theorem liesB (n : Nat) (hn : 2 ≤ n) : liesAt Tryz.prog Tryz.prog.depth 342 (n / Tryz.prog.cellsOf 342) 0 340 1 = true := by
  rw [cellsR]
  exact lies_more (by decide +kernel) (by omega) rowB
set_option maxHeartbeats 1000000 in
set_option maxRecDepth 100000 in
theorem cc_used (b : Nat) (w : World) (h0 : w.cell? ⟨b, 0, none⟩ = some (.pointer (some ⟨b, 0, none⟩))) :
    Calls Tryz.prog 391 #[.pointer (some ⟨b, 0, none⟩)] w fun e w' => e = .returned (.tuple #[]) ∧ w' = w := by
  obtain ⟨j, hj, _⟩ := Option.map_eq_some_iff.1 sizeB
  go_enter Tryz.func391, Tryz.ntmps391
  go_wp2
  rw [Lib.run_neq_ptr_same w _ Tryz.underlying338 hj]
  go_wp2
  go_end0
  exact ⟨rfl, rfl⟩
set_option maxHeartbeats 1000000 in
set_option maxRecDepth 100000 in
theorem cc_fresh (b : Nat) (w : World) (n : Nat) (h0 : w.cell? ⟨b, 0, none⟩ = some (.pointer none)) (hn : 2 ≤ n) (hsh : w.shape? b = some (342, n)) (hfz : w.frozen? ⟨b, 0, none⟩ = false) :
    Calls Tryz.prog 391 #[.pointer (some ⟨b, 0, none⟩)] w fun e w' => e = .returned (.tuple #[]) ∧ w' = w.setCell ⟨b, 0, none⟩ (.pointer (some ⟨b, 0, none⟩)) := by
  obtain ⟨j, hj, hjs⟩ := Option.map_eq_some_iff.1 sizeB
  go_enter Tryz.func391, Tryz.ntmps391
  go_wp2
  rw [Lib.run_to_unsafe w ⟨b, 0, none⟩ Tryz.underlying338 Tryz.underlying459 hj (by rw [hjs]; decide) hsh (show 0 < n by omega)]
  simp only [Result.andThen]
  rw [Oper.upon_value]
  go_wp2
  rw [run_callFunc_extern Tryz.func408 (by kernel_rfl) (by kernel_rfl) (by kernel_rfl) (e := Extern.AbiNoEscape.same) (by kernel_rfl)]
  rw [Lib.run_noEscape]
  simp only [Result.andThen]
  rw [Oper.upon_value]
  go_wp2
  rw [Lib.run_from_unsafe w ⟨b, 0, none⟩ Tryz.underlying459 Tryz.underlying338 hj hsh (liesB n hn)]
  simp only [Result.andThen]
  rw [Oper.upon_value]
  go_wp2
  go_end0
  exact ⟨rfl, rfl⟩
theorem say_check : SayOk Tryz.prog 391 (sayCheckB 342 2) := sayCheckB_ok Tryz.func391 (by kernel_rfl) (by kernel_rfl) cc_used cc_fresh
theorem cells5 : Tryz.prog.cellsOf 5 = 1 := by kernel_rfl
set_option maxHeartbeats 2000000 in
set_option maxRecDepth 100000 in
theorem st_read (b off g c : Nat) (l : List UInt8) (w : World) (k : Nat) (h1 : w.cell? ⟨b, off + 1, none⟩ = some (.slice (some ⟨g, 0, none⟩) l.length c)) (h0 : l ≠ []) (hc : l.length ≤ c) (hm : l.length ≤ 1000000) (hsh : w.shape? g = some (5, k)) (hk : l.length ≤ k)
    (hcell : ∀ j x, l[j]? = some x → w.cell? ⟨g, j, none⟩ = some (.int .u8 x.toNat)) :
    Calls Tryz.prog 261 #[.pointer (some ⟨b, off, none⟩)] w fun e w' => e = .returned (.string ⟨l.toArray⟩) ∧ w' = w.drew.freeze ⟨g, 0, none⟩ l.length := by
  have hl0 : l.length ≠ 0 := by simpa using h0
  have c1 : w.drew.cell? ⟨b, off + 1, none⟩ = some (.slice (some ⟨g, 0, none⟩) l.length c) := h1
  have hSD : (Builtin.unsafeSliceData_ #[28] 404 #[.slice (some ⟨g, 0, none⟩) l.length c]).run Tryz.prog w.drew = .ok (.pointer (some ⟨g, 0, none⟩)) w.drew := Lib.run_unsafeSliceData_row _ _ _ _ _ _ (by omega)
  have hUS : (Builtin.unsafeString_ #[404, 3] 9 #[.pointer (some ⟨g, 0, none⟩), .int .i64 l.length]).run Tryz.prog w.drew = .ok (.string ⟨l.toArray⟩) (w.drew.freeze ⟨g, 0, none⟩ l.length) :=
    Lib.run_unsafeString_row w.drew 404 3 9 5 Tryz.underlying404 cells5 g k hsh l h0 hk (by omega) (fun j x hx => by
      rw [Addr.add_lit, Nat.zero_add]; exact hcell j x hx)
  have mixed : Tryz.prog.follows .mixedOrders = true := by kernel_rfl
  have u1 : ∀ w, Sem.run Tryz.prog (underlying 28) w = .ok (TypeDesc.slice 5) w := run_underlying Tryz.underlying28
  go_enter Tryz.func261, Tryz.ntmps261
  go_wp2
  go_region_o
  all_goals (go_wp2; go_ret; exact ⟨rfl, rfl⟩)
theorem say_string : SayOk Tryz.prog 261 (sayStringB 5) := sayStringB_ok Tryz.func261 (by kernel_rfl) (by kernel_rfl) st_read
end Go.Proofs.PxDh
