/- The law ViewTells, over the model's values: two views, two numbers, a key. -/
import Derived.Test.YtpdgbkmpcahjjaaPzV2L2
import Derived.Test.YtpdgbkmpcahjjaaPb4
set_option linter.unusedVariables false
set_option linter.unusedSimpArgs false
set_option maxRecDepth 100000
namespace Go.Proofs.PxV2
open Go Go.Px Go.Proofs
theorem memC_flat : ∀ l : List Mem, (l.flatMap fun p => [AV.int .i64 p.1] ++ [AV.int .u64 (p.2 : Int)]) = memC l
 | [] => rfl
 | (d, n) :: l => by rw [List.flatMap_cons, memC_flat l]; rfl
theorem copC_flat : ∀ l : List Cop, (l.flatMap fun p => [AV.str p.1] ++ ([AV.int .u64 (p.2.1 : Int)] ++ [AV.int .u64 (p.2.2 : Int)])) = copC l
 | [] => rfl
 | (d, n, m) :: l => by rw [List.flatMap_cons, copC_flat l]; rfl
theorem len_sum {X : Type} {f : X → Nat} (hf : ∀ x, 1 ≤ f x) : ∀ l : List X, l.length ≤ (l.map f).sum
 | [] => by simp
 | x :: l => by
  have := len_sum hf l
  have := hf x
  simp only [List.map_cons, List.sum_cons, List.length_cons]; omega
def WfW (v : VwT) : Prop := (∀ x ∈ v.M, x.2 < 18446744073709551616) ∧ (∀ x ∈ v.C, x.2.1 < 18446744073709551616)
theorem wf_u64 {n : Nat} (h : (Lit.int .u64 (n : Int)).wf = true) : n < 18446744073709551616 := by
 simp [Lit.wf, IntKind.min, IntKind.max, IntKind.signed, IntKind.bits] at h
 omega
theorem opens_view {H : Type} {enc : TypeId × Value → H} {w : World} {B : DataW H → Nat} (hB : BulkOk B) :
  OpensB enc Try.prog w B 25 2 (fun v : VwT => WfW v) (fun v => [v.m, v.c]) (fun v => v.M.length + v.C.length) := by
 intro base spare held fuel cs x h
 have hm := opensB_slice (enc := enc) (w := w) hB Try.underlying22 (sz := 2) (by kernel_rfl) (by decide) (opensB_struct2 hB Try.underlying55 (opensB_i64 hB Try.underlying3) (opensB_u64 hB Try.underlying40 rfl) (by kernel_rfl) (by kernel_rfl) (by kernel_rfl) rfl rfl)
 have hc := opensB_slice (enc := enc) (w := w) hB Try.underlying23 (sz := 3) (by kernel_rfl) (by decide) (opensB_struct3 hB Try.underlying59 (opensB_str hB Try.underlying9) (opensB_u64 hB Try.underlying40 rfl) (opensB_u64 hB Try.underlying40 rfl) (by kernel_rfl) (by kernel_rfl) (by kernel_rfl) (by kernel_rfl) rfl rfl rfl)
 obtain ⟨⟨⟨M, fM⟩, ⟨C, fC⟩⟩, ⟨⟨h1, h2⟩, h3, h4⟩, hb, r, o, _⟩ := opensB_struct2 hB Try.underlying25 hm hc (by kernel_rfl) (by kernel_rfl) (by kernel_rfl) rfl rfl _ _ _ _ _ _ h
 refine ⟨⟨M, C, fM, fC⟩, ⟨fun x hx => wf_u64 (h2 x hx).2, fun x hx => wf_u64 (h4 x hx).2.1⟩, ?_, ?_, ?_, rfl⟩
 ·have l1 := len_sum (f := fun p : Int × Nat => 1 + 1 + 1) (fun x => by omega) M
  have l2 := len_sum (f := fun p : List Nat × Nat × Nat => p.1.length + 1 + (1 + 1) + 1) (fun x => by omega) C
  simp only at hb l1 l2 ⊢
  omega
 ·simp only [memC_flat, copC_flat] at r
  exact r
 ·intro y hy
  simp only [VwT.m, VwT.c, List.mem_cons, List.not_mem_nil, or_false] at hy
  rcases hy with rfl | rfl <;> rfl
theorem walk_view (a b : Value) (n m : Int) (s : ByteArray) (hn : I64 n) (hm : I64 m) (w : World) (va vb : VwT) (ha : Rep m0 (SOf w) w true a va.av) (hb : Rep m0 (SOf w) w true b vb.av) (h1 : va.M.length + va.C.length ≤ 100000000) (h2 : vb.M.length + vb.C.length ≤ 100000000) (hw : WfW va) :
  Calls Try.prog 3 #[a, b, .int .i64 n, .int .i64 m, .string s] w fun e w' => e = .returned (.bool true) ∧ Go.Px.GrownO w w' := by
 obtain ⟨T2, hbd⟩ := law3 (k := 3000 + va.M.length + va.C.length + vb.M.length + vb.C.length) va vb n m (s.data.toList.map UInt8.toNat) hn hm (by omega) (by omega) (by omega) (by omega) (by omega) hw.1 hw.2
 have hl : RepL m0 (SOf w) w true [a, b, .int .i64 n, .int .i64 m, .string s] [va.av, vb.av, iV n, iV m, .str (s.data.toList.map UInt8.toNat)] := .cons _ _ _ _ _ ha (.cons _ _ _ _ _ hb (.cons _ _ _ _ _ (.int _ _ _) (.cons _ _ _ _ _ (.int _ _ _) (.cons _ _ _ _ _ (.str _ _ _ rfl) (.nil _)))))
 have hb2 : bodyZ E1 (CY (3000 + va.M.length + va.C.length + vb.M.length + vb.C.length)) [] (3000 + va.M.length + va.C.length + vb.M.length + vb.C.length) (G3 E1) [va.av, vb.av, iV n, iV m, .str (s.data.toList.map UInt8.toNat)] (rep []) = some (.bool true, T2) := hbd
 exact law_true (f := 3) (zf := G3 E1) rfl rfl rfl hb2 (S := SOf w) (SOf_cell w) hl.weak
theorem i64_wf {n : Int} (h : (Lit.int .i64 n).wf = true) : I64 n := by
 simp [Lit.wf, IntKind.min, IntKind.max, IntKind.signed, IntKind.bits] at h
 unfold I64; omega
end Go.Proofs.PxV2
