/- The law HomeTells, over the model's values: two views, a node, a key. -/
import Derived.Test.YtpdgbkmpcahjjaaPzR2ZC
import Derived.Test.YtpdgbkmpcahjjaaPb4
set_option linter.unusedVariables false
set_option linter.unusedSimpArgs false
set_option maxRecDepth 100000
namespace Go.Proofs.PxR2
open Go Go.Px Go.Proofs
theorem memC_flat : ∀ l : List Mem, (l.flatMap fun p => [AV.int .i64 p.1] ++ [AV.int .u64 (p.2 : Int)]) = memC l
  | [] => rfl
  | (d, n) :: l => by rw [List.flatMap_cons, memC_flat l]; rfl
theorem copC_flat : ∀ l : List Cop, (l.flatMap fun p => [AV.str p.1] ++ ([AV.int .u64 (p.2.1 : Int)] ++ [AV.int .u64 (p.2.2 : Int)])) = copC l
  | [] => rfl
  | (d, n, m) :: l => by rw [List.flatMap_cons, copC_flat l]; rfl
theorem opens_view {H : Type} {enc : TypeId × Value → H} {w : World} :
    Opens enc Try.prog w 25 2 (fun v : VwT => v.M.length ≤ maxLen ∧ v.C.length ≤ maxLen ∧ (∀ x ∈ v.M, (Lit.int .i64 x.1).wf = true ∧ (Lit.int .u64 (x.2 : Int)).wf = true) ∧ (∀ x ∈ v.C, (∀ c ∈ x.1, c < 256) ∧ x.1.length ≤ maxLen ∧ (Lit.int .u64 (x.2.1 : Int)).wf = true ∧ (Lit.int .u64 (x.2.2 : Int)).wf = true)) (fun v => [v.m, v.c]) := by
  intro base spare held fuel cs x h
  have hm := opens_slice (enc := enc) (w := w) Try.underlying22 (sz := 2) (by kernel_rfl) (by decide) (opens_struct2 Try.underlying55 (opens_i64 Try.underlying3) (opens_u64 Try.underlying40 rfl) (by kernel_rfl) (by kernel_rfl) (by kernel_rfl) rfl rfl)
  have hc := opens_slice (enc := enc) (w := w) Try.underlying23 (sz := 3) (by kernel_rfl) (by decide) (opens_struct3 Try.underlying59 (opens_str Try.underlying9) (opens_u64 Try.underlying40 rfl) (opens_u64 Try.underlying40 rfl) (by kernel_rfl) (by kernel_rfl) (by kernel_rfl) (by kernel_rfl) rfl rfl rfl)
  obtain ⟨⟨⟨M, fM⟩, ⟨C, fC⟩⟩, ⟨⟨h1, h2⟩, h3, h4⟩, r, o, _⟩ := opens_struct2 Try.underlying25 hm hc (by kernel_rfl) (by kernel_rfl) (by kernel_rfl) rfl rfl _ _ _ _ _ _ h
  refine ⟨⟨M, C, fM, fC⟩, ⟨h1, h3, fun x hx => h2 x hx, fun x hx => ⟨(h4 x hx).1.2, (h4 x hx).1.1, (h4 x hx).2.1, (h4 x hx).2.2⟩⟩, ?_, ?_, rfl⟩
  · simp only [memC_flat, copC_flat] at r
    exact r
  · intro y hy
    simp only [VwT.m, VwT.c, List.mem_cons, List.not_mem_nil, or_false] at hy
    rcases hy with rfl | rfl <;> rfl
theorem walk_home (a b : Value) (n : Int) (s : ByteArray) (w : World) (va vb : VwT) (ha : Rep m0 (SOf w) w true a va.av) (hb : Rep m0 (SOf w) w true b vb.av) (h1 : va.M.length ≤ maxLen) (h2 : va.C.length ≤ maxLen) (h3 : vb.M.length ≤ maxLen) (h4 : vb.C.length ≤ maxLen) :
    Calls Try.prog 8 #[a, b, .int .i64 n, .string s] w fun e w' => e = .returned (.bool true) ∧ Go.Px.GrownO w w' := by
  obtain ⟨T2, hbd⟩ := home8 va vb n (s.data.toList.map UInt8.toNat) (1000 + va.M.length + va.C.length + vb.M.length + vb.C.length) (by omega) (by omega) (by omega) (by omega) (by omega) h1 h2 h3 h4
  have hl : RepL m0 (SOf w) w true [a, b, .int .i64 n, .string s] [va.av, vb.av, iV n, .str (s.data.toList.map UInt8.toNat)] := .cons _ _ _ _ _ ha (.cons _ _ _ _ _ hb (.cons _ _ _ _ _ (.int _ _ _) (.cons _ _ _ _ _ (.str _ _ _ rfl) (.nil _))))
  exact law_true (f := 8) (zf := G8 E1) rfl rfl (flat_vvnk va vb n _ _) hbd (S := SOf w) (SOf_cell w) hl.weak
end Go.Proofs.PxR2
