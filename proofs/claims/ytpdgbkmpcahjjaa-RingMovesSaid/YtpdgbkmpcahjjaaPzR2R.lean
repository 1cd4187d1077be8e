/- RingAll: the Go text's calls. -/
import Derived.Test.YtpdgbkmpcahjjaaPzR2P
import Derived.Test.YtpdgbkmpcahjjaaPzR2Q
set_option linter.unusedSimpArgs false
set_option linter.unusedVariables false
set_option maxRecDepth 100000
namespace Go.Proofs.PxR2
open Go Go.Px Go.Proofs

theorem byte_nat {a : Int} (h : (Lit.int .u8 a).wf = true) : ∃ n : Nat, n < 256 ∧ a = n := by
  have h1 : IntKind.u8.min = 0 := rfl
  have h2 : IntKind.u8.max = 255 := rfl
  simp [Lit.wf] at h
  exact ⟨a.toNat, by omega, by omega⟩

theorem walk_all (a c : Int) (s : ByteArray) (wa : (Lit.int .u8 a).wf = true) (wc : (Lit.int .u8 c).wf = true) (w : World) :
    Calls Try.prog 7 #[.int .u8 a, .string s, .int .u8 c] w fun e w' => e = .returned (.bool true) ∧ Go.Px.GrownO w w' := by
  obtain ⟨x, hx, rfl⟩ := byte_nat wa
  obtain ⟨y, hy, rfl⟩ := byte_nat wc
  obtain ⟨H', hb⟩ := all7 x y hy (s.data.toList.map UInt8.toNat)
  exact law_true (k := 500) (f := 7) (zf := G7 E1) rfl rfl rfl hb (S := fun _ _ => False) (fun _ _ h => h.elim) (.cons _ _ _ _ _ (.int _ _ _) (.cons _ _ _ _ _ (.str _ _ _ rfl) (.cons _ _ _ _ _ (.int _ _ _) (.nil _))))
end Go.Proofs.PxR2
