/- Out of the machine in one breath: calls of the Go text. -/
import Derived.Test.YtpdgbkmpcahjjaaPzR2K
set_option linter.unusedVariables false
set_option linter.unusedSimpArgs false
set_option maxRecDepth 100000
namespace Go.Proofs.PxR2
open Go Go.Px Go.Proofs
theorem npT_ne {f : Nat} (h : npT f = true) {g : Nat} (hg : g ∈ toldT) : f ≠ g := fun e => by
  subst e
  unfold npT at h
  simp only [Bool.not_eq_true', List.any_eq_false] at h
  exact h f hg (Nat.beq_refl f)
theorem hnp1 : ∀ f, npT f = true → ∀ l, E1.prim f l = none := fun f h l => np1 (npT_ne h (by decide)) (npT_ne h (by decide)) (npT_ne h (by decide)) (npT_ne h (by decide)) (npT_ne h (by decide)) l
theorem z_ok {k f : Nat} {args : List AV} {r : AV × TH × Acc} (h : CY k [] (.func f) args .nil = some r) : ∃ H, callA E1 k (.func f) args [] = some (r.1, H, r.2.2) :=
  callZ_ok hnp1 nl1 (ze_ok rfl) (zle_ok rfl) (fe_ok rfl) tab_le h
theorem law_true {k f : Nat} {zf : ZFn} {args : List AV} {T2 : TH} (hG : GE E1 f = some zf) (hp : E1.pure f = true) (hz : fzL (fzG E1 (TH.nil).get fzDeep) args = some (args, [])) (hb : bodyZ E1 (CY k) [] k zf args (rep []) = some (.bool true, T2)) {S : Sett} {w : World} {args' : Array Value} (hS : ∀ b j, S b j → (w.cell? ⟨b, j, none⟩).isSome = true) (ha : RepL m0 S w false args'.toList args) :
    Calls Try.prog f args' w fun e w' => e = .returned (.bool true) ∧ Go.Px.GrownO w w' := by
  have h := call_pure (E := E1) (GE := GE E1) (LZ := LZ E1) (Y := []) (T := .nil) hG hp hz hb (r' := .bool true) (ns2 := []) rfl
  obtain ⟨H, h2⟩ := z_ok h
  exact pure_grown env1 fr1 ok1 mixed h2 hS ha
end Go.Proofs.PxR2
