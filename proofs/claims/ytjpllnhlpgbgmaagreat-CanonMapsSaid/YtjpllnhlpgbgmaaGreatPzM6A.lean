/- The base of the views' texts (canon). -/
import Derived.Test.YtjpllnhlpgbgmaaGreatPb4
import Derived.Test.YtjpllnhlpgbgmaaGreatPzM6G
import Derived.Test.YtjpllnhlpgbgmaaGreatPxM6E
set_option linter.unusedVariables false
set_option linter.unusedSimpArgs false
set_option maxRecDepth 100000
namespace Go.Proofs.PxM6
open Go Go.Px Go.Proofs
theorem u64_wrap {n : Nat} (h : n < 18446744073709551616) : IntKind.u64.wrap (n : Int) = n := by simp [IntKind.wrap, IntKind.bits, IntKind.signed]; omega
noncomputable abbrev CY (k : Nat) : CallYT := callZ E1 (GE E1) (LZ E1) k
def I64 (n : Int) : Prop := -9223372036854775808 ≤ n ∧ n < 9223372036854775808
def iV (n : Int) : AV := .int .i64 n
theorem get_last {H : Heap} {o : AO} : (H ++ [o])[H.length]? = some o := by simp
def Kept2 (na nb : Nat) (H H' : Heap) : Prop := ∀ i o, H[i]? = some o → i ≠ na → i ≠ nb → H'[i]? = some o
end Go.Proofs.PxM6
namespace Go.Px
open Go
section
variable {L V : List AV} {T : TH} {K : KB}
theorem zG_hit {g : O} {want : Bool} {d : FD} {i : KB → KB} (h : gO L V g = .bool want) : zG g want d i K L V T = i K L V T := by
 simp only [zG, gZ_eq, h, grdZ_eq]
 cases want <;> rfl
end
end Go.Px
namespace Go.Proofs.PxM6
open Go Go.Px Go.Proofs
theorem drop_at {α : Type} {l : List α} {i : Nat} {n : α} (h : l[i]? = some n) : l.drop i = n :: l.drop (i + 1) := by
 have hlt := (List.getElem?_eq_some_iff.1 h).1
 rw [List.drop_eq_getElem_cons hlt, (List.getElem?_eq_some_iff.1 h).2]
theorem zDreg0 {f : Nat → SPK → SPK} {kn : KB} {kx : Nat → KB} {kr : KB} {L V : List AV} {T : TH} : zDreg 0 f kn kx kr L V T = f T.n (fun _ => kn) [] [] V T := by
 simp only [zDreg, lenT_eq, deadsT_eq]; rfl
def isTrueT (x : Ans) : Bool := match x with
 | some (.bool true, _) => true
 | _ => false
theorem npT_ne {f : Nat} (h : npT f = true) {g : Nat} (hg : g ∈ toldT) : f ≠ g := fun e => by
 subst e
 unfold npT at h
 simp only [Bool.not_eq_true', List.any_eq_false] at h
 exact h f hg (Nat.beq_refl f)
theorem hnp1 : ∀ f, npT f = true → ∀ l, E1.prim f l = none := fun f h l => np1 (npT_ne h (by decide)) (npT_ne h (by decide)) (npT_ne h (by decide)) (npT_ne h (by decide)) l
theorem z_ok {k f : Nat} {args : List AV} {r : AV × TH × Acc} (h : CY k [] (.func f) args .nil = some r) : ∃ H, callA E1 k (.func f) args [] = some (r.1, H, r.2.2) :=
 callZ_ok hnp1 nl1 (ze_ok rfl) (zle_ok rfl) (fe_ok rfl) tab_le h
end Go.Proofs.PxM6
