/-
  CanonMaps holds: whatever the two slices of bytes are (nil too), the Go text returns true and changes nothing that was there ahead of the call. Conditions: none. (The walk: an abstract machine, proved right of the model; loops and iterators by induction, over named objects; the plain law: what stands at one key twice is joined.)
-/
import Derived.Test.YtjpllnhlpgbgmaaGreatRows
import Derived.Test.YtjpllnhlpgbgmaaGreatPzM6Qp
import Derived.Test.YtjpllnhlpgbgmaaGreatPb3
import Derived.WalkKit
import Derived.ProofKit
import Derived.OpenShut
import Derived.ChangeMaps5
import Derived.ChangeSlices
namespace Go.Proofs.YtjpllnhlpgbgmaaGreat.canonMaps
open Go.ChangeShapes Go.WideShapes Go.ChangeAt Go.RowKit
set_option linter.unusedVariables false

theorem own : ownKnob Tryz.prog.godebug = none := by kernel_rfl
theorem laid : laidOutB Tryz.prog = true := by kernel_rfl

set_option maxRecDepth 100000 in
theorem lifted (os : Os) (started : os.Started) (H : Type) (enc : TypeId × Value → H) :
    ReturnsInHanded {} Tryz.checked os 3 .any (Rows.canonMapsSpec.pre6 enc Tryz.prog Tryz.f3 Rows.canonMapsRow.domain false) (Rows.canonMapsSpec.post enc Tryz.prog Tryz.f3 false true false false) := by
  refine returnsInHanded_of_change (C := Tryz.checked) own started (by kernel_rfl) Tryz.func3
    (ChangeSpec.witness6 (enc := enc) (C := Tryz.checked) false ⟨#[], #[.slice none 0 0, .slice none 0 0], []⟩ 8 (by kernel_rfl) (by kernel_rfl) (by kernel_rfl) (by kernel_rfl)) ?_
  intro W base args ds gs before hval0 hW hcnd _
  have hval : ∀ (j : Nat) t v, Tryz.f3.params[j]? = some t → args[j]? = some v → Value.okWide Tryz.prog W .any base t v := hval0
  have hW' := hW
  obtain ⟨p, q, hA0, hV, rfl, hfz, hnd⟩ := hW
  have hA : DataW.TrodAll enc Tryz.prog W 0 (fun _ => true) true Tryz.f3.params.toList args.toList ds p := hA0
  rw [Tryz.params3] at hA hval
  obtain ⟨v0, vs0, d0, ds0, p0, q0, hargs, rfl, rfl, h0, r0⟩ := trodAll_cons hA
  obtain ⟨v1, vs1, d1, ds1, p1, q1, rfl, rfl, rfl, h1, r1⟩ := trodAll_cons r0
  obtain ⟨rfl, rfl, rfl⟩ := trodAll_nil r1
  obtain rfl : args = #[v0, v1] := by cases args; simp_all
  obtain ⟨rfl, rfl⟩ := trodVars_none hV
  obtain ⟨va, ka, ra⟩ := Go.Proofs.PxM6.opens_argS (w := W) Tryz.underlying22 (Go.Proofs.PxM6.opens_bytes (enc := enc) (w := W)) (hval 0 22 v0 rfl rfl) h0
  obtain ⟨vb, kb, rb⟩ := Go.Proofs.PxM6.opens_argS (w := W) Tryz.underlying22 (Go.Proofs.PxM6.opens_bytes (enc := enc) (w := W)) (hval 1 22 v1 rfl rfl) h1
  have hlt := hW'.lt
  refine (Go.Proofs.PxM6.walk_maps v0 v1 W va vb ra rb ka kb).mono fun e W' ⟨he, hg⟩ => ?_
  subst he
  refine ⟨_, rfl, Go.Px.post_of_sameO (pa := p0 ++ (p1 ++ [])) (pv := []) hW' (fun _ _ _ => (trodAll_cons_mk (shut_bool Tryz.underlying4 _) trodAll_mk0)) (fun sp hsp => ?_) (fun _ _ => rfl) (by simp)
    (hg.frame _) hg.2.1 (ok_one (by kernel_rfl) rfl (okWide_bool_mk Tryz.underlying4 _))⟩
  have t0 := Go.Px.trod_grown laid (by kernel_rfl) (of_decide_eq_true (by kernel_rfl)) hg (sp' := sp) h0 (fun y hy => hlt y (by simp [hy])) (fun y hy => hsp y (by simp [hy]))
  have t1 := Go.Px.trod_grown laid (by kernel_rfl) (of_decide_eq_true (by kernel_rfl)) hg (sp' := sp) h1 (fun y hy => hlt y (by simp [hy])) (fun y hy => hsp y (by simp [hy]))
  have t3 := trodAll_cons_mk t0 (trodAll_cons_mk t1 trodAll_mk0)
  simp only [List.append_nil] at t3 ⊢
  exact t3

theorem over : Rows.canonMapsRow.holds Tryz.pinned (OpenSpec.ofChange Rows.canonMapsSpec) :=
  OpenClaim.holds_of_wide 3 Tryz.f3 rfl rfl rfl rfl rfl rfl rfl ⟨rfl, rfl, rfl, rfl, rfl⟩ rfl rfl rfl rfl rfl (by kernel_rfl) Tryz.func3 (by kernel_rfl)
    (of_decide_eq_true (by kernel_rfl)) (by unfold Func.isWrapper; first | (rw [if_pos (by decide +kernel)]; kernel_rfl) | (rw [if_neg (by decide +kernel)]; exact ⟨rfl, rfl⟩))
    (fun os started H enc _ => lifted os started H enc)

/-- ████ THE STATEMENT ████ -/
theorem proved : Rows.CanonMapsSaid :=
  over
#print axioms proved
end Go.Proofs.YtjpllnhlpgbgmaaGreat.canonMaps
