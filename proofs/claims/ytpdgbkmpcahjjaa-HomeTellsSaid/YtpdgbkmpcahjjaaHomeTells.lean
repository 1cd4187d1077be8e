/-
  HomeTells holds: whatever the two views (nil slices too, right or not), the node and the key are, the Go text returns true and changes nothing that was there ahead of the call. Conditions: none. (The walk: an abstract machine, proved right of the model; loops by induction; the binary search by its halves; the sort by the library's contract; the plain law: one way to lie in order.)
-/
import Derived.Test.YtpdgbkmpcahjjaaRows
import Derived.Test.YtpdgbkmpcahjjaaPzR2ZD
import Derived.Test.YtpdgbkmpcahjjaaPb3
import Derived.WalkKit
import Derived.ProofKit
import Derived.OpenShut
import Derived.ChangeMaps5
import Derived.ChangeSlices
namespace Go.Proofs.Ytpdgbkmpcahjjaa.homeTells
open Go.ChangeShapes Go.WideShapes Go.ChangeAt Go.RowKit
set_option linter.unusedVariables false

theorem own : ownKnob Try.prog.godebug = none := by kernel_rfl
theorem laid : laidOutB Try.prog = true := by kernel_rfl

set_option maxRecDepth 100000 in
theorem lifted (os : Os) (started : os.Started) (H : Type) (enc : TypeId × Value → H) :
    ReturnsInHanded {} Try.checked os 8 .any (Rows.homeTellsSpec.pre6 enc Try.prog Try.f8 Rows.homeTellsRow.domain false) (Rows.homeTellsSpec.post enc Try.prog Try.f8 false true false false) := by
  refine returnsInHanded_of_change (C := Try.checked) own started (by kernel_rfl) Try.func8
    (ChangeSpec.witness6 (enc := enc) (C := Try.checked) false ⟨#[], #[.agg #[.slice none 0 0, .slice none 0 0], .agg #[.slice none 0 0, .slice none 0 0], .int .i64 0, .string ⟨#[]⟩], []⟩ 8 (by kernel_rfl) (by kernel_rfl) (by kernel_rfl) (by kernel_rfl)) ?_
  intro W base args ds gs before hval0 hW hcnd _
  have hval : ∀ (j : Nat) t v, Try.f8.params[j]? = some t → args[j]? = some v → Value.okWide Try.prog W .any base t v := hval0
  have hW' := hW
  obtain ⟨p, q, hA0, hV, rfl, hfz, hnd⟩ := hW
  have hA : DataW.TrodAll enc Try.prog W 0 (fun _ => true) true Try.f8.params.toList args.toList ds p := hA0
  rw [Try.params8] at hA hval
  obtain ⟨v0, vs0, d0, ds0, p0, q0, hargs, rfl, rfl, h0, r0⟩ := trodAll_cons hA
  obtain ⟨v1, vs1, d1, ds1, p1, q1, rfl, rfl, rfl, h1, r1⟩ := trodAll_cons r0
  obtain ⟨v2, vs2, d2, ds2, p2, q2, rfl, rfl, rfl, h2, r2⟩ := trodAll_cons r1
  obtain ⟨v3, vs3, d3, ds3, p3, q3, rfl, rfl, rfl, h3, r3⟩ := trodAll_cons r2
  obtain ⟨rfl, rfl, rfl⟩ := trodAll_nil r3
  obtain rfl : args = #[v0, v1, v2, v3] := by cases args; simp_all
  obtain ⟨rfl, rfl⟩ := trodVars_none hV
  obtain ⟨x, rfl, rfl, rfl, wx⟩ := open_int Try.underlying3 (hval 2 3 v2 rfl rfl) h2
  obtain ⟨str, rfl, rfl, rfl, ws⟩ := Go.ChangeMaps.open_string Try.underlying9 (hval 3 9 v3 rfl rfl) h3
  obtain ⟨va, ⟨ka1, ka2, _⟩, ra⟩ := Go.Px.opens_arg (W := W) Try.underlying25 (Go.Proofs.PxR2.opens_view (enc := enc) (w := W)) (hval 0 25 v0 rfl rfl) h0
  obtain ⟨vb, ⟨kb1, kb2, _⟩, rb⟩ := Go.Px.opens_arg (W := W) Try.underlying25 (Go.Proofs.PxR2.opens_view (enc := enc) (w := W)) (hval 1 25 v1 rfl rfl) h1
  have hlt := hW'.lt
  refine (Go.Proofs.PxR2.walk_home v0 v1 x str W va vb ra rb ka1 ka2 kb1 kb2).mono fun e W' ⟨he, hg⟩ => ?_
  subst he
  refine ⟨_, rfl, Go.Px.post_of_sameO (pa := p0 ++ (p1 ++ [])) (pv := []) hW' (fun _ _ _ => (trodAll_cons_mk (shut_bool Try.underlying4 _) trodAll_mk0)) (fun sp hsp => ?_) (fun _ _ => rfl) (by simp)
    (hg.frame _) hg.2.1 (ok_one (by kernel_rfl) rfl (okWide_bool_mk Try.underlying4 _))⟩
  have t0 := Go.Px.trod_grown laid (by kernel_rfl) (of_decide_eq_true (by kernel_rfl)) hg (sp' := sp) h0 (fun y hy => hlt y (by simp [hy])) (fun y hy => hsp y (by simp [hy]))
  have t1 := Go.Px.trod_grown laid (by kernel_rfl) (of_decide_eq_true (by kernel_rfl)) hg (sp' := sp) h1 (fun y hy => hlt y (by simp [hy])) (fun y hy => hsp y (by simp [hy]))
  have t3 := trodAll_cons_mk t0 (trodAll_cons_mk t1 (trodAll_cons_mk (shut_int (enc := enc) (P := Try.prog) (w := W') (base := 0) (spare := sp) (held := true) Try.underlying3 wx) (trodAll_cons_mk (Go.ChangeMaps.shut_string (enc := enc) (P := Try.prog) (w := W') (base := 0) (sp := sp) (held := true) Try.underlying9 ws) trodAll_mk0)))
  simp only [List.append_nil] at t3 ⊢
  exact t3

theorem over : Rows.homeTellsRow.holds Try.pinned (OpenSpec.ofChange Rows.homeTellsSpec) :=
  OpenClaim.holds_of_wide 8 Try.f8 rfl rfl rfl rfl rfl rfl rfl ⟨rfl, rfl, rfl, rfl, rfl⟩ rfl rfl rfl rfl rfl (by kernel_rfl) Try.func8 (by kernel_rfl)
    (of_decide_eq_true (by kernel_rfl)) (by unfold Func.isWrapper; first | (rw [if_pos (by decide +kernel)]; kernel_rfl) | (rw [if_neg (by decide +kernel)]; exact ⟨rfl, rfl⟩))
    (fun os started H enc _ => lifted os started H enc)

/-- ████ THE STATEMENT ████ -/
theorem proved : Rows.HomeTellsSaid :=
  over
#print axioms proved
end Go.Proofs.Ytpdgbkmpcahjjaa.homeTells
