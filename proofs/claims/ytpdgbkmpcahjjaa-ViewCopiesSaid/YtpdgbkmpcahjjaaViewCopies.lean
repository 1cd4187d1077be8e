/-
  ViewCopies holds: whatever the slice of bytes and the two bytes are, the Go text returns true and changes nothing that was there ahead of the call. Conditions: none. (The walk: an abstract machine, proved right of the model; each round of the loop over the slice is reckoned by the kernel at each residue of the byte that it looks at, with variables for all else.)
-/
import Derived.Test.YtpdgbkmpcahjjaaRows
import Derived.Test.YtpdgbkmpcahjjaaPzV1W
import Derived.Test.YtpdgbkmpcahjjaaPb3
import Derived.WalkKit
import Derived.ProofKit
import Derived.OpenShut
import Derived.ChangeSlices
namespace Go.Proofs.Ytpdgbkmpcahjjaa.viewCopies
open Go.ChangeShapes Go.WideShapes Go.ChangeAt Go.RowKit
set_option linter.unusedVariables false

theorem own : ownKnob Try.prog.godebug = none := by kernel_rfl
theorem cells5 : Try.prog.cellsOf 5 = 1 := by kernel_rfl

set_option maxRecDepth 100000 in
theorem lifted (os : Os) (started : os.Started) (H : Type) (enc : TypeId × Value → H) :
    ReturnsInHanded {} Try.checked os 4 .any (Rows.viewCopiesSpec.pre6 enc Try.prog Try.f4 Rows.viewCopiesRow.domain false) (Rows.viewCopiesSpec.post enc Try.prog Try.f4 false true false false) := by
  refine returnsInHanded_of_change (C := Try.checked) own started (by kernel_rfl) Try.func4
    (ChangeSpec.witness6 (enc := enc) (C := Try.checked) false ⟨#[], #[.slice none 0 0, .int .u8 0, .int .u8 0], []⟩ 8 (by kernel_rfl) (by kernel_rfl) (by kernel_rfl) (by kernel_rfl)) ?_
  intro W base args ds gs before hval0 hW hcnd _
  have hval : ∀ (j : Nat) t v, Try.f4.params[j]? = some t → args[j]? = some v → Value.okWide Try.prog W .any base t v := hval0
  have hW' := hW
  obtain ⟨p, q, hA0, hV, rfl, hfz, hnd⟩ := hW
  have hA : DataW.TrodAll enc Try.prog W 0 (fun _ => true) true Try.f4.params.toList args.toList ds p := hA0
  rw [Try.params4] at hA hval
  obtain ⟨v0, vs0, d0, ds0, p0, q0, hargs, rfl, rfl, h0, r0⟩ := trodAll_cons hA
  obtain ⟨v1, vs1, d1, ds1, p1, q1, rfl, rfl, rfl, h1, r1⟩ := trodAll_cons r0
  obtain ⟨v2, vs2, d2, ds2, p2, q2, rfl, rfl, rfl, h2, r2⟩ := trodAll_cons r1
  obtain ⟨rfl, rfl, rfl⟩ := trodAll_nil r2
  obtain rfl : args = #[v0, v1, v2] := by cases args; simp_all
  obtain ⟨rfl, rfl⟩ := trodVars_none hV
  obtain ⟨x, rfl, rfl, rfl, wx⟩ := open_int Try.underlying5 (hval 1 5 v1 rfl rfl) h1
  obtain ⟨y, rfl, rfl, rfl, wy⟩ := open_int Try.underlying5 (hval 2 5 v2 rfl rfl) h2
  obtain ⟨a0, len, cap, rfl⟩ := okWide_slice Try.underlying38 (hval 0 38 v0 rfl rfl)
  obtain ⟨fuel, hf⟩ := h0
  clear hA0 hval0
  rcases open_ints Try.underlying38 Try.underlying5 cells5 hf with ⟨hcs, hx⟩ | ⟨a, len', cap', zs, hcs, _, hl, hm, hz, hx, hcell, hwz⟩
  · simp [Value.cells] at hcs
    obtain ⟨rfl, rfl, rfl⟩ := hcs
    simp only [Prod.mk.injEq] at hx
    obtain ⟨rfl, rfl⟩ := hx
    simp only [List.append_nil] at hW'
    refine (Go.Proofs.PxV1.the_walk _ [] x y (by simp) wx wy W (.inl ⟨rfl, rfl⟩)).mono fun e W' ⟨he, hg⟩ => ?_
    subst he
    exact ⟨_, rfl, Go.Px.post_of_sameO (pa := []) (pv := []) hW' (fun _ _ _ => (trodAll_cons_mk (shut_bool Try.underlying4 _) trodAll_mk0)) (fun sp _ => (trodAll_cons_mk (shut_slice_nil Try.underlying38) (trodAll_cons_mk (shut_int Try.underlying5 wx) (trodAll_cons_mk (shut_int Try.underlying5 wy) trodAll_mk0)))) (fun _ _ => rfl) rfl
      (hg.frame _) hg.2.1 (ok_one (by kernel_rfl) rfl (okWide_bool_mk Try.underlying4 _))⟩
  · simp [Value.cells] at hcs
    obtain ⟨rfl, rfl, rfl⟩ := hcs
    simp only [Prod.mk.injEq] at hx
    obtain ⟨rfl, rfl⟩ := hx
    simp only [if_true] at hz
    simp only [List.append_nil] at hW'
    have hlt : (zs.take len).length = len := by rw [List.length_take]; omega
    have hspot : zs = [] ∨ a.spot = none := by
      rcases Nat.eq_zero_or_pos zs.length with h | h
      · exact .inl (List.length_eq_zero_iff.1 h)
      · exact .inr (by simpa [Addr.add] using World.cell?_spot (hcell 0 h))
    have hplain : ∀ i, i < zs.length → W.cell? ⟨a.block, a.off + i, none⟩ = some (.int .u8 (zs.getD i 0)) := fun i hi => by
      rcases hspot with h | h
      · rw [h] at hi; simp at hi
      · have := hcell i hi
        obtain ⟨b, off, spot⟩ := a
        simp only at h; subst h
        rw [← add_plain]; exact this
    refine (Go.Proofs.PxV1.the_walk (.slice (some a) len cap) (zs.take len) x y (fun z hz' => hwz z (List.mem_of_mem_take hz')) wx wy W (.inr ⟨a, cap, by rw [hlt], by omega, ?_, fun i hi => ?_⟩)).mono fun e W' ⟨he, hg⟩ => ?_
    · rcases hspot with h | h
      · exact .inl (by rw [h]; simp)
      · exact .inr h
    · have hi2 : i < zs.length := by omega
      rw [hplain i hi2]
      simp [List.getD, hi2]
    subst he
    refine ⟨_, rfl, Go.Px.post_of_sameO (pa := MemPlace.row a zs.length) (pv := []) hW' (fun _ _ _ => (trodAll_cons_mk (shut_bool Try.underlying4 _) trodAll_mk0)) (fun sp hsp => ?_) (fun _ _ => rfl) (by simp)
      (hg.frame _) hg.2.1 (ok_one (by kernel_rfl) rfl (okWide_bool_mk Try.underlying4 _))⟩
    have hsz : zs.length = (if sp a.block then cap else len) := by
      rcases Nat.eq_zero_or_pos zs.length with h | h
      · split <;> omega
      · have hs : sp a.block = true := by
          rcases hspot with h0 | h0
          · rw [h0] at h; simp at h
          · obtain ⟨b, off, spot⟩ := a
            simp only at h0; subst h0
            exact hsp (MemPlace.cell b (off + 0)) (MemPlace.mem_row.2 ⟨0, h, rfl⟩)
        rw [hs]; simpa using hz
    have t0 := shut_ints (enc := enc) (P := Try.prog) (w := W') (base := 0) (spare := sp) (held := true) (a := a) (len := len) (cap := cap) (zs := zs) 0 Try.underlying38 Try.underlying5 cells5 (Nat.zero_le _) hl hm hsz (fun i hi => hg.cell (hcell i hi)) hwz
    have t3 := trodAll_cons_mk (⟨2, by simpa [Value.cells] using t0⟩ : DataW.Trod enc Try.prog W' 0 sp true 38 (.slice (some a) len cap) _ _) (trodAll_cons_mk (shut_int (enc := enc) (P := Try.prog) (w := W') (base := 0) (spare := sp) (held := true) Try.underlying5 wx) (trodAll_cons_mk (shut_int (enc := enc) (P := Try.prog) (w := W') (base := 0) (spare := sp) (held := true) Try.underlying5 wy) trodAll_mk0))
    simp only [List.append_nil] at t3
    exact t3

theorem over : Rows.viewCopiesRow.holds Try.pinned (OpenSpec.ofChange Rows.viewCopiesSpec) :=
  OpenClaim.holds_of_wide 4 Try.f4 rfl rfl rfl rfl rfl rfl rfl ⟨rfl, rfl, rfl, rfl, rfl⟩ rfl rfl rfl rfl rfl (by kernel_rfl) Try.func4 (by kernel_rfl)
    (of_decide_eq_true (by kernel_rfl)) (by unfold Func.isWrapper; first | (rw [if_pos (by decide +kernel)]; kernel_rfl) | (rw [if_neg (by decide +kernel)]; exact ⟨rfl, rfl⟩))
    (fun os started H enc _ => lifted os started H enc)

/-- ████ THE STATEMENT ████ -/
theorem proved : Rows.ViewCopiesSaid :=
  over
#print axioms proved
end Go.Proofs.Ytpdgbkmpcahjjaa.viewCopies
