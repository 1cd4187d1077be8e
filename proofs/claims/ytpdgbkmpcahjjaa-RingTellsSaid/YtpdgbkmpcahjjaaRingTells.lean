/-
  RingTells holds: whatever the nodes (a slice, nil too), the key and the three numbers are, the Go text returns true and changes nothing that was there ahead of the call. Conditions: none. (The walk: an abstract machine, proved right of the model; loops by induction; the sort by the library's contract; the plain law: one way to lie in order.)
-/
import Derived.Test.YtpdgbkmpcahjjaaRows
import Derived.Test.YtpdgbkmpcahjjaaPzR2Y
import Derived.Test.YtpdgbkmpcahjjaaPb3
import Derived.WalkKit
import Derived.ProofKit
import Derived.OpenShut
import Derived.ChangeMaps5
import Derived.ChangeSlices
namespace Go.Proofs.Ytpdgbkmpcahjjaa.ringTells
open Go.ChangeShapes Go.WideShapes Go.ChangeAt Go.RowKit
set_option linter.unusedVariables false

theorem own : ownKnob Try.prog.godebug = none := by kernel_rfl
theorem cells3 : Try.prog.cellsOf 3 = 1 := by kernel_rfl

set_option maxRecDepth 100000 in
theorem lifted (os : Os) (started : os.Started) (H : Type) (enc : TypeId × Value → H) :
    ReturnsInHanded {} Try.checked os 5 .any (Rows.ringTellsSpec.pre6 enc Try.prog Try.f5 Rows.ringTellsRow.domain false) (Rows.ringTellsSpec.post enc Try.prog Try.f5 false true false false) := by
  refine returnsInHanded_of_change (C := Try.checked) own started (by kernel_rfl) Try.func5
    (ChangeSpec.witness6 (enc := enc) (C := Try.checked) false ⟨#[], #[.slice none 0 0, .string ⟨#[]⟩, .int .i64 0, .int .i64 0, .int .i64 0], []⟩ 8 (by kernel_rfl) (by kernel_rfl) (by kernel_rfl) (by kernel_rfl)) ?_
  intro W base args ds gs before hval0 hW hcnd _
  have hval : ∀ (j : Nat) t v, Try.f5.params[j]? = some t → args[j]? = some v → Value.okWide Try.prog W .any base t v := hval0
  have hW' := hW
  obtain ⟨p, q, hA0, hV, rfl, hfz, hnd⟩ := hW
  have hA : DataW.TrodAll enc Try.prog W 0 (fun _ => true) true Try.f5.params.toList args.toList ds p := hA0
  rw [Try.params5] at hA hval
  obtain ⟨v0, vs0, d0, ds0, p0, q0, hargs, rfl, rfl, h0, r0⟩ := trodAll_cons hA
  obtain ⟨v1, vs1, d1, ds1, p1, q1, rfl, rfl, rfl, h1, r1⟩ := trodAll_cons r0
  obtain ⟨v2, vs2, d2, ds2, p2, q2, rfl, rfl, rfl, h2, r2⟩ := trodAll_cons r1
  obtain ⟨v3, vs3, d3, ds3, p3, q3, rfl, rfl, rfl, h3, r3⟩ := trodAll_cons r2
  obtain ⟨v4, vs4, d4, ds4, p4, q4, rfl, rfl, rfl, h4, r4⟩ := trodAll_cons r3
  obtain ⟨rfl, rfl, rfl⟩ := trodAll_nil r4
  obtain rfl : args = #[v0, v1, v2, v3, v4] := by cases args; simp_all
  obtain ⟨rfl, rfl⟩ := trodVars_none hV
  obtain ⟨str, rfl, rfl, rfl, ws⟩ := Go.ChangeMaps.open_string Try.underlying9 (hval 1 9 v1 rfl rfl) h1
  obtain ⟨x, rfl, rfl, rfl, wx⟩ := open_int Try.underlying3 (hval 2 3 v2 rfl rfl) h2
  obtain ⟨y, rfl, rfl, rfl, wy⟩ := open_int Try.underlying3 (hval 3 3 v3 rfl rfl) h3
  obtain ⟨z0, rfl, rfl, rfl, wzz⟩ := open_int Try.underlying3 (hval 4 3 v4 rfl rfl) h4
  obtain ⟨a0, len, cap, rfl⟩ := okWide_slice Try.underlying32 (hval 0 32 v0 rfl rfl)
  obtain ⟨fuel, hf⟩ := h0
  clear hA0 hval0
  rcases open_ints Try.underlying32 Try.underlying3 cells3 hf with ⟨hcs, hx⟩ | ⟨a, len', cap', zs, hcs, _, hl, hm, hz, hx, hcell, hwz⟩
  · simp [Value.cells] at hcs
    obtain ⟨rfl, rfl, rfl⟩ := hcs
    simp only [Prod.mk.injEq] at hx
    obtain ⟨rfl, rfl⟩ := hx
    simp only [List.append_nil] at hW'
    refine (Go.Proofs.PxR2.walk_tells _ [] str x y z0 (by simp) wx wy wzz W (.inl ⟨rfl, rfl⟩)).mono fun e W' ⟨he, hg⟩ => ?_
    subst he
    exact ⟨_, rfl, Go.Px.post_of_sameO (pa := []) (pv := []) hW' (fun _ _ _ => (trodAll_cons_mk (shut_bool Try.underlying4 _) trodAll_mk0)) (fun sp _ => (trodAll_cons_mk (shut_slice_nil Try.underlying32) (trodAll_cons_mk (Go.ChangeMaps.shut_string Try.underlying9 ws) (trodAll_cons_mk (shut_int Try.underlying3 wx) (trodAll_cons_mk (shut_int Try.underlying3 wy) (trodAll_cons_mk (shut_int Try.underlying3 wzz) trodAll_mk0)))))) (fun _ _ => rfl) rfl
      (hg.frame _) hg.2.1 (ok_one (by kernel_rfl) rfl (okWide_bool_mk Try.underlying4 _))⟩
  · simp [Value.cells] at hcs
    obtain ⟨rfl, rfl, rfl⟩ := hcs
    simp only [Prod.mk.injEq] at hx
    obtain ⟨rfl, rfl⟩ := hx
    simp only [if_true] at hz
    simp only [List.append_nil] at hW'
    have hlt : (zs.take len).length = len := by rw [List.length_take]; omega
    have hspot : zs = [] ∨ a.spot = none := by
      rcases Nat.eq_zero_or_pos zs.length with h | h
      · exact .inl (List.length_eq_zero_iff.1 h)
      · exact .inr (by simpa [Addr.add] using World.cell?_spot (hcell 0 h))
    have hplain : ∀ i, i < zs.length → W.cell? ⟨a.block, a.off + i, none⟩ = some (.int .i64 (zs.getD i 0)) := fun i hi => by
      rcases hspot with h | h
      · rw [h] at hi; simp at hi
      · have := hcell i hi
        obtain ⟨b, off, spot⟩ := a
        simp only at h; subst h
        rw [← add_plain]; exact this
    refine (Go.Proofs.PxR2.walk_tells (.slice (some a) len cap) (zs.take len) str x y z0 (fun z hz' => hwz z (List.mem_of_mem_take hz')) wx wy wzz W (.inr ⟨a, cap, by rw [hlt], by omega, ?_, fun i hi => ?_⟩)).mono fun e W' ⟨he, hg⟩ => ?_
    · rcases hspot with h | h
      · exact .inl (by rw [h]; simp)
      · exact .inr h
    · have hi2 : i < zs.length := by omega
      rw [hplain i hi2]
      simp [List.getD, hi2]
    subst he
    refine ⟨_, rfl, Go.Px.post_of_sameO (pa := MemPlace.row a zs.length) (pv := []) hW' (fun _ _ _ => (trodAll_cons_mk (shut_bool Try.underlying4 _) trodAll_mk0)) (fun sp hsp => ?_) (fun _ _ => rfl) (by simp)
      (hg.frame _) hg.2.1 (ok_one (by kernel_rfl) rfl (okWide_bool_mk Try.underlying4 _))⟩
    have hsz : zs.length = (if sp a.block then cap else len) := by
      rcases Nat.eq_zero_or_pos zs.length with h | h
      · split <;> omega
      · have hs : sp a.block = true := by
          rcases hspot with h0 | h0
          · rw [h0] at h; simp at h
          · obtain ⟨b, off, spot⟩ := a
            simp only at h0; subst h0
            exact hsp (MemPlace.cell b (off + 0)) (MemPlace.mem_row.2 ⟨0, h, rfl⟩)
        rw [hs]; simpa using hz
    have t0 := shut_ints (enc := enc) (P := Try.prog) (w := W') (base := 0) (spare := sp) (held := true) (a := a) (len := len) (cap := cap) (zs := zs) 0 Try.underlying32 Try.underlying3 cells3 (Nat.zero_le _) hl hm hsz (fun i hi => hg.cell (hcell i hi)) hwz
    have t3 := trodAll_cons_mk (⟨2, by simpa [Value.cells] using t0⟩ : DataW.Trod enc Try.prog W' 0 sp true 32 (.slice (some a) len cap) _ _) (trodAll_cons_mk (Go.ChangeMaps.shut_string (enc := enc) (P := Try.prog) (w := W') (base := 0) (sp := sp) (held := true) Try.underlying9 ws) (trodAll_cons_mk (shut_int (enc := enc) (P := Try.prog) (w := W') (base := 0) (spare := sp) (held := true) Try.underlying3 wx) (trodAll_cons_mk (shut_int (enc := enc) (P := Try.prog) (w := W') (base := 0) (spare := sp) (held := true) Try.underlying3 wy) (trodAll_cons_mk (shut_int (enc := enc) (P := Try.prog) (w := W') (base := 0) (spare := sp) (held := true) Try.underlying3 wzz) trodAll_mk0))))
    simp only [List.append_nil] at t3
    exact t3

theorem over : Rows.ringTellsRow.holds Try.pinned (OpenSpec.ofChange Rows.ringTellsSpec) :=
  OpenClaim.holds_of_wide 5 Try.f5 rfl rfl rfl rfl rfl rfl rfl ⟨rfl, rfl, rfl, rfl, rfl⟩ rfl rfl rfl rfl rfl (by kernel_rfl) Try.func5 (by kernel_rfl)
    (of_decide_eq_true (by kernel_rfl)) (by unfold Func.isWrapper; first | (rw [if_pos (by decide +kernel)]; kernel_rfl) | (rw [if_neg (by decide +kernel)]; exact ⟨rfl, rfl⟩))
    (fun os started H enc _ => lifted os started H enc)

/-- ████ THE STATEMENT ████ -/
theorem proved : Rows.RingTellsSaid :=
  over
#print axioms proved
end Go.Proofs.Ytpdgbkmpcahjjaa.ringTells
