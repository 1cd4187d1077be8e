/- Views: find, Of. -/
import Derived.Test.YtpdgbkmpcahjjaaPzR2Z4
set_option linter.unusedVariables false
set_option linter.unusedSimpArgs false
set_option maxRecDepth 100000
namespace Go.Proofs.PxR2
open Go Go.Px Go.Proofs
theorem find_none {C : List Cop} {key : List Nat} {i : Nat} (hC : SortedC C) (h1 : ∀ m x, m < i → C[m]? = some x → lessN x.1 key = true) (h2 : ∀ m x, i ≤ m → C[m]? = some x → lessN x.1 key = false) (h3 : ∀ x, C[i]? = some x → x.1 ≠ key) : C.find? (fun c => c.1 == key) = none := by
  rw [List.find?_eq_none]
  intro c hc he
  have he' : c.1 = key := by simpa using he
  obtain ⟨m, hm⟩ := List.getElem?_of_mem hc
  rcases Nat.lt_trichotomy m i with h | h | h
  · have := h1 m c h hm
    rw [he', less_irrefl] at this; cases this
  · subst h; exact h3 c hm he'
  · obtain ⟨x, hx⟩ : ∃ x, C[i]? = some x := ⟨C[i]'(Nat.lt_trans h (List.getElem?_eq_some_iff.1 hm).1), by simp [Nat.lt_trans h (List.getElem?_eq_some_iff.1 hm).1]⟩
    have hl := sorted_at hC h hx hm
    rw [he'] at hl
    have := h2 i x (Nat.le_refl _) hx
    rw [hl] at this; cases this
theorem find_some {C : List Cop} {key : List Nat} {i : Nat} {c : Cop} (hC : SortedC C) (hi : C[i]? = some c) (hk : c.1 = key) : C.find? (fun c => c.1 == key) = some c := by
  have hlt := (List.getElem?_eq_some_iff.1 hi).1
  have e : C = C.take i ++ c :: C.drop (i + 1) := by
    rw [← drop_at hi, List.take_append_drop]
  rw [e, List.find?_append, List.find?_cons]
  have h0 : (C.take i).find? (fun c => c.1 == key) = none := by
    rw [List.find?_eq_none]
    intro x hx he
    have he' : x.1 = key := by simpa using he
    obtain ⟨m, hm⟩ := List.getElem?_of_mem hx
    have hmi : m < i := by
      have := (List.getElem?_eq_some_iff.1 hm).1
      simp at this; omega
    have hm2 : C[m]? = some x := by rw [List.getElem?_take, if_pos hmi] at hm; exact hm
    have := sorted_at hC hmi hm2 hi
    rw [he', hk, less_irrefl] at this; cases this
  rw [h0]
  simp [hk]
theorem search75 (k : Nat) (w : VwT) (key : List Nat) (hC : SortedC w.C) (hl : w.C.length < 100000) (hk : w.C.length < k) :
    ∃ i b H', bodyZ E1 (CY (k + 3)) [] (k + 3) (G75 E1) [w.c, tgtV key, .clo 50 []] (rep []) = some (.tup [iV (i : Nat), .bool b], rep H') ∧ (b = true → ∃ c, w.C[i]? = some c ∧ w.C.find? (fun c => c.1 == key) = some c) ∧ (b = false → w.C.find? (fun c => c.1 == key) = none) := by
  obtain ⟨L1, H1, i, h1, e1, hr, hi, p1, p2⟩ := loop75 k [] key w (iV 0) (.bool false) hC hl w.C.length 0 w.C.length (k + 3) [.row 59 [.str key, .int .u64 0, .int .u64 0] false] .undef [] (by omega) (by omega) (by omega) (by omega) rfl (fun m x hm => by omega) (fun m x hm hx => by have := (List.getElem?_eq_some_iff.1 hx).1; omega)
  have e0 : ∀ q, bodyZ E1 (CY (k + 3)) [] q (G75 E1) [w.c, tgtV key, .clo 50 []] (rep []) = (G75 E1).z (CY (k + 3)) [] q (finZ E1 [.tmp (.v 8), .tmp (.v 9)]) (fun _ _ _ _ => none) (finZ E1 [.tmp (.v 8), .tmp (.v 9)]) [] [tgtV key, w.c, .undef, .undef, .undef, .clo 50 [], .undef, .undef, .undef, .undef] (rep []) := by intro q; kernel_rfl
  have hr1 : (H1 ++ List.replicate 1 AO.dead)[0]? = some (.row 59 [.str key, .int .u64 0, .int .u64 0] false) := get_app hr
  have front : ∀ (r : AV × TH), ((zSeq (zDreg 1 fun n0 k' => (zPD (vInt E1 fLss .lss 3 false false (.v 3) (.v 2))) ((zGD (.l 0) true .push (zPD (vMv (.v 5)))) ((zGD (.l 1) true .push (zPD (vMv (.v 1)))) ((zGD (.l 2) true .push (zPD (vMv (.v 3)))) ((zGD (.l 3) true .push (zPD (vIndexAddr 3 (.l 1) (.l 0)))) ((zGD (.l 4) true .push (zLD B13 9 3 true (.l 0))) ((zGD (.l 5) true .push (zLD B13 10 3 true (.v 7))) ((zGD (.l 6) true .push (zStepD E1 (CY (k + 3) []) B13 n0 ⟨.callv (.l 5) [(.l 1), (.l 0)], .push, none, false, 11, (some 0)⟩)) ((zGD (.l 7) true .push (zPD (vInt E1 fEql .eql 3 false true (.l 0) (.k (.int .i64 0))))) ((zPD (vPick (.l 8) (.l 0) (.k (.bool false)))) ((zVD 8 (vMv (.v 3))) ((zVD 9 (vMv (.l 0))) k')))))))))))) zRet) (finZ E1 [.tmp (.v 8), .tmp (.v 9)]) (fun _ _ _ _ => none) (finZ E1 [.tmp (.v 8), .tmp (.v 9)])) L1 (V75 key w (iV (i : Nat)) (iV (i : Nat)) h1 (iV 0) (.bool false)) (rep H1) = some r → bodyZ E1 (CY (k + 3)) [] (k + 3) (G75 E1) [w.c, tgtV key, .clo 50 []] (rep []) = some r := fun r hh => by
    refine (e0 _).trans ?_
    unfold G75
    dsimp only
    refine zSeq_reg.trans ?_
    refine (zStep_newH rfl (box59 (x := .str key) (y := .int .u64 0) (z := .int .u64 0) rfl)).trans ?_
    refine (zV_v vMv_eq).trans ?_
    refine (zV_v vMv_eq).trans ?_
    refine zSeq_reg.trans ?_
    refine (zP_v (vLenL_sl rfl)).trans ?_
    refine (zV_v vMv_eq).trans ?_
    refine zSeq_reg.trans ?_
    refine (zV_v vMv_eq).trans ?_
    refine (zV_v vMv_eq).trans ?_
    refine zSeq_app.trans ?_
    refine zBlock_app.trans ?_
    refine (e1 _ _ _).trans ?_
    rw [ifZ_eq, if_pos (by rfl)]
    exact hh
  by_cases hlt : i < w.C.length
  · obtain ⟨⟨s, n, m⟩, hs⟩ : ∃ x, w.C[i]? = some x := ⟨w.C[i], by simp [hlt]⟩
    have hcl := copC_len w.C
    have hdp := cop_drop w.C i s n m hs
    have hc := c50 (k := k) [] (rep (H1 ++ List.replicate 1 AO.dead)) s key (n : Int) (m : Int) 0 0
    refine ⟨i, (cmpN s key == 0), H1 ++ List.replicate 1 AO.dead, front _ ?_, fun hb => ?_, fun hb => ?_⟩
    · refine zSeq_app.trans ?_
      refine zDreg_eq.trans ?_
      refine (zPD_v (vInt_eq fLss_ok rfl rfl (lss_nat 0 E1))).trans ?_
      rw [show decide (i < w.C.length) = true by simp [hlt]]
      refine (zGD_hit rfl).trans ?_
      refine (zPD_v vMv_eq).trans ?_
      refine (zGD_hit rfl).trans ?_
      refine (zPD_v vMv_eq).trans ?_
      refine (zGD_hit rfl).trans ?_
      refine (zPD_v vMv_eq).trans ?_
      refine (zGD_hit rfl).trans ?_
      refine (zPD_v (vIndexAddr_sl rfl rfl hlt (by omega))).trans ?_
      rw [hdp]
      refine (zGD_hit rfl).trans ?_
      refine (zLD_idle (wLoad_ref rfl (by simp) rfl) rfl).trans ?_
      refine (zGD_hit rfl).trans ?_
      refine (zLD_v (wLoad_loc (nm := 0) (off := 0) rfl hr1 (by simp) rfl) rfl spOk_nil).trans ?_
      refine (zGD_hit rfl).trans ?_
      have ev : evalFA E1 [tgtV key, .agg [.str s, .int .u64 (n : Int), .int .u64 (m : Int)], .ref (.str s :: .int .u64 (n : Int) :: .int .u64 (m : Int) :: (copC w.C).drop (i * 3 + 3)), iV (i : Nat), w.c, .clo 50 [], .bool true] (V75 key w (iV (i : Nat)) (iV (i : Nat)) h1 (iV 0) (.bool false)) (H1 ++ List.replicate 1 AO.dead) (.callv (.l 5) [(.l 1), (.l 0)]) = some (.call (.func 50) [.agg [.str s, .int .u64 (n : Int), .int .u64 (m : Int)], tgtV key], Acc.none) := rfl
      refine (zStepD_callI rfl ev rfl hc rfl).trans ?_
      refine (zGD_hit rfl).trans ?_
      refine (zPD_v (vInt_eq fEql_ok rfl rfl rfl)).trans ?_
      refine (zPD_v (vPick_eq (q := true) rfl)).trans ?_
      refine (zVD_v vMv_eq).trans ?_
      refine (zVD_v vMv_eq).trans ?_
      refine zRet_app.trans ?_
      rfl
    · have hk : s = key := (cmpN_eq s key).1 (by simpa using hb)
      exact ⟨_, hs, find_some hC hs hk⟩
    · refine find_none hC p1 p2 (fun x hx => ?_)
      rw [hs] at hx; cases hx
      intro e
      have := (cmpN_eq s key).2 e
      rw [this] at hb; cases hb
  · refine ⟨i, false, H1 ++ List.replicate 1 AO.dead, front _ ?_, fun hb => (by cases hb), fun _ => find_none hC p1 p2 (fun x hx => by have := (List.getElem?_eq_some_iff.1 hx).1; omega)⟩
    refine zSeq_app.trans ?_
    refine zDreg_eq.trans ?_
    refine (zPD_v (vInt_eq fLss_ok rfl rfl (lss_nat 0 E1))).trans ?_
    rw [show decide (i < w.C.length) = false by simp; omega]
    refine (zGD_miss rfl).trans ?_
    refine (zGD_miss rfl).trans ?_
    refine (zGD_miss rfl).trans ?_
    refine (zGD_miss rfl).trans ?_
    refine (zGD_miss rfl).trans ?_
    refine (zGD_miss rfl).trans ?_
    refine (zGD_miss rfl).trans ?_
    refine (zGD_miss rfl).trans ?_
    refine (zPD_v (vPick_eq (q := false) rfl)).trans ?_
    refine (zVD_v vMv_eq).trans ?_
    refine (zVD_v vMv_eq).trans ?_
    refine zRet_app.trans ?_
    rfl
theorem c75 {k : Nat} (Y : YE) (T : TH) (w : VwT) (key : List Nat) (hC : SortedC w.C) (hl : w.C.length < 100000) (hk : w.C.length < k) :
    ∃ i b, CY (k + 4) Y (.func 75) [w.c, tgtV key, .clo 50 []] T = some (.tup [iV (i : Nat), .bool b], T, ⟨[], [], false⟩) ∧ (b = true → ∃ c, w.C[i]? = some c ∧ w.C.find? (fun c => c.1 == key) = some c) ∧ (b = false → w.C.find? (fun c => c.1 == key) = none) := by
  obtain ⟨i, b, H', hb, h⟩ := search75 k w key hC hl hk
  exact ⟨i, b, call_flat (k := k + 3) (zf := G75 E1) rfl rfl (fun _ => rfl) hb (fun _ => rfl) rfl, h⟩
end Go.Proofs.PxR2
