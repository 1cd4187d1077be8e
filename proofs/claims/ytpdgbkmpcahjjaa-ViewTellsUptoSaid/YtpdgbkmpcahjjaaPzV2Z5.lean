/- Views: find, Of. -/
import Derived.Test.YtpdgbkmpcahjjaaPzV2Z4
set_option linter.unusedVariables false
set_option linter.unusedSimpArgs false
set_option maxRecDepth 100000
namespace Go.Proofs.PxV2
open Go Go.Px Go.Proofs
theorem find_none {C : List Cop} {key : List Nat} {i : Nat} (hC : SortedC C) (h1 : ∀ m x, m < i → C[m]? = some x → lessN x.1 key = true) (h2 : ∀ m x, i ≤ m → C[m]? = some x → lessN x.1 key = false) (h3 : ∀ x, C[i]? = some x → x.1 ≠ key) : C.find? (fun c => c.1 == key) = none := by
 rw [List.find?_eq_none]
 intro c hc he
 have he' : c.1 = key := by simpa using he
 obtain ⟨m, hm⟩ := List.getElem?_of_mem hc
 rcases Nat.lt_trichotomy m i with h | h | h
 ·have := h1 m c h hm
  rw [he', less_irrefl] at this; cases this
 ·subst h; exact h3 c hm he'
 ·obtain ⟨x, hx⟩ : ∃ x, C[i]? = some x := ⟨C[i]'(Nat.lt_trans h (List.getElem?_eq_some_iff.1 hm).1), by simp [Nat.lt_trans h (List.getElem?_eq_some_iff.1 hm).1]⟩
  have hl := sorted_at hC h hx hm
  rw [he'] at hl
  have := h2 i x (Nat.le_refl _) hx
  rw [hl] at this; cases this
theorem find_some {C : List Cop} {key : List Nat} {i : Nat} {c : Cop} (hC : SortedC C) (hi : C[i]? = some c) (hk : c.1 = key) : C.find? (fun c => c.1 == key) = some c := by
 have hlt := (List.getElem?_eq_some_iff.1 hi).1
 have e : C = C.take i ++ c :: C.drop (i + 1) := by
  rw [← drop_at hi, List.take_append_drop]
 rw [e, List.find?_append, List.find?_cons]
 have h0 : (C.take i).find? (fun c => c.1 == key) = none := by
  rw [List.find?_eq_none]
  intro x hx he
  have he' : x.1 = key := by simpa using he
  obtain ⟨m, hm⟩ := List.getElem?_of_mem hx
  have hmi : m < i := by
   have := (List.getElem?_eq_some_iff.1 hm).1
   simp at this; omega
  have hm2 : C[m]? = some x := by rw [List.getElem?_take, if_pos hmi] at hm; exact hm
  have := sorted_at hC hmi hm2 hi
  rw [he', hk, less_irrefl] at this; cases this
 rw [h0]
 simp [hk]
def posC (key : List Nat) : List Cop → Nat
 | [] => 0
 | c :: l => if lessN c.1 key = true then posC key l + 1 else 0
def hitC (key : List Nat) (C : List Cop) : Bool := match C[posC key C]? with
 | some c => c.1 == key
 | none => false
theorem posC_of : ∀ {C : List Cop} {key : List Nat} {i : Nat}, i ≤ C.length → (∀ m x, m < i → C[m]? = some x → lessN x.1 key = true) → (∀ m x, i ≤ m → C[m]? = some x → lessN x.1 key = false) → posC key C = i
 | [], key, i, hi, _, _ => by simp at hi; subst hi; rfl
 | c :: l, key, 0, hi, _, h2 => by
  have := h2 0 c (Nat.le_refl _) rfl
  simp [posC, this]
 | c :: l, key, i + 1, hi, h1, h2 => by
  have := h1 0 c (by omega) rfl
  have ih := posC_of (C := l) (key := key) (i := i) (by simp at hi; omega) (fun m x hm hx => h1 (m + 1) x (by omega) (by simpa using hx)) (fun m x hm hx => h2 (m + 1) x (by omega) (by simpa using hx))
  simp [posC, this, ih]
theorem search75 (k : Nat) (w : VwT) (key : List Nat) (tp tq : Int) (hC : SortedC w.C) (hl : w.C.length < 100000) (hk : w.C.length < k) :
  ∃ H', bodyZ E1 (CY (k + 3)) [] (k + 3) (G75 E1) [w.c, tgtV key tp tq, .clo 50 []] (rep []) = some (.tup [iV (posC key w.C : Nat), .bool (hitC key w.C)], rep H') := by
 obtain ⟨L1, H1, i, h1, e1, hr, hi, p1, p2⟩ := loop75 k [] key tp tq w (iV 0) (.bool false) hC hl w.C.length 0 w.C.length (k + 3) [.row 59 [.str key, .int .u64 tp, .int .u64 tq] false] .undef [] (by omega) (by omega) (by omega) (by omega) rfl (fun m x hm => by omega) (fun m x hm hx => by have := (List.getElem?_eq_some_iff.1 hx).1; omega)
 have e0 : ∀ q, bodyZ E1 (CY (k + 3)) [] q (G75 E1) [w.c, tgtV key tp tq, .clo 50 []] (rep []) = (G75 E1).z (CY (k + 3)) [] q (finZ E1 [.tmp (.v 8), .tmp (.v 9)]) (fun _ _ _ _ => none) (finZ E1 [.tmp (.v 8), .tmp (.v 9)]) [] [tgtV key tp tq, w.c, .undef, .undef, .undef, .clo 50 [], .undef, .undef, .undef, .undef] (rep []) := by intro q; kernel_rfl
 have hr1 : (H1 ++ List.replicate 1 AO.dead)[0]? = some (.row 59 [.str key, .int .u64 tp, .int .u64 tq] false) := get_app hr
 have front : ∀ (r : AV × TH), ((zSeq (zDreg 1 fun n0 k' => (zPD (vInt E1 fLss .lss 3 false false (.v 3) (.v 2))) ((zGD (.l 0) true .push (zPD (vMv (.v 5)))) ((zGD (.l 1) true .push (zPD (vMv (.v 1)))) ((zGD (.l 2) true .push (zPD (vMv (.v 3)))) ((zGD (.l 3) true .push (zPD (vIndexAddr 3 (.l 1) (.l 0)))) ((zGD (.l 4) true .push (zLD B23 9 3 true (.l 0))) ((zGD (.l 5) true .push (zLD B23 10 3 true (.v 7))) ((zGD (.l 6) true .push (zStepD E1 (CY (k + 3) []) B23 n0 ⟨.callv (.l 5) [(.l 1), (.l 0)], .push, none, false, 11, (some 0)⟩)) ((zGD (.l 7) true .push (zPD (vInt E1 fEql .eql 3 false true (.l 0) (.k (.int .i64 0))))) ((zPD (vPick (.l 8) (.l 0) (.k (.bool false)))) ((zVD 8 (vMv (.v 3))) ((zVD 9 (vMv (.l 0))) k')))))))))))) zRet) (finZ E1 [.tmp (.v 8), .tmp (.v 9)]) (fun _ _ _ _ => none) (finZ E1 [.tmp (.v 8), .tmp (.v 9)])) L1 (V75 key tp tq w (iV (i : Nat)) (iV (i : Nat)) h1 (iV 0) (.bool false)) (rep H1) = some r → bodyZ E1 (CY (k + 3)) [] (k + 3) (G75 E1) [w.c, tgtV key tp tq, .clo 50 []] (rep []) = some r := fun r hh => by
  refine (e0 _).trans ?_
  unfold G75
  dsimp only
  refine zqR ?_
  refine (zStep_newH rfl (box59 (x := .str key) (y := .int .u64 tp) (z := .int .u64 tq) rfl)).trans ?_
  refine zqV <| zqV <| zqR <| (zP_v (vLenL_sl rfl)).trans <| zqV <| zqR <| zqV <| zqV <| zqA <| zBlock_app.trans <| (e1 _ _ _).trans ?_
  rw [ifZ_eq, if_pos (by rfl)]
  exact hh
 have hp : posC key w.C = i := posC_of hi p1 p2
 by_cases hlt : i < w.C.length
 ·obtain ⟨⟨s, n, m⟩, hs⟩ : ∃ x, w.C[i]? = some x := ⟨w.C[i], by simp [hlt]⟩
  have hcl := copC_len w.C
  have hdp := cop_drop w.C i s n m hs
  have hc := c50 (k := k) [] (rep (H1 ++ List.replicate 1 AO.dead)) s key (n : Int) (m : Int) tp tq
  rw [hp, show hitC key w.C = (cmpN s key == 0) by
   unfold hitC; rw [hp, hs]; simp only
   rw [Bool.eq_iff_iff]; simp [cmpN_eq]]
  refine ⟨H1 ++ List.replicate 1 AO.dead, front _ ?_⟩
  ·refine zqA <| zDreg_eq.trans <| (zPD_v (vInt_eq fLss_ok rfl rfl (lss_nat 0 E1))).trans ?_
   rw [show decide (i < w.C.length) = true by simp [hlt]]
   refine zqH rfl <| (zPD_v vMv_eq).trans <| zqH rfl <| (zPD_v vMv_eq).trans <| zqH rfl <| (zPD_v vMv_eq).trans <| zqH rfl <| (zPD_v (vIndexAddr_sl rfl rfl hlt (by omega))).trans ?_
   rw [hdp]
   refine zqH rfl <| (zLD_idle (wLoad_ref rfl (by simp) rfl) rfl).trans <| zqH rfl <| (zLD_v (wLoad_loc (nm := 0) (off := 0) rfl hr1 (by simp) rfl) rfl spOk_nil).trans <| zqH rfl ?_
   have ev : evalFA E1 [tgtV key tp tq, .agg [.str s, .int .u64 (n : Int), .int .u64 (m : Int)], .ref (.str s :: .int .u64 (n : Int) :: .int .u64 (m : Int) :: (copC w.C).drop (i * 3 + 3)), iV (i : Nat), w.c, .clo 50 [], .bool true] (V75 key tp tq w (iV (i : Nat)) (iV (i : Nat)) h1 (iV 0) (.bool false)) (H1 ++ List.replicate 1 AO.dead) (.callv (.l 5) [(.l 1), (.l 0)]) = some (.call (.func 50) [.agg [.str s, .int .u64 (n : Int), .int .u64 (m : Int)], tgtV key tp tq], Acc.none) := rfl
   refine (zStepD_callI rfl ev rfl hc rfl).trans <| zqH rfl <| (zPD_v (vInt_eq fEql_ok rfl rfl rfl)).trans <| (zPD_v (vPick_eq (q := true) rfl)).trans <| (zVD_v vMv_eq).trans <| (zVD_v vMv_eq).trans <| zRet_app.trans ?_
   rfl
 ·rw [hp, show hitC key w.C = false by
   unfold hitC; rw [hp, List.getElem?_eq_none (by omega)]]
  refine ⟨H1 ++ List.replicate 1 AO.dead, front _ ?_⟩
  refine zqA <| zDreg_eq.trans <| (zPD_v (vInt_eq fLss_ok rfl rfl (lss_nat 0 E1))).trans ?_
  rw [show decide (i < w.C.length) = false by simp; omega]
  refine zqM rfl <| zqM rfl <| zqM rfl <| zqM rfl <| zqM rfl <| zqM rfl <| zqM rfl <| zqM rfl <| (zPD_v (vPick_eq (q := false) rfl)).trans <| (zVD_v vMv_eq).trans <| (zVD_v vMv_eq).trans <| zRet_app.trans ?_
  rfl
theorem c75 {k : Nat} (Y : YE) (T : TH) (w : VwT) (key : List Nat) (tp tq : Int) (hC : SortedC w.C) (hl : w.C.length < 100000) (hk : w.C.length < k) :
  CY (k + 4) Y (.func 75) [w.c, tgtV key tp tq, .clo 50 []] T = some (.tup [iV (posC key w.C : Nat), .bool (hitC key w.C)], T, ⟨[], [], false⟩) := by
 obtain ⟨H', hb⟩ := search75 k w key tp tq hC hl hk
 exact call_flat (k := k + 3) (zf := G75 E1) rfl rfl (fun _ => rfl) hb (fun _ => rfl) rfl
theorem pos_le : ∀ (key : List Nat) (C : List Cop), posC key C ≤ C.length
 | _, [] => Nat.le_refl _
 | key, c :: l => by unfold posC; split <;> simp [pos_le key l]
theorem pos_lt : ∀ {key : List Nat} {C : List Cop} {m : Nat} {x : Cop}, m < posC key C → C[m]? = some x → lessN x.1 key = true
 | key, c :: l, m, x, hm, hx => by
  unfold posC at hm
  split at hm
  ·cases m with
   | zero => simp at hx; subst hx; assumption
   | succ m => exact pos_lt (key := key) (C := l) (m := m) (by omega) (by simpa using hx)
  ·omega
 | key, [], m, x, hm, hx => by simp at hx
theorem pos_at : ∀ {key : List Nat} {C : List Cop} {x : Cop}, C[posC key C]? = some x → lessN x.1 key = false
 | key, [], x, h => by simp at h
 | key, c :: l, x, h => by
  unfold posC at h
  split at h
  ·exact pos_at (by simpa using h)
  ·rename_i hn
   simp at h; subst h; simpa using hn
theorem pos_ge {key : List Nat} {C : List Cop} (hC : SortedC C) {m : Nat} {x : Cop} (hm : posC key C ≤ m) (hx : C[m]? = some x) : lessN x.1 key = false := by
 have hl := (List.getElem?_eq_some_iff.1 hx).1
 obtain ⟨y, hy⟩ : ∃ y, C[posC key C]? = some y := ⟨C[posC key C]'(by omega), by simp [show posC key C < C.length by omega]⟩
 have h0 := pos_at hy
 rcases Nat.lt_or_ge (posC key C) m with h | h
 ·cases h1 : lessN x.1 key with
  | false => rfl
  | true => have := less_trans (sorted_at hC h hy hx) h1; rw [h0] at this; cases this
 ·have : posC key C = m := by omega
  rw [this] at hy; rw [hx] at hy; cases hy; exact h0
theorem find_pos {key : List Nat} {C : List Cop} (hC : SortedC C) : (hitC key C = true → ∃ c, C[posC key C]? = some c ∧ C.find? (fun c => c.1 == key) = some c) ∧ (hitC key C = false → C.find? (fun c => c.1 == key) = none) := by
 unfold hitC
 cases hx : C[posC key C]? with
 | none =>
  refine ⟨fun h => by simp at h, fun _ => find_none hC (fun m x hm h => pos_lt hm h) (fun m x hm h => pos_ge hC hm h) (fun x h => by rw [hx] at h; cases h)⟩
 | some c =>
  refine ⟨fun h => ⟨c, rfl, find_some hC hx (by simpa using h)⟩, fun h => find_none hC (fun m x hm h => pos_lt hm h) (fun m x hm h => pos_ge hC hm h) (fun x h2 => by rw [hx] at h2; cases h2; simpa using h)⟩
end Go.Proofs.PxV2
