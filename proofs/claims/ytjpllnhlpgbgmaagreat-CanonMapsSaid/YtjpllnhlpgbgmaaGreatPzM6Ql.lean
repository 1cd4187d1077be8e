/- CanonMaps: the plain law. -/
import Derived.Test.YtjpllnhlpgbgmaaGreatPzM6Qo
set_option linter.unusedVariables false
set_option linter.unusedSimpArgs false
namespace Go.Proofs.PxM6
open Go Go.Px Go.Proofs
abbrev EP := List (List Nat × Nat)
def toPM (l : EP) : PM := (l.map (·.1), l.map (·.2))
def rowP (l : EP) : List Ent := rowE (l.map (·.1)) (l.map (·.2))
theorem rowP_cons (x : List Nat × Nat) (l : EP) : rowP (x :: l) = (x.1, x.2 :: l.map (·.2)) :: rowP l := rfl
def mergeP : EP → EP → EP
  | [], b => b
  | x :: a, [] => x :: a
  | x :: a, y :: b => if lessN x.1 y.1 then x :: mergeP a (y :: b) else if lessN y.1 x.1 then y :: mergeP (x :: a) b else (x.1, max x.2 y.2) :: mergeP a b
  termination_by a b => a.length + b.length
def pOf (x : Mrg) : List Nat × Nat := (x.1.1, mN x)
theorem mergeE_nil (l : EP) : (mergeE (rowP l) []).map pOf = l := by
  induction l with
  | nil => rw [show rowP [] = [] from rfl, mergeE]; rfl
  | cons x l ih => rw [rowP_cons, mergeE, List.map_cons, ih]; rfl
theorem mapNone (l : EP) : ((rowP l).map fun y => ((y, none) : Mrg)).map pOf = l := by
  induction l with
  | nil => rfl
  | cons x l ih => rw [rowP_cons, List.map_cons, List.map_cons, ih]; rfl
theorem mergeE_P : ∀ (a b : EP), (mergeE (rowP a) (rowP b)).map pOf = mergeP a b
  | [], b => by rw [show rowP [] = [] from rfl, mergeE, mergeP]; exact mapNone b
  | x :: a, [] => by rw [show rowP [] = [] from rfl, mergeE_nil, mergeP]
  | x :: a, y :: b => by
    rw [rowP_cons, rowP_cons, mergeE, mergeP]
    simp only
    by_cases h1 : lessN x.1 y.1 = true
    · rw [if_pos h1, if_pos h1, List.map_cons, ← rowP_cons y b, mergeE_P a (y :: b)]; rfl
    · rw [if_neg h1, if_neg h1]
      by_cases h2 : lessN y.1 x.1 = true
      · rw [if_pos h2, if_pos h2, List.map_cons, ← rowP_cons x a, mergeE_P (x :: a) b]; rfl
      · rw [if_neg h2, if_neg h2, List.map_cons, mergeE_P a b]; rfl
  termination_by a b => a.length + b.length
theorem joinM_P (a b : EP) : joinM (toPM a) (toPM b) = toPM (mergeP a b) := by
  rw [← mergeE_P a b]
  unfold joinM toPM rowP
  simp only [List.map_map]
  rfl
def entL (a : Nat) : List Nat → EP
  | [] => []
  | x :: m => if 0 < x then ([97 + a], x) :: entL (a + 1) m else entL (a + 1) m
theorem less1 (p q : Nat) : lessN [p] [q] = Nat.blt p q := by simp [lessN]
theorem entL_ge : ∀ (a : Nat) (m : List Nat), ∀ y ∈ entL a m, ∃ b, a ≤ b ∧ y.1 = [97 + b] ∧ 0 < y.2
  | a, [], y, h => by simp [entL] at h
  | a, x :: m, y, h => by
    unfold entL at h
    split at h
    · rcases List.mem_cons.1 h with rfl | h
      · exact ⟨a, Nat.le_refl _, rfl, by assumption⟩
      · obtain ⟨b, h1, h2⟩ := entL_ge (a + 1) m y h
        exact ⟨b, by omega, h2⟩
    · obtain ⟨b, h1, h2⟩ := entL_ge (a + 1) m y h
      exact ⟨b, by omega, h2⟩
theorem mergeP_nil (l : EP) : mergeP l [] = l := by cases l <;> rw [mergeP]
theorem blt_t {p q : Nat} (h : p < q) : Nat.blt p q = true := by rw [Nat.blt_eq]; exact h
theorem blt_f {p q : Nat} (h : q ≤ p) : Nat.blt p q = false := by
  cases e : Nat.blt p q with
  | false => rfl
  | true => rw [Nat.blt_eq] at e; omega
theorem mergeP_front {a : Nat} {l : EP} {n : Nat} (h : ∀ y ∈ l, ∃ b, a < b ∧ y.1 = [97 + b] ∧ 0 < y.2) : mergeP l [([97 + a], n)] = ([97 + a], n) :: l := by
  cases l with
  | nil => rw [mergeP]
  | cons x l =>
    obtain ⟨b, h1, h2, _⟩ := h x (by simp)
    rw [mergeP, h2, less1, less1, blt_f (by omega), blt_t (by omega), mergeP_nil]
    simp
theorem merge_one (n : Nat) (hn : 0 < n) : ∀ (m : List Nat) (a k : Nat), k < m.length → mergeP (entL a m) [([97 + (a + k)], n)] = entL a (m.set k (max (m.getD k 0) n))
  | [], a, k, h => by simp at h
  | x :: m, a, 0, h => by
    simp only [List.set_cons_zero, List.getD_cons_zero, Nat.add_zero]
    have hg := entL_ge (a + 1) m
    have hmax : 0 < max x n := by omega
    rw [entL, entL, if_pos hmax]
    by_cases hx : 0 < x
    · rw [if_pos hx, mergeP, less1, blt_f (Nat.le_refl _)]
      simp [mergeP_nil]
    · rw [if_neg hx, mergeP_front (fun y hy => by obtain ⟨b, h1, h2⟩ := hg y hy; exact ⟨b, by omega, h2⟩)]
      have : max x n = n := by omega
      rw [this]
  | x :: m, a, k + 1, h => by
    have ih := merge_one n hn m (a + 1) k (by simpa using h)
    simp only [List.set_cons_succ, List.getD_cons_succ]
    rw [show 97 + (a + (k + 1)) = 97 + (a + 1 + k) by omega, entL, entL]
    by_cases hx : 0 < x
    · rw [if_pos hx, if_pos hx, mergeP, less1, blt_t (by omega), ih]; simp
    · rw [if_neg hx, if_neg hx]; exact ih
theorem entL_app : ∀ (m : List Nat) (a x : Nat), entL a (m ++ [x]) = entL a m ++ (if 0 < x then [([97 + (a + m.length)], x)] else [])
  | [], a, x => by simp [entL]
  | y :: m, a, x => by
    rw [List.cons_append, entL, entL, entL_app m (a + 1) x]
    have : a + 1 + m.length = a + (y :: m).length := by simp; omega
    rw [this]
    split <;> simp
theorem wantI_eq (m : List Nat) : ∀ k, k ≤ m.length → wantI m k = toPM (entL 0 (m.take k))
  | 0, _ => by simp [wantI, entL, toPM]
  | k + 1, h => by
    have ih := wantI_eq m k (by omega)
    have hk : m[k]? = some (m.getD k 0) := by
      have : k < m.length := by omega
      simp [List.getD, this]
    rw [List.take_add_one, hk, Option.toList_some, entL_app, wantI, ih]
    have hl : (m.take k).length = k := by simp; omega
    rw [hl, Nat.zero_add]
    by_cases hp : 0 < m.getD k 0
    · rw [if_pos hp, if_pos hp]; simp [toPM]
    · rw [if_neg hp, if_neg hp]; simp
theorem want8 {m : List Nat} (h : m.length = 8) : wantI m 8 = toPM (entL 0 m) := by
  rw [wantI_eq m 8 (by omega), List.take_of_length_le (by omega)]
theorem set_same (m : List Nat) (k : Nat) : m.set k (max (m.getD k 0) 0) = m := by
  apply List.ext_getElem?
  intro i
  by_cases hi : i = k
  · subst hi
    by_cases hl : i < m.length
    · rw [List.getElem?_set_self hl]; simp [List.getD, hl]
    · simp [List.getElem?_eq_none (Nat.le_of_not_lt hl)]; omega
  · rw [List.getElem?_set_ne (Ne.symm hi)]
theorem step_law (m : List Nat) (hm : m.length = 8) (x n : Nat) : joinM (wantI m 8) (oneM (tAt x) n) = wantI (m.set (x % 8) (max (m.getD (x % 8) 0) n)) 8 := by
  have hs : (m.set (x % 8) (max (m.getD (x % 8) 0) n)).length = 8 := by simp [hm]
  rw [want8 hm, want8 hs]
  by_cases hn : n = 0
  · subst hn
    rw [set_same, show oneM (tAt x) 0 = toPM [] from rfl, joinM_P, mergeP_nil]
  · rw [show oneM (tAt x) n = toPM [([97 + (0 + x % 8)], n)] by simp [oneM, hn, toPM, tAt], joinM_P, merge_one n (by omega) m 0 (x % 8) (by omega)]
theorem fold_law (ks ns : List Nat) : ∀ j, j ≤ ks.length → foldM ((List.zipWith oneM (ks.map tAt) (numsI ns ks.length)).take j) = wantI (mostI ks ns j) 8
  | 0, _ => by rfl
  | j + 1, h => by
    have ih := fold_law ks ns j (by omega)
    obtain ⟨x, hx⟩ := get_some (l := ks) (i := j) (by omega)
    have hz : (List.zipWith oneM (ks.map tAt) (numsI ns ks.length))[j]? = some (oneM (tAt x) (nAt ns j)) := by
      have h2 : (numsI ns ks.length)[j]? = some (nAt ns j) := by
        have hjl : j < ks.length := by omega
        simp [numsI, hjl]
      simp [List.getElem?_zipWith, hx, h2]
    rw [List.take_add_one, hz, Option.toList_some, foldM_app, ih, step_law _ (mostI_len ks ns j)]
    rw [show mostI ks ns (j + 1) = (mostI ks ns j).set (x % 8) (max ((mostI ks ns j).getD (x % 8) 0) (nAt ns j)) by simp only [mostI, hx]]
theorem rises_ent : ∀ (m : List Nat) (a : Nat), Rises ((entL a m).map (·.1))
  | [], a => fun p h => by simp [entL, pairsT] at h
  | x :: m, a => by
    have ih := rises_ent m (a + 1)
    have hg := entL_ge (a + 1) m
    unfold entL
    split
    · rw [List.map_cons]
      cases he : entL (a + 1) m with
      | nil => exact fun p h => by simp [pairsT] at h
      | cons y l =>
        rw [he] at ih
        rw [List.map_cons] at *
        intro p hp
        rw [pairsT] at hp
        rcases List.mem_cons.1 hp with rfl | hp
        · obtain ⟨b, h1, h2, _⟩ := hg y (by rw [he]; simp)
          simp only [h2]
          rw [less1]; exact blt_t (by omega)
        · exact ih p hp
    · exact ih
theorem ok_ent (m : List Nat) (hm : m.length ≤ 40) (a : Nat) : OkM (toPM (entL a m)).1 (toPM (entL a m)).2 where
  len := by simp [toPM]
  le := by
    have : ∀ (m : List Nat) (a : Nat), (entL a m).length ≤ m.length := fun m => by
      induction m with
      | nil => intro a; simp [entL]
      | cons x m ih => intro a; unfold entL; have := ih (a + 1); split <;> simp <;> omega
    have := this m a
    simp [toPM]; omega
  rises := rises_ent m a
  short := fun t h => by
    obtain ⟨y, hy, rfl⟩ := List.mem_map.1 h
    obtain ⟨b, _, h2, _⟩ := entL_ge a m y hy
    rw [h2]; simp
  pos := fun n h => by
    obtain ⟨y, hy, rfl⟩ := List.mem_map.1 h
    obtain ⟨b, _, _, h3⟩ := entL_ge a m y hy
    exact h3
theorem ok_one (x n : Nat) : OkM (oneM (tAt x) n).1 (oneM (tAt x) n).2 := by
  unfold oneM
  split
  · exact ⟨rfl, by simp, fun p h => by simp [pairsT] at h, fun t h => by simp at h, fun t h => by simp at h⟩
  · exact ⟨rfl, by simp, fun p h => by simp [pairsT] at h, fun t h => by simp at h; subst h; simp [tAt], fun t h => by simp at h; omega⟩
theorem c3 {k : Nat} (Y : YE) (T : TH) (ks ns : List Nat) (fk fn : Bool) (hks : ∀ x ∈ ks, x < 256) (hns : ∀ x ∈ ns, x < 256) (hl2 : ks.length < 9223372036854775808) : CY (k + 5001) Y (.func 3) [.sl ks.length (byC ks) fk, .sl ns.length (byC ns) fn] T = some (.bool true, T, ⟨[], [], false⟩) := by
  by_cases hl : ks.length ≤ 30
  · have hzl : (List.zipWith oneM (ks.map tAt) (numsI ns ks.length)).length = ks.length := by simp [numsI]
    refine c3b Y T ks ns fk fn hks hns hl (fun x hx => ?_) (fun p q h => ?_) ?_
    · obtain ⟨i, hi⟩ := List.mem_iff_getElem?.1 hx
      rw [List.getElem?_zipWith] at hi
      cases h1 : (ks.map tAt)[i]? with
      | none => rw [h1] at hi; simp at hi
      | some t =>
        cases h2 : (numsI ns ks.length)[i]? with
        | none => rw [h1, h2] at hi; simp at hi
        | some n =>
          rw [h1, h2] at hi
          simp only [Option.some.injEq] at hi
          rw [List.getElem?_map] at h1
          cases h3 : ks[i]? with
          | none => rw [h3] at h1; simp at h1
          | some y =>
            rw [h3] at h1
            simp only [Option.map_some, Option.some.injEq] at h1
            rw [← hi, ← h1]; exact ok_one y n
    · have hp : p = (List.zipWith oneM (ks.map tAt) (numsI ns ks.length)).take p.length := by rw [h]; simp
      have hpl : p.length ≤ ks.length := by
        have := congrArg List.length h
        rw [hzl] at this
        simp at this; omega
      rw [hp, fold_law ks ns p.length hpl, want8 (mostI_len ks ns _)]
      exact ok_ent _ (by rw [mostI_len]; omega) 0
    · have := fold_law ks ns ks.length (Nat.le_refl _)
      rwa [List.take_of_length_le (by omega)] at this
  · exact c3a Y T ks ns fk fn (by omega) hl2
end Go.Proofs.PxM6
