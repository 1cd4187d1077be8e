/- Views: the plain laws. -/
import Derived.Test.YtpdgbkmpcahjjaaPzV2X
set_option linter.unusedVariables false
set_option linter.unusedSimpArgs false
set_option maxRecDepth 100000
namespace Go.Proofs.PxV2
open Go Go.Px Go.Proofs
theorem sameW_of {M : List Mem} {C : List Cop} {f1 f2 f3 f4 : Bool} : sameW ⟨M, C, f1, f2⟩ ⟨M, C, f3, f4⟩ = true := by simp [sameW]
theorem sameW_self (w : VwT) : sameW w w = true := by simp [sameW]
theorem goodC_iff (C : List Cop) : ∀ (d i : Nat), i + d = C.length → goodN (badC C) i d = ((C.drop i).all okC && risesT ((C.drop (i - 1)).map (·.1)))
 | 0, i, h => by
  rw [List.drop_eq_nil_of_le (by omega)]
  cases i with
  | zero => rw [List.drop_eq_nil_of_le (by omega)]; rfl
  | succ j =>
   have hj : j < C.length := by omega
   rw [show j + 1 - 1 = j from rfl, List.drop_eq_getElem_cons hj, List.drop_eq_nil_of_le (by omega)]; rfl
 | d + 1, i, h => by
  have ih := goodC_iff C d (i + 1) (by omega)
  obtain ⟨x, hx⟩ := get_some (l := C) (i := i) (by omega)
  rw [show goodN (badC C) i (d + 1) = (!badC C i && goodN (badC C) (i + 1) d) from rfl, ih, drop_at hx, List.all_cons, show i + 1 - 1 = i from rfl]
  obtain ⟨s, n, m⟩ := x
  have ek : (decide (s.length < 1)) = decide (s = []) := by cases s <;> simp
  have e1 : (decide ((m : Int) < 1)) = decide (m < 1) := by congr 1; simp; omega
  have e2 : (decide ((m : Int) > 3)) = decide (m > 3) := by congr 1; simp; omega
  cases i with
  | zero =>
   have eb : badC C 0 = !okC (s, n, m) := by
    unfold badC okC
    rw [hx]
    simp only [ek, e1, e2, Bool.or_false, Bool.not_not]
   rw [eb, Bool.not_not, drop_at hx, Bool.and_assoc]
  | succ j =>
   obtain ⟨y, hy⟩ := get_some (l := C) (i := j) (by omega)
   obtain ⟨t, p, q⟩ := y
   have eb : badC C (j + 1) = (!okC (s, n, m) || !lessN t s) := by
    unfold badC okC
    rw [hx]
    simp only [hy, ek, e1, e2, Bool.not_not]
   rw [eb, show j + 1 - 1 = j from rfl, drop_at hy, drop_at hx]
   simp only [risesT, List.map_cons, pairsT, List.all_cons]
   cases okC (s, n, m) <;> cases lessN t s <;> cases (C.drop (j + 1 + 1)).all okC <;> simp
theorem isW_isV (w : VwT) : isW w = isV w := by
 unfold isW isV
 rw [goodC_iff w.C w.C.length 0 (by omega)]
 simp only [List.drop_zero]
 rw [Bool.and_assoc, Bool.and_assoc]; rfl
theorem sortedM_of {w : VwT} (h : isV w = true) : SortedM w.M := by
 simp only [isV, Bool.and_eq_true, decide_eq_true_eq] at h
 obtain ⟨⟨hm, hc⟩, hl⟩ := h
 have gc : ∀ (j : Nat) (x y : Mem), w.M[j]? = some x → w.M[j + 1]? = some y → x.1 < y.1 := fun j x y hx hy => by
  have hj := (List.getElem?_eq_some_iff.1 hy).1
  have hb := goodN_at hm (j + 1) (by omega) (by omega)
  obtain ⟨d, n⟩ := x
  obtain ⟨d2, n2⟩ := y
  simp only [badM, hx, hy, Bool.or_eq_false_iff, decide_eq_false_iff_not] at hb
  have := hb.2
  simp; omega
 have gcc : ∀ (d j : Nat) (x y : Mem), w.M[j]? = some x → w.M[j + 1 + d]? = some y → x.1 < y.1 := by
  intro d
  induction d with
  | zero => intro j x y hx hy; exact gc j x y hx hy
  | succ d ih =>
   intro j x y hx hy
   have hj := (List.getElem?_eq_some_iff.1 hy).1
   obtain ⟨z, hz⟩ := get_some (l := w.M) (i := j + 1) (by omega)
   have h1 := gc j x z hx hz
   have h2 := ih (j + 1) z y hz (by rw [show j + 1 + 1 + d = j + 1 + (d + 1) by omega]; exact hy)
   omega
 unfold SortedM
 rw [List.pairwise_iff_getElem]
 intro i j hi hj hij
 have := gcc (j - i - 1) i w.M[i] w.M[j] (by simp [hi]) (by rw [show i + 1 + (j - i - 1) = j by omega]; simp [hj])
 exact decide_eq_true this
theorem lastM_miss {n : Int} : ∀ {l : List Mem} {a : Nat}, (∀ x ∈ l, x.1 ≠ n) → lastM n l a = a
 | [], a, _ => rfl
 | x :: l, a, h => by
  have hx := h x List.mem_cons_self
  have ih := lastM_miss (l := l) (a := a) fun y hy => h y (List.mem_cons_of_mem _ hy)
  simpa [lastM, hx] using ih
theorem turn_same {n : Int} : ∀ {l : List Mem}, SortedM l → (∀ x ∈ l, x.2 + 1 < 18446744073709551616) → mergeM gT l [(n, 1)] = insM gM (n, lastM n l 0 + 1) l := by
 intro l hs ht
 show insM gT (n, 1) l = _
 induction l with
 | nil => rfl
 | cons x l ih =>
  have hs' := List.pairwise_cons.1 hs
  have htx := ht x List.mem_cons_self
  have ih := ih hs'.2 fun y hy => ht y (List.mem_cons_of_mem _ hy)
  by_cases he : x.1 = n
  ·have hm : lastM n l x.2 = x.2 := lastM_miss fun y hy => by
    have := hs'.1 y hy
    simp [lessI] at this; omega
   have e : lastM n (x :: l) 0 = x.2 := by
    rw [← hm]; simp [lastM, he]
   rw [e]
   simp [insM, he, gT, gM]
   exact htx
  ·have e : lastM n (x :: l) 0 = lastM n l 0 := by simp [lastM, he]
   rw [e]
   by_cases hl : lessI n x.1 = true
   ·have hm : lastM n l 0 = 0 := lastM_miss fun y hy => by
     have := hs'.1 y hy
     simp [lessI] at this hl; omega
    simp [insM, he, hl, hm]
   ·simp [insM, he, hl, ih]
theorem lastC_miss {key : List Nat} : ∀ {l : List Cop} {a : Nat}, (∀ x ∈ l, x.1 ≠ key) → lastC key l a = a
 | [], a, _ => rfl
 | x :: l, a, h => by
  have hx := h x List.mem_cons_self
  have ih := lastC_miss (l := l) (a := a) fun y hy => h y (List.mem_cons_of_mem _ hy)
  simpa [lastC, hx] using ih
theorem less_ne {a b : List Nat} (h : lessN a b = true) : b ≠ a := fun e => by rw [e, less_irrefl] at h; cases h
theorem last_find {key : List Nat} : ∀ {l : List Cop}, SortedC l → lastC key l 0 = (findC l key).2.1 ∧ (hasC l key = true → ∃ x ∈ l, x.1 = key ∧ findC l key = x)
 | [], _ => ⟨rfl, fun h => by cases h⟩
 | x :: l, hs => by
  have hs' := List.pairwise_cons.1 hs
  obtain ⟨ih1, ih2⟩ := last_find (key := key) hs'.2
  by_cases he : x.1 = key
  ·have hm : lastC key l x.2.1 = x.2.1 := lastC_miss fun y hy => by
    have := less_ne (hs'.1 y hy); rw [he] at this; exact this
   have e : lastC key (x :: l) 0 = x.2.1 := by rw [← hm]; simp [lastC, he]
   have e2 : findC (x :: l) key = x := by simp [findC, he]
   rw [e, e2]
   exact ⟨rfl, fun _ => ⟨x, List.mem_cons_self, he, rfl⟩⟩
  ·have e : lastC key (x :: l) 0 = lastC key l 0 := by simp [lastC, he]
   have e2 : findC (x :: l) key = findC l key := by simp [findC, he]
   have e3 : hasC (x :: l) key = hasC l key := by simp [hasC, he]
   rw [e, e2, e3]
   refine ⟨ih1, fun h => ?_⟩
   obtain ⟨y, hy, h2⟩ := ih2 h
   exact ⟨y, List.mem_cons_of_mem _ hy, h2⟩
theorem set_same2 {key : List Nat} {m : Nat} : ∀ {l : List Cop}, SortedC l → insC gS (key, (findC l key).2.1 + 1, m) l = insC gJ (key, (findC l key).2.1 + 1, m) l
 | [], _ => rfl
 | x :: l, hs => by
  have hs' := List.pairwise_cons.1 hs
  by_cases he : x.1 = key
  ·have e2 : findC (x :: l) key = x := by simp [findC, he]
   rw [e2]
   simp [insC, he, gS, gJ]
  ·have e2 : findC (x :: l) key = findC l key := by simp [findC, he]
   rw [e2]
   have ih := set_same2 (key := key) (m := m) hs'.2
   by_cases hl : lessN key x.1 = true
   ·simp [insC, he, hl]
   ·simp [insC, he, hl, ih]
end Go.Proofs.PxV2
