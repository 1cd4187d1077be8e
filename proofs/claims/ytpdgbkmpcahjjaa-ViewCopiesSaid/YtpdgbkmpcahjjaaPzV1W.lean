/- ViewCopies: its walk, out of the rounds. -/
import Derived.Test.YtpdgbkmpcahjjaaPzV1H0
import Derived.Test.YtpdgbkmpcahjjaaPzV1H1
import Derived.Test.YtpdgbkmpcahjjaaPzV1H2
import Derived.Test.YtpdgbkmpcahjjaaPzV1H3
import Derived.Test.YtpdgbkmpcahjjaaPzV1H4
import Derived.Test.YtpdgbkmpcahjjaaPzV1H5
import Derived.Test.YtpdgbkmpcahjjaaPzV1H6
import Derived.Test.YtpdgbkmpcahjjaaPzV1H7
import Derived.KernelRfl
set_option linter.unusedVariables false
set_option linter.unusedSimpArgs false
set_option maxRecDepth 100000
namespace Go.Proofs.PxV1
open Go Go.Px

def f5 (r : Nat) : AV := .res .u8 r 5
theorem un0 {c : List Nat} (h : 0 < c.length) : ∃ r0 t, c = r0 :: t := by
  cases c with
  | nil => cases h
  | cons x t => exact ⟨x, t, rfl⟩
theorem un1 {c : List Nat} (h : 1 < c.length) : ∃ r0 r1 t, c = r0 :: r1 :: t := by
  obtain ⟨r0, t0, rfl⟩ := un0 (Nat.lt_of_le_of_lt (Nat.zero_le _) h)
  obtain ⟨r1, t, rfl⟩ := un0 (c := t0) (by have h1 := h; simp only [List.length_cons] at h1; omega)
  exact ⟨r0, r1, t, rfl⟩
theorem un2 {c : List Nat} (h : 2 < c.length) : ∃ r0 r1 r2 t, c = r0 :: r1 :: r2 :: t := by
  obtain ⟨r0, t0, rfl⟩ := un0 (Nat.lt_of_le_of_lt (Nat.zero_le _) h)
  obtain ⟨r1, r2, t, rfl⟩ := un1 (c := t0) (by have h1 := h; simp only [List.length_cons] at h1; omega)
  exact ⟨r0, r1, r2, t, rfl⟩
theorem un3 {c : List Nat} (h : 3 < c.length) : ∃ r0 r1 r2 r3 t, c = r0 :: r1 :: r2 :: r3 :: t := by
  obtain ⟨r0, t0, rfl⟩ := un0 (Nat.lt_of_le_of_lt (Nat.zero_le _) h)
  obtain ⟨r1, r2, r3, t, rfl⟩ := un2 (c := t0) (by have h1 := h; simp only [List.length_cons] at h1; omega)
  exact ⟨r0, r1, r2, r3, t, rfl⟩
theorem un4 {c : List Nat} (h : 4 < c.length) : ∃ r0 r1 r2 r3 r4 t, c = r0 :: r1 :: r2 :: r3 :: r4 :: t := by
  obtain ⟨r0, t0, rfl⟩ := un0 (Nat.lt_of_le_of_lt (Nat.zero_le _) h)
  obtain ⟨r1, r2, r3, r4, t, rfl⟩ := un3 (c := t0) (by have h1 := h; simp only [List.length_cons] at h1; omega)
  exact ⟨r0, r1, r2, r3, r4, t, rfl⟩
theorem un5 {c : List Nat} (h : 5 < c.length) : ∃ r0 r1 r2 r3 r4 r5 t, c = r0 :: r1 :: r2 :: r3 :: r4 :: r5 :: t := by
  obtain ⟨r0, t0, rfl⟩ := un0 (Nat.lt_of_le_of_lt (Nat.zero_le _) h)
  obtain ⟨r1, r2, r3, r4, r5, t, rfl⟩ := un4 (c := t0) (by have h1 := h; simp only [List.length_cons] at h1; omega)
  exact ⟨r0, r1, r2, r3, r4, r5, t, rfl⟩
theorem un6 {c : List Nat} (h : 6 < c.length) : ∃ r0 r1 r2 r3 r4 r5 r6 t, c = r0 :: r1 :: r2 :: r3 :: r4 :: r5 :: r6 :: t := by
  obtain ⟨r0, t0, rfl⟩ := un0 (Nat.lt_of_le_of_lt (Nat.zero_le _) h)
  obtain ⟨r1, r2, r3, r4, r5, r6, t, rfl⟩ := un5 (c := t0) (by have h1 := h; simp only [List.length_cons] at h1; omega)
  exact ⟨r0, r1, r2, r3, r4, r5, r6, t, rfl⟩
theorem un7 {c : List Nat} (h : 7 < c.length) : ∃ r0 r1 r2 r3 r4 r5 r6 r7 t, c = r0 :: r1 :: r2 :: r3 :: r4 :: r5 :: r6 :: r7 :: t := by
  obtain ⟨r0, t0, rfl⟩ := un0 (Nat.lt_of_le_of_lt (Nat.zero_le _) h)
  obtain ⟨r1, r2, r3, r4, r5, r6, r7, t, rfl⟩ := un6 (c := t0) (by have h1 := h; simp only [List.length_cons] at h1; omega)
  exact ⟨r0, r1, r2, r3, r4, r5, r6, r7, t, rfl⟩
theorem un8 {c : List Nat} (h : 8 < c.length) : ∃ r0 r1 r2 r3 r4 r5 r6 r7 r8 t, c = r0 :: r1 :: r2 :: r3 :: r4 :: r5 :: r6 :: r7 :: r8 :: t := by
  obtain ⟨r0, t0, rfl⟩ := un0 (Nat.lt_of_le_of_lt (Nat.zero_le _) h)
  obtain ⟨r1, r2, r3, r4, r5, r6, r7, r8, t, rfl⟩ := un7 (c := t0) (by have h1 := h; simp only [List.length_cons] at h1; omega)
  exact ⟨r0, r1, r2, r3, r4, r5, r6, r7, r8, t, rfl⟩
theorem un9 {c : List Nat} (h : 9 < c.length) : ∃ r0 r1 r2 r3 r4 r5 r6 r7 r8 r9 t, c = r0 :: r1 :: r2 :: r3 :: r4 :: r5 :: r6 :: r7 :: r8 :: r9 :: t := by
  obtain ⟨r0, t0, rfl⟩ := un0 (Nat.lt_of_le_of_lt (Nat.zero_le _) h)
  obtain ⟨r1, r2, r3, r4, r5, r6, r7, r8, r9, t, rfl⟩ := un8 (c := t0) (by have h1 := h; simp only [List.length_cons] at h1; omega)
  exact ⟨r0, r1, r2, r3, r4, r5, r6, r7, r8, r9, t, rfl⟩
theorem un10 {c : List Nat} (h : 10 < c.length) : ∃ r0 r1 r2 r3 r4 r5 r6 r7 r8 r9 r10 t, c = r0 :: r1 :: r2 :: r3 :: r4 :: r5 :: r6 :: r7 :: r8 :: r9 :: r10 :: t := by
  obtain ⟨r0, t0, rfl⟩ := un0 (Nat.lt_of_le_of_lt (Nat.zero_le _) h)
  obtain ⟨r1, r2, r3, r4, r5, r6, r7, r8, r9, r10, t, rfl⟩ := un9 (c := t0) (by have h1 := h; simp only [List.length_cons] at h1; omega)
  exact ⟨r0, r1, r2, r3, r4, r5, r6, r7, r8, r9, r10, t, rfl⟩
theorem un11 {c : List Nat} (h : 11 < c.length) : ∃ r0 r1 r2 r3 r4 r5 r6 r7 r8 r9 r10 r11 t, c = r0 :: r1 :: r2 :: r3 :: r4 :: r5 :: r6 :: r7 :: r8 :: r9 :: r10 :: r11 :: t := by
  obtain ⟨r0, t0, rfl⟩ := un0 (Nat.lt_of_le_of_lt (Nat.zero_le _) h)
  obtain ⟨r1, r2, r3, r4, r5, r6, r7, r8, r9, r10, r11, t, rfl⟩ := un10 (c := t0) (by have h1 := h; simp only [List.length_cons] at h1; omega)
  exact ⟨r0, r1, r2, r3, r4, r5, r6, r7, r8, r9, r10, r11, t, rfl⟩
theorem un12 {c : List Nat} (h : 12 < c.length) : ∃ r0 r1 r2 r3 r4 r5 r6 r7 r8 r9 r10 r11 r12 t, c = r0 :: r1 :: r2 :: r3 :: r4 :: r5 :: r6 :: r7 :: r8 :: r9 :: r10 :: r11 :: r12 :: t := by
  obtain ⟨r0, t0, rfl⟩ := un0 (Nat.lt_of_le_of_lt (Nat.zero_le _) h)
  obtain ⟨r1, r2, r3, r4, r5, r6, r7, r8, r9, r10, r11, r12, t, rfl⟩ := un11 (c := t0) (by have h1 := h; simp only [List.length_cons] at h1; omega)
  exact ⟨r0, r1, r2, r3, r4, r5, r6, r7, r8, r9, r10, r11, r12, t, rfl⟩
theorem un13 {c : List Nat} (h : 13 < c.length) : ∃ r0 r1 r2 r3 r4 r5 r6 r7 r8 r9 r10 r11 r12 r13 t, c = r0 :: r1 :: r2 :: r3 :: r4 :: r5 :: r6 :: r7 :: r8 :: r9 :: r10 :: r11 :: r12 :: r13 :: t := by
  obtain ⟨r0, t0, rfl⟩ := un0 (Nat.lt_of_le_of_lt (Nat.zero_le _) h)
  obtain ⟨r1, r2, r3, r4, r5, r6, r7, r8, r9, r10, r11, r12, r13, t, rfl⟩ := un12 (c := t0) (by have h1 := h; simp only [List.length_cons] at h1; omega)
  exact ⟨r0, r1, r2, r3, r4, r5, r6, r7, r8, r9, r10, r11, r12, r13, t, rfl⟩
theorem un14 {c : List Nat} (h : 14 < c.length) : ∃ r0 r1 r2 r3 r4 r5 r6 r7 r8 r9 r10 r11 r12 r13 r14 t, c = r0 :: r1 :: r2 :: r3 :: r4 :: r5 :: r6 :: r7 :: r8 :: r9 :: r10 :: r11 :: r12 :: r13 :: r14 :: t := by
  obtain ⟨r0, t0, rfl⟩ := un0 (Nat.lt_of_le_of_lt (Nat.zero_le _) h)
  obtain ⟨r1, r2, r3, r4, r5, r6, r7, r8, r9, r10, r11, r12, r13, r14, t, rfl⟩ := un13 (c := t0) (by have h1 := h; simp only [List.length_cons] at h1; omega)
  exact ⟨r0, r1, r2, r3, r4, r5, r6, r7, r8, r9, r10, r11, r12, r13, r14, t, rfl⟩
theorem un15 {c : List Nat} (h : 15 < c.length) : ∃ r0 r1 r2 r3 r4 r5 r6 r7 r8 r9 r10 r11 r12 r13 r14 r15 t, c = r0 :: r1 :: r2 :: r3 :: r4 :: r5 :: r6 :: r7 :: r8 :: r9 :: r10 :: r11 :: r12 :: r13 :: r14 :: r15 :: t := by
  obtain ⟨r0, t0, rfl⟩ := un0 (Nat.lt_of_le_of_lt (Nat.zero_le _) h)
  obtain ⟨r1, r2, r3, r4, r5, r6, r7, r8, r9, r10, r11, r12, r13, r14, r15, t, rfl⟩ := un14 (c := t0) (by have h1 := h; simp only [List.length_cons] at h1; omega)
  exact ⟨r0, r1, r2, r3, r4, r5, r6, r7, r8, r9, r10, r11, r12, r13, r14, r15, t, rfl⟩
theorem un16 {c : List Nat} (h : 16 < c.length) : ∃ r0 r1 r2 r3 r4 r5 r6 r7 r8 r9 r10 r11 r12 r13 r14 r15 r16 t, c = r0 :: r1 :: r2 :: r3 :: r4 :: r5 :: r6 :: r7 :: r8 :: r9 :: r10 :: r11 :: r12 :: r13 :: r14 :: r15 :: r16 :: t := by
  obtain ⟨r0, t0, rfl⟩ := un0 (Nat.lt_of_le_of_lt (Nat.zero_le _) h)
  obtain ⟨r1, r2, r3, r4, r5, r6, r7, r8, r9, r10, r11, r12, r13, r14, r15, r16, t, rfl⟩ := un15 (c := t0) (by have h1 := h; simp only [List.length_cons] at h1; omega)
  exact ⟨r0, r1, r2, r3, r4, r5, r6, r7, r8, r9, r10, r11, r12, r13, r14, r15, r16, t, rfl⟩
theorem un17 {c : List Nat} (h : 17 < c.length) : ∃ r0 r1 r2 r3 r4 r5 r6 r7 r8 r9 r10 r11 r12 r13 r14 r15 r16 r17 t, c = r0 :: r1 :: r2 :: r3 :: r4 :: r5 :: r6 :: r7 :: r8 :: r9 :: r10 :: r11 :: r12 :: r13 :: r14 :: r15 :: r16 :: r17 :: t := by
  obtain ⟨r0, t0, rfl⟩ := un0 (Nat.lt_of_le_of_lt (Nat.zero_le _) h)
  obtain ⟨r1, r2, r3, r4, r5, r6, r7, r8, r9, r10, r11, r12, r13, r14, r15, r16, r17, t, rfl⟩ := un16 (c := t0) (by have h1 := h; simp only [List.length_cons] at h1; omega)
  exact ⟨r0, r1, r2, r3, r4, r5, r6, r7, r8, r9, r10, r11, r12, r13, r14, r15, r16, r17, t, rfl⟩
theorem un18 {c : List Nat} (h : 18 < c.length) : ∃ r0 r1 r2 r3 r4 r5 r6 r7 r8 r9 r10 r11 r12 r13 r14 r15 r16 r17 r18 t, c = r0 :: r1 :: r2 :: r3 :: r4 :: r5 :: r6 :: r7 :: r8 :: r9 :: r10 :: r11 :: r12 :: r13 :: r14 :: r15 :: r16 :: r17 :: r18 :: t := by
  obtain ⟨r0, t0, rfl⟩ := un0 (Nat.lt_of_le_of_lt (Nat.zero_le _) h)
  obtain ⟨r1, r2, r3, r4, r5, r6, r7, r8, r9, r10, r11, r12, r13, r14, r15, r16, r17, r18, t, rfl⟩ := un17 (c := t0) (by have h1 := h; simp only [List.length_cons] at h1; omega)
  exact ⟨r0, r1, r2, r3, r4, r5, r6, r7, r8, r9, r10, r11, r12, r13, r14, r15, r16, r17, r18, t, rfl⟩
theorem un19 {c : List Nat} (h : 19 < c.length) : ∃ r0 r1 r2 r3 r4 r5 r6 r7 r8 r9 r10 r11 r12 r13 r14 r15 r16 r17 r18 r19 t, c = r0 :: r1 :: r2 :: r3 :: r4 :: r5 :: r6 :: r7 :: r8 :: r9 :: r10 :: r11 :: r12 :: r13 :: r14 :: r15 :: r16 :: r17 :: r18 :: r19 :: t := by
  obtain ⟨r0, t0, rfl⟩ := un0 (Nat.lt_of_le_of_lt (Nat.zero_le _) h)
  obtain ⟨r1, r2, r3, r4, r5, r6, r7, r8, r9, r10, r11, r12, r13, r14, r15, r16, r17, r18, r19, t, rfl⟩ := un18 (c := t0) (by have h1 := h; simp only [List.length_cons] at h1; omega)
  exact ⟨r0, r1, r2, r3, r4, r5, r6, r7, r8, r9, r10, r11, r12, r13, r14, r15, r16, r17, r18, r19, t, rfl⟩
theorem lp20_1 (rs : List Nat) (h1 : 20 ≤ rs.length) (h2 : rs.length ≤ 20) (hr : ∀ r ∈ rs, r < 5) (a b : Nat) (ha : a < 3) (hb : b < 3) (L : List AV) : isB (loop2 379 L (V2 20 1 rs.length (rs.map f5) (.res .u8 a 3) (.res .u8 b 3)) (TT R20_1 20)) = true := by
  rw [show loop2 379 = body4 E2 cy2 [] 399 (loop2 378) exit2 fin2 from loop2_succ 378]
  have h : 20 = rs.length := by omega
  · rw [← h]
    rcases a with _ | _ | _ | a
    · rcases b with _ | _ | _ | b
      · exact exit20_1_0_0 _ _ _
      · exact exit20_1_0_1 _ _ _
      · exact exit20_1_0_2 _ _ _
      · omega
    · rcases b with _ | _ | _ | b
      · exact exit20_1_1_0 _ _ _
      · exact exit20_1_1_1 _ _ _
      · exact exit20_1_1_2 _ _ _
      · omega
    · rcases b with _ | _ | _ | b
      · exact exit20_1_2_0 _ _ _
      · exact exit20_1_2_1 _ _ _
      · exact exit20_1_2_2 _ _ _
      · omega
    · omega
theorem lp20_2 (rs : List Nat) (h1 : 20 ≤ rs.length) (h2 : rs.length ≤ 20) (hr : ∀ r ∈ rs, r < 5) (a b : Nat) (ha : a < 3) (hb : b < 3) (L : List AV) : isB (loop2 379 L (V2 20 2 rs.length (rs.map f5) (.res .u8 a 3) (.res .u8 b 3)) (TT R20_2 20)) = true := by
  rw [show loop2 379 = body4 E2 cy2 [] 399 (loop2 378) exit2 fin2 from loop2_succ 378]
  have h : 20 = rs.length := by omega
  · rw [← h]
    rcases a with _ | _ | _ | a
    · rcases b with _ | _ | _ | b
      · exact exit20_2_0_0 _ _ _
      · exact exit20_2_0_1 _ _ _
      · exact exit20_2_0_2 _ _ _
      · omega
    · rcases b with _ | _ | _ | b
      · exact exit20_2_1_0 _ _ _
      · exact exit20_2_1_1 _ _ _
      · exact exit20_2_1_2 _ _ _
      · omega
    · rcases b with _ | _ | _ | b
      · exact exit20_2_2_0 _ _ _
      · exact exit20_2_2_1 _ _ _
      · exact exit20_2_2_2 _ _ _
      · omega
    · omega
theorem lp20_3 (rs : List Nat) (h1 : 20 ≤ rs.length) (h2 : rs.length ≤ 20) (hr : ∀ r ∈ rs, r < 5) (a b : Nat) (ha : a < 3) (hb : b < 3) (L : List AV) : isB (loop2 379 L (V2 20 3 rs.length (rs.map f5) (.res .u8 a 3) (.res .u8 b 3)) (TT R20_3 20)) = true := by
  rw [show loop2 379 = body4 E2 cy2 [] 399 (loop2 378) exit2 fin2 from loop2_succ 378]
  have h : 20 = rs.length := by omega
  · rw [← h]
    rcases a with _ | _ | _ | a
    · rcases b with _ | _ | _ | b
      · exact exit20_3_0_0 _ _ _
      · exact exit20_3_0_1 _ _ _
      · exact exit20_3_0_2 _ _ _
      · omega
    · rcases b with _ | _ | _ | b
      · exact exit20_3_1_0 _ _ _
      · exact exit20_3_1_1 _ _ _
      · exact exit20_3_1_2 _ _ _
      · omega
    · rcases b with _ | _ | _ | b
      · exact exit20_3_2_0 _ _ _
      · exact exit20_3_2_1 _ _ _
      · exact exit20_3_2_2 _ _ _
      · omega
    · omega
theorem lp19_1 (rs : List Nat) (h1 : 19 ≤ rs.length) (h2 : rs.length ≤ 20) (hr : ∀ r ∈ rs, r < 5) (a b : Nat) (ha : a < 3) (hb : b < 3) (L : List AV) : isB (loop2 380 L (V2 19 1 rs.length (rs.map f5) (.res .u8 a 3) (.res .u8 b 3)) (TT R19_1 19)) = true := by
  rw [show loop2 380 = body4 E2 cy2 [] 399 (loop2 379) exit2 fin2 from loop2_succ 379]
  rcases Nat.eq_or_lt_of_le h1 with h | h
  · rw [← h]
    rcases a with _ | _ | _ | a
    · rcases b with _ | _ | _ | b
      · exact exit19_1_0_0 _ _ _
      · exact exit19_1_0_1 _ _ _
      · exact exit19_1_0_2 _ _ _
      · omega
    · rcases b with _ | _ | _ | b
      · exact exit19_1_1_0 _ _ _
      · exact exit19_1_1_1 _ _ _
      · exact exit19_1_1_2 _ _ _
      · omega
    · rcases b with _ | _ | _ | b
      · exact exit19_1_2_0 _ _ _
      · exact exit19_1_2_1 _ _ _
      · exact exit19_1_2_2 _ _ _
      · omega
    · omega
  · obtain ⟨r0, r1, r2, r3, r4, r5, r6, r7, r8, r9, r10, r11, r12, r13, r14, r15, r16, r17, r18, r19, t, rfl⟩ := un19 h
    have hk : r19 < 5 := hr r19 (by simp)
    rcases r19 with _ | _ | _ | _ | _ | r19
    · show isB (body4 E2 cy2 [] 399 (loop2 379) exit2 fin2 L (V2 19 1 (t.length + 20) (f5 r0 :: f5 r1 :: f5 r2 :: f5 r3 :: f5 r4 :: f5 r5 :: f5 r6 :: f5 r7 :: f5 r8 :: f5 r9 :: f5 r10 :: f5 r11 :: f5 r12 :: f5 r13 :: f5 r14 :: f5 r15 :: f5 r16 :: f5 r17 :: f5 r18 :: .res .u8 0 5 :: t.map f5) (.res .u8 a 3) (.res .u8 b 3)) (TT R19_1 19)) = true
      rw [step19_1_0]
      exact lp20_1 (r0 :: r1 :: r2 :: r3 :: r4 :: r5 :: r6 :: r7 :: r8 :: r9 :: r10 :: r11 :: r12 :: r13 :: r14 :: r15 :: r16 :: r17 :: r18 :: 0 :: t) (by simp) h2 hr a b ha hb _
    · show isB (body4 E2 cy2 [] 399 (loop2 379) exit2 fin2 L (V2 19 1 (t.length + 20) (f5 r0 :: f5 r1 :: f5 r2 :: f5 r3 :: f5 r4 :: f5 r5 :: f5 r6 :: f5 r7 :: f5 r8 :: f5 r9 :: f5 r10 :: f5 r11 :: f5 r12 :: f5 r13 :: f5 r14 :: f5 r15 :: f5 r16 :: f5 r17 :: f5 r18 :: .res .u8 1 5 :: t.map f5) (.res .u8 a 3) (.res .u8 b 3)) (TT R19_1 19)) = true
      rw [step19_1_1]
      exact lp20_1 (r0 :: r1 :: r2 :: r3 :: r4 :: r5 :: r6 :: r7 :: r8 :: r9 :: r10 :: r11 :: r12 :: r13 :: r14 :: r15 :: r16 :: r17 :: r18 :: 1 :: t) (by simp) h2 hr a b ha hb _
    · show isB (body4 E2 cy2 [] 399 (loop2 379) exit2 fin2 L (V2 19 1 (t.length + 20) (f5 r0 :: f5 r1 :: f5 r2 :: f5 r3 :: f5 r4 :: f5 r5 :: f5 r6 :: f5 r7 :: f5 r8 :: f5 r9 :: f5 r10 :: f5 r11 :: f5 r12 :: f5 r13 :: f5 r14 :: f5 r15 :: f5 r16 :: f5 r17 :: f5 r18 :: .res .u8 2 5 :: t.map f5) (.res .u8 a 3) (.res .u8 b 3)) (TT R19_1 19)) = true
      rw [step19_1_2]
      exact lp20_2 (r0 :: r1 :: r2 :: r3 :: r4 :: r5 :: r6 :: r7 :: r8 :: r9 :: r10 :: r11 :: r12 :: r13 :: r14 :: r15 :: r16 :: r17 :: r18 :: 2 :: t) (by simp) h2 hr a b ha hb _
    · show isB (body4 E2 cy2 [] 399 (loop2 379) exit2 fin2 L (V2 19 1 (t.length + 20) (f5 r0 :: f5 r1 :: f5 r2 :: f5 r3 :: f5 r4 :: f5 r5 :: f5 r6 :: f5 r7 :: f5 r8 :: f5 r9 :: f5 r10 :: f5 r11 :: f5 r12 :: f5 r13 :: f5 r14 :: f5 r15 :: f5 r16 :: f5 r17 :: f5 r18 :: .res .u8 3 5 :: t.map f5) (.res .u8 a 3) (.res .u8 b 3)) (TT R19_1 19)) = true
      rw [step19_1_3]
      exact lp20_3 (r0 :: r1 :: r2 :: r3 :: r4 :: r5 :: r6 :: r7 :: r8 :: r9 :: r10 :: r11 :: r12 :: r13 :: r14 :: r15 :: r16 :: r17 :: r18 :: 3 :: t) (by simp) h2 hr a b ha hb _
    · show isB (body4 E2 cy2 [] 399 (loop2 379) exit2 fin2 L (V2 19 1 (t.length + 20) (f5 r0 :: f5 r1 :: f5 r2 :: f5 r3 :: f5 r4 :: f5 r5 :: f5 r6 :: f5 r7 :: f5 r8 :: f5 r9 :: f5 r10 :: f5 r11 :: f5 r12 :: f5 r13 :: f5 r14 :: f5 r15 :: f5 r16 :: f5 r17 :: f5 r18 :: .res .u8 4 5 :: t.map f5) (.res .u8 a 3) (.res .u8 b 3)) (TT R19_1 19)) = true
      rw [step19_1_4]
      exact lp20_3 (r0 :: r1 :: r2 :: r3 :: r4 :: r5 :: r6 :: r7 :: r8 :: r9 :: r10 :: r11 :: r12 :: r13 :: r14 :: r15 :: r16 :: r17 :: r18 :: 4 :: t) (by simp) h2 hr a b ha hb _
    · omega
theorem lp19_2 (rs : List Nat) (h1 : 19 ≤ rs.length) (h2 : rs.length ≤ 20) (hr : ∀ r ∈ rs, r < 5) (a b : Nat) (ha : a < 3) (hb : b < 3) (L : List AV) : isB (loop2 380 L (V2 19 2 rs.length (rs.map f5) (.res .u8 a 3) (.res .u8 b 3)) (TT R19_2 19)) = true := by
  rw [show loop2 380 = body4 E2 cy2 [] 399 (loop2 379) exit2 fin2 from loop2_succ 379]
  rcases Nat.eq_or_lt_of_le h1 with h | h
  · rw [← h]
    rcases a with _ | _ | _ | a
    · rcases b with _ | _ | _ | b
      · exact exit19_2_0_0 _ _ _
      · exact exit19_2_0_1 _ _ _
      · exact exit19_2_0_2 _ _ _
      · omega
    · rcases b with _ | _ | _ | b
      · exact exit19_2_1_0 _ _ _
      · exact exit19_2_1_1 _ _ _
      · exact exit19_2_1_2 _ _ _
      · omega
    · rcases b with _ | _ | _ | b
      · exact exit19_2_2_0 _ _ _
      · exact exit19_2_2_1 _ _ _
      · exact exit19_2_2_2 _ _ _
      · omega
    · omega
  · obtain ⟨r0, r1, r2, r3, r4, r5, r6, r7, r8, r9, r10, r11, r12, r13, r14, r15, r16, r17, r18, r19, t, rfl⟩ := un19 h
    have hk : r19 < 5 := hr r19 (by simp)
    rcases r19 with _ | _ | _ | _ | _ | r19
    · show isB (body4 E2 cy2 [] 399 (loop2 379) exit2 fin2 L (V2 19 2 (t.length + 20) (f5 r0 :: f5 r1 :: f5 r2 :: f5 r3 :: f5 r4 :: f5 r5 :: f5 r6 :: f5 r7 :: f5 r8 :: f5 r9 :: f5 r10 :: f5 r11 :: f5 r12 :: f5 r13 :: f5 r14 :: f5 r15 :: f5 r16 :: f5 r17 :: f5 r18 :: .res .u8 0 5 :: t.map f5) (.res .u8 a 3) (.res .u8 b 3)) (TT R19_2 19)) = true
      rw [step19_2_0]
      exact lp20_1 (r0 :: r1 :: r2 :: r3 :: r4 :: r5 :: r6 :: r7 :: r8 :: r9 :: r10 :: r11 :: r12 :: r13 :: r14 :: r15 :: r16 :: r17 :: r18 :: 0 :: t) (by simp) h2 hr a b ha hb _
    · show isB (body4 E2 cy2 [] 399 (loop2 379) exit2 fin2 L (V2 19 2 (t.length + 20) (f5 r0 :: f5 r1 :: f5 r2 :: f5 r3 :: f5 r4 :: f5 r5 :: f5 r6 :: f5 r7 :: f5 r8 :: f5 r9 :: f5 r10 :: f5 r11 :: f5 r12 :: f5 r13 :: f5 r14 :: f5 r15 :: f5 r16 :: f5 r17 :: f5 r18 :: .res .u8 1 5 :: t.map f5) (.res .u8 a 3) (.res .u8 b 3)) (TT R19_2 19)) = true
      rw [step19_2_1]
      exact lp20_1 (r0 :: r1 :: r2 :: r3 :: r4 :: r5 :: r6 :: r7 :: r8 :: r9 :: r10 :: r11 :: r12 :: r13 :: r14 :: r15 :: r16 :: r17 :: r18 :: 1 :: t) (by simp) h2 hr a b ha hb _
    · show isB (body4 E2 cy2 [] 399 (loop2 379) exit2 fin2 L (V2 19 2 (t.length + 20) (f5 r0 :: f5 r1 :: f5 r2 :: f5 r3 :: f5 r4 :: f5 r5 :: f5 r6 :: f5 r7 :: f5 r8 :: f5 r9 :: f5 r10 :: f5 r11 :: f5 r12 :: f5 r13 :: f5 r14 :: f5 r15 :: f5 r16 :: f5 r17 :: f5 r18 :: .res .u8 2 5 :: t.map f5) (.res .u8 a 3) (.res .u8 b 3)) (TT R19_2 19)) = true
      rw [step19_2_2]
      exact lp20_2 (r0 :: r1 :: r2 :: r3 :: r4 :: r5 :: r6 :: r7 :: r8 :: r9 :: r10 :: r11 :: r12 :: r13 :: r14 :: r15 :: r16 :: r17 :: r18 :: 2 :: t) (by simp) h2 hr a b ha hb _
    · show isB (body4 E2 cy2 [] 399 (loop2 379) exit2 fin2 L (V2 19 2 (t.length + 20) (f5 r0 :: f5 r1 :: f5 r2 :: f5 r3 :: f5 r4 :: f5 r5 :: f5 r6 :: f5 r7 :: f5 r8 :: f5 r9 :: f5 r10 :: f5 r11 :: f5 r12 :: f5 r13 :: f5 r14 :: f5 r15 :: f5 r16 :: f5 r17 :: f5 r18 :: .res .u8 3 5 :: t.map f5) (.res .u8 a 3) (.res .u8 b 3)) (TT R19_2 19)) = true
      rw [step19_2_3]
      exact lp20_3 (r0 :: r1 :: r2 :: r3 :: r4 :: r5 :: r6 :: r7 :: r8 :: r9 :: r10 :: r11 :: r12 :: r13 :: r14 :: r15 :: r16 :: r17 :: r18 :: 3 :: t) (by simp) h2 hr a b ha hb _
    · show isB (body4 E2 cy2 [] 399 (loop2 379) exit2 fin2 L (V2 19 2 (t.length + 20) (f5 r0 :: f5 r1 :: f5 r2 :: f5 r3 :: f5 r4 :: f5 r5 :: f5 r6 :: f5 r7 :: f5 r8 :: f5 r9 :: f5 r10 :: f5 r11 :: f5 r12 :: f5 r13 :: f5 r14 :: f5 r15 :: f5 r16 :: f5 r17 :: f5 r18 :: .res .u8 4 5 :: t.map f5) (.res .u8 a 3) (.res .u8 b 3)) (TT R19_2 19)) = true
      rw [step19_2_4]
      exact lp20_3 (r0 :: r1 :: r2 :: r3 :: r4 :: r5 :: r6 :: r7 :: r8 :: r9 :: r10 :: r11 :: r12 :: r13 :: r14 :: r15 :: r16 :: r17 :: r18 :: 4 :: t) (by simp) h2 hr a b ha hb _
    · omega
theorem lp19_3 (rs : List Nat) (h1 : 19 ≤ rs.length) (h2 : rs.length ≤ 20) (hr : ∀ r ∈ rs, r < 5) (a b : Nat) (ha : a < 3) (hb : b < 3) (L : List AV) : isB (loop2 380 L (V2 19 3 rs.length (rs.map f5) (.res .u8 a 3) (.res .u8 b 3)) (TT R19_3 19)) = true := by
  rw [show loop2 380 = body4 E2 cy2 [] 399 (loop2 379) exit2 fin2 from loop2_succ 379]
  rcases Nat.eq_or_lt_of_le h1 with h | h
  · rw [← h]
    rcases a with _ | _ | _ | a
    · rcases b with _ | _ | _ | b
      · exact exit19_3_0_0 _ _ _
      · exact exit19_3_0_1 _ _ _
      · exact exit19_3_0_2 _ _ _
      · omega
    · rcases b with _ | _ | _ | b
      · exact exit19_3_1_0 _ _ _
      · exact exit19_3_1_1 _ _ _
      · exact exit19_3_1_2 _ _ _
      · omega
    · rcases b with _ | _ | _ | b
      · exact exit19_3_2_0 _ _ _
      · exact exit19_3_2_1 _ _ _
      · exact exit19_3_2_2 _ _ _
      · omega
    · omega
  · obtain ⟨r0, r1, r2, r3, r4, r5, r6, r7, r8, r9, r10, r11, r12, r13, r14, r15, r16, r17, r18, r19, t, rfl⟩ := un19 h
    have hk : r19 < 5 := hr r19 (by simp)
    rcases r19 with _ | _ | _ | _ | _ | r19
    · show isB (body4 E2 cy2 [] 399 (loop2 379) exit2 fin2 L (V2 19 3 (t.length + 20) (f5 r0 :: f5 r1 :: f5 r2 :: f5 r3 :: f5 r4 :: f5 r5 :: f5 r6 :: f5 r7 :: f5 r8 :: f5 r9 :: f5 r10 :: f5 r11 :: f5 r12 :: f5 r13 :: f5 r14 :: f5 r15 :: f5 r16 :: f5 r17 :: f5 r18 :: .res .u8 0 5 :: t.map f5) (.res .u8 a 3) (.res .u8 b 3)) (TT R19_3 19)) = true
      rw [step19_3_0]
      exact lp20_1 (r0 :: r1 :: r2 :: r3 :: r4 :: r5 :: r6 :: r7 :: r8 :: r9 :: r10 :: r11 :: r12 :: r13 :: r14 :: r15 :: r16 :: r17 :: r18 :: 0 :: t) (by simp) h2 hr a b ha hb _
    · show isB (body4 E2 cy2 [] 399 (loop2 379) exit2 fin2 L (V2 19 3 (t.length + 20) (f5 r0 :: f5 r1 :: f5 r2 :: f5 r3 :: f5 r4 :: f5 r5 :: f5 r6 :: f5 r7 :: f5 r8 :: f5 r9 :: f5 r10 :: f5 r11 :: f5 r12 :: f5 r13 :: f5 r14 :: f5 r15 :: f5 r16 :: f5 r17 :: f5 r18 :: .res .u8 1 5 :: t.map f5) (.res .u8 a 3) (.res .u8 b 3)) (TT R19_3 19)) = true
      rw [step19_3_1]
      exact lp20_1 (r0 :: r1 :: r2 :: r3 :: r4 :: r5 :: r6 :: r7 :: r8 :: r9 :: r10 :: r11 :: r12 :: r13 :: r14 :: r15 :: r16 :: r17 :: r18 :: 1 :: t) (by simp) h2 hr a b ha hb _
    · show isB (body4 E2 cy2 [] 399 (loop2 379) exit2 fin2 L (V2 19 3 (t.length + 20) (f5 r0 :: f5 r1 :: f5 r2 :: f5 r3 :: f5 r4 :: f5 r5 :: f5 r6 :: f5 r7 :: f5 r8 :: f5 r9 :: f5 r10 :: f5 r11 :: f5 r12 :: f5 r13 :: f5 r14 :: f5 r15 :: f5 r16 :: f5 r17 :: f5 r18 :: .res .u8 2 5 :: t.map f5) (.res .u8 a 3) (.res .u8 b 3)) (TT R19_3 19)) = true
      rw [step19_3_2]
      exact lp20_2 (r0 :: r1 :: r2 :: r3 :: r4 :: r5 :: r6 :: r7 :: r8 :: r9 :: r10 :: r11 :: r12 :: r13 :: r14 :: r15 :: r16 :: r17 :: r18 :: 2 :: t) (by simp) h2 hr a b ha hb _
    · show isB (body4 E2 cy2 [] 399 (loop2 379) exit2 fin2 L (V2 19 3 (t.length + 20) (f5 r0 :: f5 r1 :: f5 r2 :: f5 r3 :: f5 r4 :: f5 r5 :: f5 r6 :: f5 r7 :: f5 r8 :: f5 r9 :: f5 r10 :: f5 r11 :: f5 r12 :: f5 r13 :: f5 r14 :: f5 r15 :: f5 r16 :: f5 r17 :: f5 r18 :: .res .u8 3 5 :: t.map f5) (.res .u8 a 3) (.res .u8 b 3)) (TT R19_3 19)) = true
      rw [step19_3_3]
      exact lp20_3 (r0 :: r1 :: r2 :: r3 :: r4 :: r5 :: r6 :: r7 :: r8 :: r9 :: r10 :: r11 :: r12 :: r13 :: r14 :: r15 :: r16 :: r17 :: r18 :: 3 :: t) (by simp) h2 hr a b ha hb _
    · show isB (body4 E2 cy2 [] 399 (loop2 379) exit2 fin2 L (V2 19 3 (t.length + 20) (f5 r0 :: f5 r1 :: f5 r2 :: f5 r3 :: f5 r4 :: f5 r5 :: f5 r6 :: f5 r7 :: f5 r8 :: f5 r9 :: f5 r10 :: f5 r11 :: f5 r12 :: f5 r13 :: f5 r14 :: f5 r15 :: f5 r16 :: f5 r17 :: f5 r18 :: .res .u8 4 5 :: t.map f5) (.res .u8 a 3) (.res .u8 b 3)) (TT R19_3 19)) = true
      rw [step19_3_4]
      exact lp20_3 (r0 :: r1 :: r2 :: r3 :: r4 :: r5 :: r6 :: r7 :: r8 :: r9 :: r10 :: r11 :: r12 :: r13 :: r14 :: r15 :: r16 :: r17 :: r18 :: 4 :: t) (by simp) h2 hr a b ha hb _
    · omega
theorem lp18_1 (rs : List Nat) (h1 : 18 ≤ rs.length) (h2 : rs.length ≤ 20) (hr : ∀ r ∈ rs, r < 5) (a b : Nat) (ha : a < 3) (hb : b < 3) (L : List AV) : isB (loop2 381 L (V2 18 1 rs.length (rs.map f5) (.res .u8 a 3) (.res .u8 b 3)) (TT R18_1 18)) = true := by
  rw [show loop2 381 = body4 E2 cy2 [] 399 (loop2 380) exit2 fin2 from loop2_succ 380]
  rcases Nat.eq_or_lt_of_le h1 with h | h
  · rw [← h]
    rcases a with _ | _ | _ | a
    · rcases b with _ | _ | _ | b
      · exact exit18_1_0_0 _ _ _
      · exact exit18_1_0_1 _ _ _
      · exact exit18_1_0_2 _ _ _
      · omega
    · rcases b with _ | _ | _ | b
      · exact exit18_1_1_0 _ _ _
      · exact exit18_1_1_1 _ _ _
      · exact exit18_1_1_2 _ _ _
      · omega
    · rcases b with _ | _ | _ | b
      · exact exit18_1_2_0 _ _ _
      · exact exit18_1_2_1 _ _ _
      · exact exit18_1_2_2 _ _ _
      · omega
    · omega
  · obtain ⟨r0, r1, r2, r3, r4, r5, r6, r7, r8, r9, r10, r11, r12, r13, r14, r15, r16, r17, r18, t, rfl⟩ := un18 h
    have hk : r18 < 5 := hr r18 (by simp)
    rcases r18 with _ | _ | _ | _ | _ | r18
    · show isB (body4 E2 cy2 [] 399 (loop2 380) exit2 fin2 L (V2 18 1 (t.length + 19) (f5 r0 :: f5 r1 :: f5 r2 :: f5 r3 :: f5 r4 :: f5 r5 :: f5 r6 :: f5 r7 :: f5 r8 :: f5 r9 :: f5 r10 :: f5 r11 :: f5 r12 :: f5 r13 :: f5 r14 :: f5 r15 :: f5 r16 :: f5 r17 :: .res .u8 0 5 :: t.map f5) (.res .u8 a 3) (.res .u8 b 3)) (TT R18_1 18)) = true
      rw [step18_1_0]
      exact lp19_1 (r0 :: r1 :: r2 :: r3 :: r4 :: r5 :: r6 :: r7 :: r8 :: r9 :: r10 :: r11 :: r12 :: r13 :: r14 :: r15 :: r16 :: r17 :: 0 :: t) (by simp) h2 hr a b ha hb _
    · show isB (body4 E2 cy2 [] 399 (loop2 380) exit2 fin2 L (V2 18 1 (t.length + 19) (f5 r0 :: f5 r1 :: f5 r2 :: f5 r3 :: f5 r4 :: f5 r5 :: f5 r6 :: f5 r7 :: f5 r8 :: f5 r9 :: f5 r10 :: f5 r11 :: f5 r12 :: f5 r13 :: f5 r14 :: f5 r15 :: f5 r16 :: f5 r17 :: .res .u8 1 5 :: t.map f5) (.res .u8 a 3) (.res .u8 b 3)) (TT R18_1 18)) = true
      rw [step18_1_1]
      exact lp19_1 (r0 :: r1 :: r2 :: r3 :: r4 :: r5 :: r6 :: r7 :: r8 :: r9 :: r10 :: r11 :: r12 :: r13 :: r14 :: r15 :: r16 :: r17 :: 1 :: t) (by simp) h2 hr a b ha hb _
    · show isB (body4 E2 cy2 [] 399 (loop2 380) exit2 fin2 L (V2 18 1 (t.length + 19) (f5 r0 :: f5 r1 :: f5 r2 :: f5 r3 :: f5 r4 :: f5 r5 :: f5 r6 :: f5 r7 :: f5 r8 :: f5 r9 :: f5 r10 :: f5 r11 :: f5 r12 :: f5 r13 :: f5 r14 :: f5 r15 :: f5 r16 :: f5 r17 :: .res .u8 2 5 :: t.map f5) (.res .u8 a 3) (.res .u8 b 3)) (TT R18_1 18)) = true
      rw [step18_1_2]
      exact lp19_2 (r0 :: r1 :: r2 :: r3 :: r4 :: r5 :: r6 :: r7 :: r8 :: r9 :: r10 :: r11 :: r12 :: r13 :: r14 :: r15 :: r16 :: r17 :: 2 :: t) (by simp) h2 hr a b ha hb _
    · show isB (body4 E2 cy2 [] 399 (loop2 380) exit2 fin2 L (V2 18 1 (t.length + 19) (f5 r0 :: f5 r1 :: f5 r2 :: f5 r3 :: f5 r4 :: f5 r5 :: f5 r6 :: f5 r7 :: f5 r8 :: f5 r9 :: f5 r10 :: f5 r11 :: f5 r12 :: f5 r13 :: f5 r14 :: f5 r15 :: f5 r16 :: f5 r17 :: .res .u8 3 5 :: t.map f5) (.res .u8 a 3) (.res .u8 b 3)) (TT R18_1 18)) = true
      rw [step18_1_3]
      exact lp19_3 (r0 :: r1 :: r2 :: r3 :: r4 :: r5 :: r6 :: r7 :: r8 :: r9 :: r10 :: r11 :: r12 :: r13 :: r14 :: r15 :: r16 :: r17 :: 3 :: t) (by simp) h2 hr a b ha hb _
    · show isB (body4 E2 cy2 [] 399 (loop2 380) exit2 fin2 L (V2 18 1 (t.length + 19) (f5 r0 :: f5 r1 :: f5 r2 :: f5 r3 :: f5 r4 :: f5 r5 :: f5 r6 :: f5 r7 :: f5 r8 :: f5 r9 :: f5 r10 :: f5 r11 :: f5 r12 :: f5 r13 :: f5 r14 :: f5 r15 :: f5 r16 :: f5 r17 :: .res .u8 4 5 :: t.map f5) (.res .u8 a 3) (.res .u8 b 3)) (TT R18_1 18)) = true
      rw [step18_1_4]
      exact lp19_3 (r0 :: r1 :: r2 :: r3 :: r4 :: r5 :: r6 :: r7 :: r8 :: r9 :: r10 :: r11 :: r12 :: r13 :: r14 :: r15 :: r16 :: r17 :: 4 :: t) (by simp) h2 hr a b ha hb _
    · omega
theorem lp18_2 (rs : List Nat) (h1 : 18 ≤ rs.length) (h2 : rs.length ≤ 20) (hr : ∀ r ∈ rs, r < 5) (a b : Nat) (ha : a < 3) (hb : b < 3) (L : List AV) : isB (loop2 381 L (V2 18 2 rs.length (rs.map f5) (.res .u8 a 3) (.res .u8 b 3)) (TT R18_2 18)) = true := by
  rw [show loop2 381 = body4 E2 cy2 [] 399 (loop2 380) exit2 fin2 from loop2_succ 380]
  rcases Nat.eq_or_lt_of_le h1 with h | h
  · rw [← h]
    rcases a with _ | _ | _ | a
    · rcases b with _ | _ | _ | b
      · exact exit18_2_0_0 _ _ _
      · exact exit18_2_0_1 _ _ _
      · exact exit18_2_0_2 _ _ _
      · omega
    · rcases b with _ | _ | _ | b
      · exact exit18_2_1_0 _ _ _
      · exact exit18_2_1_1 _ _ _
      · exact exit18_2_1_2 _ _ _
      · omega
    · rcases b with _ | _ | _ | b
      · exact exit18_2_2_0 _ _ _
      · exact exit18_2_2_1 _ _ _
      · exact exit18_2_2_2 _ _ _
      · omega
    · omega
  · obtain ⟨r0, r1, r2, r3, r4, r5, r6, r7, r8, r9, r10, r11, r12, r13, r14, r15, r16, r17, r18, t, rfl⟩ := un18 h
    have hk : r18 < 5 := hr r18 (by simp)
    rcases r18 with _ | _ | _ | _ | _ | r18
    · show isB (body4 E2 cy2 [] 399 (loop2 380) exit2 fin2 L (V2 18 2 (t.length + 19) (f5 r0 :: f5 r1 :: f5 r2 :: f5 r3 :: f5 r4 :: f5 r5 :: f5 r6 :: f5 r7 :: f5 r8 :: f5 r9 :: f5 r10 :: f5 r11 :: f5 r12 :: f5 r13 :: f5 r14 :: f5 r15 :: f5 r16 :: f5 r17 :: .res .u8 0 5 :: t.map f5) (.res .u8 a 3) (.res .u8 b 3)) (TT R18_2 18)) = true
      rw [step18_2_0]
      exact lp19_1 (r0 :: r1 :: r2 :: r3 :: r4 :: r5 :: r6 :: r7 :: r8 :: r9 :: r10 :: r11 :: r12 :: r13 :: r14 :: r15 :: r16 :: r17 :: 0 :: t) (by simp) h2 hr a b ha hb _
    · show isB (body4 E2 cy2 [] 399 (loop2 380) exit2 fin2 L (V2 18 2 (t.length + 19) (f5 r0 :: f5 r1 :: f5 r2 :: f5 r3 :: f5 r4 :: f5 r5 :: f5 r6 :: f5 r7 :: f5 r8 :: f5 r9 :: f5 r10 :: f5 r11 :: f5 r12 :: f5 r13 :: f5 r14 :: f5 r15 :: f5 r16 :: f5 r17 :: .res .u8 1 5 :: t.map f5) (.res .u8 a 3) (.res .u8 b 3)) (TT R18_2 18)) = true
      rw [step18_2_1]
      exact lp19_1 (r0 :: r1 :: r2 :: r3 :: r4 :: r5 :: r6 :: r7 :: r8 :: r9 :: r10 :: r11 :: r12 :: r13 :: r14 :: r15 :: r16 :: r17 :: 1 :: t) (by simp) h2 hr a b ha hb _
    · show isB (body4 E2 cy2 [] 399 (loop2 380) exit2 fin2 L (V2 18 2 (t.length + 19) (f5 r0 :: f5 r1 :: f5 r2 :: f5 r3 :: f5 r4 :: f5 r5 :: f5 r6 :: f5 r7 :: f5 r8 :: f5 r9 :: f5 r10 :: f5 r11 :: f5 r12 :: f5 r13 :: f5 r14 :: f5 r15 :: f5 r16 :: f5 r17 :: .res .u8 2 5 :: t.map f5) (.res .u8 a 3) (.res .u8 b 3)) (TT R18_2 18)) = true
      rw [step18_2_2]
      exact lp19_2 (r0 :: r1 :: r2 :: r3 :: r4 :: r5 :: r6 :: r7 :: r8 :: r9 :: r10 :: r11 :: r12 :: r13 :: r14 :: r15 :: r16 :: r17 :: 2 :: t) (by simp) h2 hr a b ha hb _
    · show isB (body4 E2 cy2 [] 399 (loop2 380) exit2 fin2 L (V2 18 2 (t.length + 19) (f5 r0 :: f5 r1 :: f5 r2 :: f5 r3 :: f5 r4 :: f5 r5 :: f5 r6 :: f5 r7 :: f5 r8 :: f5 r9 :: f5 r10 :: f5 r11 :: f5 r12 :: f5 r13 :: f5 r14 :: f5 r15 :: f5 r16 :: f5 r17 :: .res .u8 3 5 :: t.map f5) (.res .u8 a 3) (.res .u8 b 3)) (TT R18_2 18)) = true
      rw [step18_2_3]
      exact lp19_3 (r0 :: r1 :: r2 :: r3 :: r4 :: r5 :: r6 :: r7 :: r8 :: r9 :: r10 :: r11 :: r12 :: r13 :: r14 :: r15 :: r16 :: r17 :: 3 :: t) (by simp) h2 hr a b ha hb _
    · show isB (body4 E2 cy2 [] 399 (loop2 380) exit2 fin2 L (V2 18 2 (t.length + 19) (f5 r0 :: f5 r1 :: f5 r2 :: f5 r3 :: f5 r4 :: f5 r5 :: f5 r6 :: f5 r7 :: f5 r8 :: f5 r9 :: f5 r10 :: f5 r11 :: f5 r12 :: f5 r13 :: f5 r14 :: f5 r15 :: f5 r16 :: f5 r17 :: .res .u8 4 5 :: t.map f5) (.res .u8 a 3) (.res .u8 b 3)) (TT R18_2 18)) = true
      rw [step18_2_4]
      exact lp19_3 (r0 :: r1 :: r2 :: r3 :: r4 :: r5 :: r6 :: r7 :: r8 :: r9 :: r10 :: r11 :: r12 :: r13 :: r14 :: r15 :: r16 :: r17 :: 4 :: t) (by simp) h2 hr a b ha hb _
    · omega
theorem lp18_3 (rs : List Nat) (h1 : 18 ≤ rs.length) (h2 : rs.length ≤ 20) (hr : ∀ r ∈ rs, r < 5) (a b : Nat) (ha : a < 3) (hb : b < 3) (L : List AV) : isB (loop2 381 L (V2 18 3 rs.length (rs.map f5) (.res .u8 a 3) (.res .u8 b 3)) (TT R18_3 18)) = true := by
  rw [show loop2 381 = body4 E2 cy2 [] 399 (loop2 380) exit2 fin2 from loop2_succ 380]
  rcases Nat.eq_or_lt_of_le h1 with h | h
  · rw [← h]
    rcases a with _ | _ | _ | a
    · rcases b with _ | _ | _ | b
      · exact exit18_3_0_0 _ _ _
      · exact exit18_3_0_1 _ _ _
      · exact exit18_3_0_2 _ _ _
      · omega
    · rcases b with _ | _ | _ | b
      · exact exit18_3_1_0 _ _ _
      · exact exit18_3_1_1 _ _ _
      · exact exit18_3_1_2 _ _ _
      · omega
    · rcases b with _ | _ | _ | b
      · exact exit18_3_2_0 _ _ _
      · exact exit18_3_2_1 _ _ _
      · exact exit18_3_2_2 _ _ _
      · omega
    · omega
  · obtain ⟨r0, r1, r2, r3, r4, r5, r6, r7, r8, r9, r10, r11, r12, r13, r14, r15, r16, r17, r18, t, rfl⟩ := un18 h
    have hk : r18 < 5 := hr r18 (by simp)
    rcases r18 with _ | _ | _ | _ | _ | r18
    · show isB (body4 E2 cy2 [] 399 (loop2 380) exit2 fin2 L (V2 18 3 (t.length + 19) (f5 r0 :: f5 r1 :: f5 r2 :: f5 r3 :: f5 r4 :: f5 r5 :: f5 r6 :: f5 r7 :: f5 r8 :: f5 r9 :: f5 r10 :: f5 r11 :: f5 r12 :: f5 r13 :: f5 r14 :: f5 r15 :: f5 r16 :: f5 r17 :: .res .u8 0 5 :: t.map f5) (.res .u8 a 3) (.res .u8 b 3)) (TT R18_3 18)) = true
      rw [step18_3_0]
      exact lp19_1 (r0 :: r1 :: r2 :: r3 :: r4 :: r5 :: r6 :: r7 :: r8 :: r9 :: r10 :: r11 :: r12 :: r13 :: r14 :: r15 :: r16 :: r17 :: 0 :: t) (by simp) h2 hr a b ha hb _
    · show isB (body4 E2 cy2 [] 399 (loop2 380) exit2 fin2 L (V2 18 3 (t.length + 19) (f5 r0 :: f5 r1 :: f5 r2 :: f5 r3 :: f5 r4 :: f5 r5 :: f5 r6 :: f5 r7 :: f5 r8 :: f5 r9 :: f5 r10 :: f5 r11 :: f5 r12 :: f5 r13 :: f5 r14 :: f5 r15 :: f5 r16 :: f5 r17 :: .res .u8 1 5 :: t.map f5) (.res .u8 a 3) (.res .u8 b 3)) (TT R18_3 18)) = true
      rw [step18_3_1]
      exact lp19_1 (r0 :: r1 :: r2 :: r3 :: r4 :: r5 :: r6 :: r7 :: r8 :: r9 :: r10 :: r11 :: r12 :: r13 :: r14 :: r15 :: r16 :: r17 :: 1 :: t) (by simp) h2 hr a b ha hb _
    · show isB (body4 E2 cy2 [] 399 (loop2 380) exit2 fin2 L (V2 18 3 (t.length + 19) (f5 r0 :: f5 r1 :: f5 r2 :: f5 r3 :: f5 r4 :: f5 r5 :: f5 r6 :: f5 r7 :: f5 r8 :: f5 r9 :: f5 r10 :: f5 r11 :: f5 r12 :: f5 r13 :: f5 r14 :: f5 r15 :: f5 r16 :: f5 r17 :: .res .u8 2 5 :: t.map f5) (.res .u8 a 3) (.res .u8 b 3)) (TT R18_3 18)) = true
      rw [step18_3_2]
      exact lp19_2 (r0 :: r1 :: r2 :: r3 :: r4 :: r5 :: r6 :: r7 :: r8 :: r9 :: r10 :: r11 :: r12 :: r13 :: r14 :: r15 :: r16 :: r17 :: 2 :: t) (by simp) h2 hr a b ha hb _
    · show isB (body4 E2 cy2 [] 399 (loop2 380) exit2 fin2 L (V2 18 3 (t.length + 19) (f5 r0 :: f5 r1 :: f5 r2 :: f5 r3 :: f5 r4 :: f5 r5 :: f5 r6 :: f5 r7 :: f5 r8 :: f5 r9 :: f5 r10 :: f5 r11 :: f5 r12 :: f5 r13 :: f5 r14 :: f5 r15 :: f5 r16 :: f5 r17 :: .res .u8 3 5 :: t.map f5) (.res .u8 a 3) (.res .u8 b 3)) (TT R18_3 18)) = true
      rw [step18_3_3]
      exact lp19_3 (r0 :: r1 :: r2 :: r3 :: r4 :: r5 :: r6 :: r7 :: r8 :: r9 :: r10 :: r11 :: r12 :: r13 :: r14 :: r15 :: r16 :: r17 :: 3 :: t) (by simp) h2 hr a b ha hb _
    · show isB (body4 E2 cy2 [] 399 (loop2 380) exit2 fin2 L (V2 18 3 (t.length + 19) (f5 r0 :: f5 r1 :: f5 r2 :: f5 r3 :: f5 r4 :: f5 r5 :: f5 r6 :: f5 r7 :: f5 r8 :: f5 r9 :: f5 r10 :: f5 r11 :: f5 r12 :: f5 r13 :: f5 r14 :: f5 r15 :: f5 r16 :: f5 r17 :: .res .u8 4 5 :: t.map f5) (.res .u8 a 3) (.res .u8 b 3)) (TT R18_3 18)) = true
      rw [step18_3_4]
      exact lp19_3 (r0 :: r1 :: r2 :: r3 :: r4 :: r5 :: r6 :: r7 :: r8 :: r9 :: r10 :: r11 :: r12 :: r13 :: r14 :: r15 :: r16 :: r17 :: 4 :: t) (by simp) h2 hr a b ha hb _
    · omega
theorem lp17_1 (rs : List Nat) (h1 : 17 ≤ rs.length) (h2 : rs.length ≤ 20) (hr : ∀ r ∈ rs, r < 5) (a b : Nat) (ha : a < 3) (hb : b < 3) (L : List AV) : isB (loop2 382 L (V2 17 1 rs.length (rs.map f5) (.res .u8 a 3) (.res .u8 b 3)) (TT R17_1 17)) = true := by
  rw [show loop2 382 = body4 E2 cy2 [] 399 (loop2 381) exit2 fin2 from loop2_succ 381]
  rcases Nat.eq_or_lt_of_le h1 with h | h
  · rw [← h]
    rcases a with _ | _ | _ | a
    · rcases b with _ | _ | _ | b
      · exact exit17_1_0_0 _ _ _
      · exact exit17_1_0_1 _ _ _
      · exact exit17_1_0_2 _ _ _
      · omega
    · rcases b with _ | _ | _ | b
      · exact exit17_1_1_0 _ _ _
      · exact exit17_1_1_1 _ _ _
      · exact exit17_1_1_2 _ _ _
      · omega
    · rcases b with _ | _ | _ | b
      · exact exit17_1_2_0 _ _ _
      · exact exit17_1_2_1 _ _ _
      · exact exit17_1_2_2 _ _ _
      · omega
    · omega
  · obtain ⟨r0, r1, r2, r3, r4, r5, r6, r7, r8, r9, r10, r11, r12, r13, r14, r15, r16, r17, t, rfl⟩ := un17 h
    have hk : r17 < 5 := hr r17 (by simp)
    rcases r17 with _ | _ | _ | _ | _ | r17
    · show isB (body4 E2 cy2 [] 399 (loop2 381) exit2 fin2 L (V2 17 1 (t.length + 18) (f5 r0 :: f5 r1 :: f5 r2 :: f5 r3 :: f5 r4 :: f5 r5 :: f5 r6 :: f5 r7 :: f5 r8 :: f5 r9 :: f5 r10 :: f5 r11 :: f5 r12 :: f5 r13 :: f5 r14 :: f5 r15 :: f5 r16 :: .res .u8 0 5 :: t.map f5) (.res .u8 a 3) (.res .u8 b 3)) (TT R17_1 17)) = true
      rw [step17_1_0]
      exact lp18_1 (r0 :: r1 :: r2 :: r3 :: r4 :: r5 :: r6 :: r7 :: r8 :: r9 :: r10 :: r11 :: r12 :: r13 :: r14 :: r15 :: r16 :: 0 :: t) (by simp) h2 hr a b ha hb _
    · show isB (body4 E2 cy2 [] 399 (loop2 381) exit2 fin2 L (V2 17 1 (t.length + 18) (f5 r0 :: f5 r1 :: f5 r2 :: f5 r3 :: f5 r4 :: f5 r5 :: f5 r6 :: f5 r7 :: f5 r8 :: f5 r9 :: f5 r10 :: f5 r11 :: f5 r12 :: f5 r13 :: f5 r14 :: f5 r15 :: f5 r16 :: .res .u8 1 5 :: t.map f5) (.res .u8 a 3) (.res .u8 b 3)) (TT R17_1 17)) = true
      rw [step17_1_1]
      exact lp18_1 (r0 :: r1 :: r2 :: r3 :: r4 :: r5 :: r6 :: r7 :: r8 :: r9 :: r10 :: r11 :: r12 :: r13 :: r14 :: r15 :: r16 :: 1 :: t) (by simp) h2 hr a b ha hb _
    · show isB (body4 E2 cy2 [] 399 (loop2 381) exit2 fin2 L (V2 17 1 (t.length + 18) (f5 r0 :: f5 r1 :: f5 r2 :: f5 r3 :: f5 r4 :: f5 r5 :: f5 r6 :: f5 r7 :: f5 r8 :: f5 r9 :: f5 r10 :: f5 r11 :: f5 r12 :: f5 r13 :: f5 r14 :: f5 r15 :: f5 r16 :: .res .u8 2 5 :: t.map f5) (.res .u8 a 3) (.res .u8 b 3)) (TT R17_1 17)) = true
      rw [step17_1_2]
      exact lp18_2 (r0 :: r1 :: r2 :: r3 :: r4 :: r5 :: r6 :: r7 :: r8 :: r9 :: r10 :: r11 :: r12 :: r13 :: r14 :: r15 :: r16 :: 2 :: t) (by simp) h2 hr a b ha hb _
    · show isB (body4 E2 cy2 [] 399 (loop2 381) exit2 fin2 L (V2 17 1 (t.length + 18) (f5 r0 :: f5 r1 :: f5 r2 :: f5 r3 :: f5 r4 :: f5 r5 :: f5 r6 :: f5 r7 :: f5 r8 :: f5 r9 :: f5 r10 :: f5 r11 :: f5 r12 :: f5 r13 :: f5 r14 :: f5 r15 :: f5 r16 :: .res .u8 3 5 :: t.map f5) (.res .u8 a 3) (.res .u8 b 3)) (TT R17_1 17)) = true
      rw [step17_1_3]
      exact lp18_3 (r0 :: r1 :: r2 :: r3 :: r4 :: r5 :: r6 :: r7 :: r8 :: r9 :: r10 :: r11 :: r12 :: r13 :: r14 :: r15 :: r16 :: 3 :: t) (by simp) h2 hr a b ha hb _
    · show isB (body4 E2 cy2 [] 399 (loop2 381) exit2 fin2 L (V2 17 1 (t.length + 18) (f5 r0 :: f5 r1 :: f5 r2 :: f5 r3 :: f5 r4 :: f5 r5 :: f5 r6 :: f5 r7 :: f5 r8 :: f5 r9 :: f5 r10 :: f5 r11 :: f5 r12 :: f5 r13 :: f5 r14 :: f5 r15 :: f5 r16 :: .res .u8 4 5 :: t.map f5) (.res .u8 a 3) (.res .u8 b 3)) (TT R17_1 17)) = true
      rw [step17_1_4]
      exact lp18_3 (r0 :: r1 :: r2 :: r3 :: r4 :: r5 :: r6 :: r7 :: r8 :: r9 :: r10 :: r11 :: r12 :: r13 :: r14 :: r15 :: r16 :: 4 :: t) (by simp) h2 hr a b ha hb _
    · omega
theorem lp17_2 (rs : List Nat) (h1 : 17 ≤ rs.length) (h2 : rs.length ≤ 20) (hr : ∀ r ∈ rs, r < 5) (a b : Nat) (ha : a < 3) (hb : b < 3) (L : List AV) : isB (loop2 382 L (V2 17 2 rs.length (rs.map f5) (.res .u8 a 3) (.res .u8 b 3)) (TT R17_2 17)) = true := by
  rw [show loop2 382 = body4 E2 cy2 [] 399 (loop2 381) exit2 fin2 from loop2_succ 381]
  rcases Nat.eq_or_lt_of_le h1 with h | h
  · rw [← h]
    rcases a with _ | _ | _ | a
    · rcases b with _ | _ | _ | b
      · exact exit17_2_0_0 _ _ _
      · exact exit17_2_0_1 _ _ _
      · exact exit17_2_0_2 _ _ _
      · omega
    · rcases b with _ | _ | _ | b
      · exact exit17_2_1_0 _ _ _
      · exact exit17_2_1_1 _ _ _
      · exact exit17_2_1_2 _ _ _
      · omega
    · rcases b with _ | _ | _ | b
      · exact exit17_2_2_0 _ _ _
      · exact exit17_2_2_1 _ _ _
      · exact exit17_2_2_2 _ _ _
      · omega
    · omega
  · obtain ⟨r0, r1, r2, r3, r4, r5, r6, r7, r8, r9, r10, r11, r12, r13, r14, r15, r16, r17, t, rfl⟩ := un17 h
    have hk : r17 < 5 := hr r17 (by simp)
    rcases r17 with _ | _ | _ | _ | _ | r17
    · show isB (body4 E2 cy2 [] 399 (loop2 381) exit2 fin2 L (V2 17 2 (t.length + 18) (f5 r0 :: f5 r1 :: f5 r2 :: f5 r3 :: f5 r4 :: f5 r5 :: f5 r6 :: f5 r7 :: f5 r8 :: f5 r9 :: f5 r10 :: f5 r11 :: f5 r12 :: f5 r13 :: f5 r14 :: f5 r15 :: f5 r16 :: .res .u8 0 5 :: t.map f5) (.res .u8 a 3) (.res .u8 b 3)) (TT R17_2 17)) = true
      rw [step17_2_0]
      exact lp18_1 (r0 :: r1 :: r2 :: r3 :: r4 :: r5 :: r6 :: r7 :: r8 :: r9 :: r10 :: r11 :: r12 :: r13 :: r14 :: r15 :: r16 :: 0 :: t) (by simp) h2 hr a b ha hb _
    · show isB (body4 E2 cy2 [] 399 (loop2 381) exit2 fin2 L (V2 17 2 (t.length + 18) (f5 r0 :: f5 r1 :: f5 r2 :: f5 r3 :: f5 r4 :: f5 r5 :: f5 r6 :: f5 r7 :: f5 r8 :: f5 r9 :: f5 r10 :: f5 r11 :: f5 r12 :: f5 r13 :: f5 r14 :: f5 r15 :: f5 r16 :: .res .u8 1 5 :: t.map f5) (.res .u8 a 3) (.res .u8 b 3)) (TT R17_2 17)) = true
      rw [step17_2_1]
      exact lp18_1 (r0 :: r1 :: r2 :: r3 :: r4 :: r5 :: r6 :: r7 :: r8 :: r9 :: r10 :: r11 :: r12 :: r13 :: r14 :: r15 :: r16 :: 1 :: t) (by simp) h2 hr a b ha hb _
    · show isB (body4 E2 cy2 [] 399 (loop2 381) exit2 fin2 L (V2 17 2 (t.length + 18) (f5 r0 :: f5 r1 :: f5 r2 :: f5 r3 :: f5 r4 :: f5 r5 :: f5 r6 :: f5 r7 :: f5 r8 :: f5 r9 :: f5 r10 :: f5 r11 :: f5 r12 :: f5 r13 :: f5 r14 :: f5 r15 :: f5 r16 :: .res .u8 2 5 :: t.map f5) (.res .u8 a 3) (.res .u8 b 3)) (TT R17_2 17)) = true
      rw [step17_2_2]
      exact lp18_2 (r0 :: r1 :: r2 :: r3 :: r4 :: r5 :: r6 :: r7 :: r8 :: r9 :: r10 :: r11 :: r12 :: r13 :: r14 :: r15 :: r16 :: 2 :: t) (by simp) h2 hr a b ha hb _
    · show isB (body4 E2 cy2 [] 399 (loop2 381) exit2 fin2 L (V2 17 2 (t.length + 18) (f5 r0 :: f5 r1 :: f5 r2 :: f5 r3 :: f5 r4 :: f5 r5 :: f5 r6 :: f5 r7 :: f5 r8 :: f5 r9 :: f5 r10 :: f5 r11 :: f5 r12 :: f5 r13 :: f5 r14 :: f5 r15 :: f5 r16 :: .res .u8 3 5 :: t.map f5) (.res .u8 a 3) (.res .u8 b 3)) (TT R17_2 17)) = true
      rw [step17_2_3]
      exact lp18_3 (r0 :: r1 :: r2 :: r3 :: r4 :: r5 :: r6 :: r7 :: r8 :: r9 :: r10 :: r11 :: r12 :: r13 :: r14 :: r15 :: r16 :: 3 :: t) (by simp) h2 hr a b ha hb _
    · show isB (body4 E2 cy2 [] 399 (loop2 381) exit2 fin2 L (V2 17 2 (t.length + 18) (f5 r0 :: f5 r1 :: f5 r2 :: f5 r3 :: f5 r4 :: f5 r5 :: f5 r6 :: f5 r7 :: f5 r8 :: f5 r9 :: f5 r10 :: f5 r11 :: f5 r12 :: f5 r13 :: f5 r14 :: f5 r15 :: f5 r16 :: .res .u8 4 5 :: t.map f5) (.res .u8 a 3) (.res .u8 b 3)) (TT R17_2 17)) = true
      rw [step17_2_4]
      exact lp18_3 (r0 :: r1 :: r2 :: r3 :: r4 :: r5 :: r6 :: r7 :: r8 :: r9 :: r10 :: r11 :: r12 :: r13 :: r14 :: r15 :: r16 :: 4 :: t) (by simp) h2 hr a b ha hb _
    · omega
theorem lp17_3 (rs : List Nat) (h1 : 17 ≤ rs.length) (h2 : rs.length ≤ 20) (hr : ∀ r ∈ rs, r < 5) (a b : Nat) (ha : a < 3) (hb : b < 3) (L : List AV) : isB (loop2 382 L (V2 17 3 rs.length (rs.map f5) (.res .u8 a 3) (.res .u8 b 3)) (TT R17_3 17)) = true := by
  rw [show loop2 382 = body4 E2 cy2 [] 399 (loop2 381) exit2 fin2 from loop2_succ 381]
  rcases Nat.eq_or_lt_of_le h1 with h | h
  · rw [← h]
    rcases a with _ | _ | _ | a
    · rcases b with _ | _ | _ | b
      · exact exit17_3_0_0 _ _ _
      · exact exit17_3_0_1 _ _ _
      · exact exit17_3_0_2 _ _ _
      · omega
    · rcases b with _ | _ | _ | b
      · exact exit17_3_1_0 _ _ _
      · exact exit17_3_1_1 _ _ _
      · exact exit17_3_1_2 _ _ _
      · omega
    · rcases b with _ | _ | _ | b
      · exact exit17_3_2_0 _ _ _
      · exact exit17_3_2_1 _ _ _
      · exact exit17_3_2_2 _ _ _
      · omega
    · omega
  · obtain ⟨r0, r1, r2, r3, r4, r5, r6, r7, r8, r9, r10, r11, r12, r13, r14, r15, r16, r17, t, rfl⟩ := un17 h
    have hk : r17 < 5 := hr r17 (by simp)
    rcases r17 with _ | _ | _ | _ | _ | r17
    · show isB (body4 E2 cy2 [] 399 (loop2 381) exit2 fin2 L (V2 17 3 (t.length + 18) (f5 r0 :: f5 r1 :: f5 r2 :: f5 r3 :: f5 r4 :: f5 r5 :: f5 r6 :: f5 r7 :: f5 r8 :: f5 r9 :: f5 r10 :: f5 r11 :: f5 r12 :: f5 r13 :: f5 r14 :: f5 r15 :: f5 r16 :: .res .u8 0 5 :: t.map f5) (.res .u8 a 3) (.res .u8 b 3)) (TT R17_3 17)) = true
      rw [step17_3_0]
      exact lp18_1 (r0 :: r1 :: r2 :: r3 :: r4 :: r5 :: r6 :: r7 :: r8 :: r9 :: r10 :: r11 :: r12 :: r13 :: r14 :: r15 :: r16 :: 0 :: t) (by simp) h2 hr a b ha hb _
    · show isB (body4 E2 cy2 [] 399 (loop2 381) exit2 fin2 L (V2 17 3 (t.length + 18) (f5 r0 :: f5 r1 :: f5 r2 :: f5 r3 :: f5 r4 :: f5 r5 :: f5 r6 :: f5 r7 :: f5 r8 :: f5 r9 :: f5 r10 :: f5 r11 :: f5 r12 :: f5 r13 :: f5 r14 :: f5 r15 :: f5 r16 :: .res .u8 1 5 :: t.map f5) (.res .u8 a 3) (.res .u8 b 3)) (TT R17_3 17)) = true
      rw [step17_3_1]
      exact lp18_1 (r0 :: r1 :: r2 :: r3 :: r4 :: r5 :: r6 :: r7 :: r8 :: r9 :: r10 :: r11 :: r12 :: r13 :: r14 :: r15 :: r16 :: 1 :: t) (by simp) h2 hr a b ha hb _
    · show isB (body4 E2 cy2 [] 399 (loop2 381) exit2 fin2 L (V2 17 3 (t.length + 18) (f5 r0 :: f5 r1 :: f5 r2 :: f5 r3 :: f5 r4 :: f5 r5 :: f5 r6 :: f5 r7 :: f5 r8 :: f5 r9 :: f5 r10 :: f5 r11 :: f5 r12 :: f5 r13 :: f5 r14 :: f5 r15 :: f5 r16 :: .res .u8 2 5 :: t.map f5) (.res .u8 a 3) (.res .u8 b 3)) (TT R17_3 17)) = true
      rw [step17_3_2]
      exact lp18_2 (r0 :: r1 :: r2 :: r3 :: r4 :: r5 :: r6 :: r7 :: r8 :: r9 :: r10 :: r11 :: r12 :: r13 :: r14 :: r15 :: r16 :: 2 :: t) (by simp) h2 hr a b ha hb _
    · show isB (body4 E2 cy2 [] 399 (loop2 381) exit2 fin2 L (V2 17 3 (t.length + 18) (f5 r0 :: f5 r1 :: f5 r2 :: f5 r3 :: f5 r4 :: f5 r5 :: f5 r6 :: f5 r7 :: f5 r8 :: f5 r9 :: f5 r10 :: f5 r11 :: f5 r12 :: f5 r13 :: f5 r14 :: f5 r15 :: f5 r16 :: .res .u8 3 5 :: t.map f5) (.res .u8 a 3) (.res .u8 b 3)) (TT R17_3 17)) = true
      rw [step17_3_3]
      exact lp18_3 (r0 :: r1 :: r2 :: r3 :: r4 :: r5 :: r6 :: r7 :: r8 :: r9 :: r10 :: r11 :: r12 :: r13 :: r14 :: r15 :: r16 :: 3 :: t) (by simp) h2 hr a b ha hb _
    · show isB (body4 E2 cy2 [] 399 (loop2 381) exit2 fin2 L (V2 17 3 (t.length + 18) (f5 r0 :: f5 r1 :: f5 r2 :: f5 r3 :: f5 r4 :: f5 r5 :: f5 r6 :: f5 r7 :: f5 r8 :: f5 r9 :: f5 r10 :: f5 r11 :: f5 r12 :: f5 r13 :: f5 r14 :: f5 r15 :: f5 r16 :: .res .u8 4 5 :: t.map f5) (.res .u8 a 3) (.res .u8 b 3)) (TT R17_3 17)) = true
      rw [step17_3_4]
      exact lp18_3 (r0 :: r1 :: r2 :: r3 :: r4 :: r5 :: r6 :: r7 :: r8 :: r9 :: r10 :: r11 :: r12 :: r13 :: r14 :: r15 :: r16 :: 4 :: t) (by simp) h2 hr a b ha hb _
    · omega
theorem lp16_1 (rs : List Nat) (h1 : 16 ≤ rs.length) (h2 : rs.length ≤ 20) (hr : ∀ r ∈ rs, r < 5) (a b : Nat) (ha : a < 3) (hb : b < 3) (L : List AV) : isB (loop2 383 L (V2 16 1 rs.length (rs.map f5) (.res .u8 a 3) (.res .u8 b 3)) (TT R16_1 16)) = true := by
  rw [show loop2 383 = body4 E2 cy2 [] 399 (loop2 382) exit2 fin2 from loop2_succ 382]
  rcases Nat.eq_or_lt_of_le h1 with h | h
  · rw [← h]
    rcases a with _ | _ | _ | a
    · rcases b with _ | _ | _ | b
      · exact exit16_1_0_0 _ _ _
      · exact exit16_1_0_1 _ _ _
      · exact exit16_1_0_2 _ _ _
      · omega
    · rcases b with _ | _ | _ | b
      · exact exit16_1_1_0 _ _ _
      · exact exit16_1_1_1 _ _ _
      · exact exit16_1_1_2 _ _ _
      · omega
    · rcases b with _ | _ | _ | b
      · exact exit16_1_2_0 _ _ _
      · exact exit16_1_2_1 _ _ _
      · exact exit16_1_2_2 _ _ _
      · omega
    · omega
  · obtain ⟨r0, r1, r2, r3, r4, r5, r6, r7, r8, r9, r10, r11, r12, r13, r14, r15, r16, t, rfl⟩ := un16 h
    have hk : r16 < 5 := hr r16 (by simp)
    rcases r16 with _ | _ | _ | _ | _ | r16
    · show isB (body4 E2 cy2 [] 399 (loop2 382) exit2 fin2 L (V2 16 1 (t.length + 17) (f5 r0 :: f5 r1 :: f5 r2 :: f5 r3 :: f5 r4 :: f5 r5 :: f5 r6 :: f5 r7 :: f5 r8 :: f5 r9 :: f5 r10 :: f5 r11 :: f5 r12 :: f5 r13 :: f5 r14 :: f5 r15 :: .res .u8 0 5 :: t.map f5) (.res .u8 a 3) (.res .u8 b 3)) (TT R16_1 16)) = true
      rw [step16_1_0]
      exact lp17_1 (r0 :: r1 :: r2 :: r3 :: r4 :: r5 :: r6 :: r7 :: r8 :: r9 :: r10 :: r11 :: r12 :: r13 :: r14 :: r15 :: 0 :: t) (by simp) h2 hr a b ha hb _
    · show isB (body4 E2 cy2 [] 399 (loop2 382) exit2 fin2 L (V2 16 1 (t.length + 17) (f5 r0 :: f5 r1 :: f5 r2 :: f5 r3 :: f5 r4 :: f5 r5 :: f5 r6 :: f5 r7 :: f5 r8 :: f5 r9 :: f5 r10 :: f5 r11 :: f5 r12 :: f5 r13 :: f5 r14 :: f5 r15 :: .res .u8 1 5 :: t.map f5) (.res .u8 a 3) (.res .u8 b 3)) (TT R16_1 16)) = true
      rw [step16_1_1]
      exact lp17_1 (r0 :: r1 :: r2 :: r3 :: r4 :: r5 :: r6 :: r7 :: r8 :: r9 :: r10 :: r11 :: r12 :: r13 :: r14 :: r15 :: 1 :: t) (by simp) h2 hr a b ha hb _
    · show isB (body4 E2 cy2 [] 399 (loop2 382) exit2 fin2 L (V2 16 1 (t.length + 17) (f5 r0 :: f5 r1 :: f5 r2 :: f5 r3 :: f5 r4 :: f5 r5 :: f5 r6 :: f5 r7 :: f5 r8 :: f5 r9 :: f5 r10 :: f5 r11 :: f5 r12 :: f5 r13 :: f5 r14 :: f5 r15 :: .res .u8 2 5 :: t.map f5) (.res .u8 a 3) (.res .u8 b 3)) (TT R16_1 16)) = true
      rw [step16_1_2]
      exact lp17_2 (r0 :: r1 :: r2 :: r3 :: r4 :: r5 :: r6 :: r7 :: r8 :: r9 :: r10 :: r11 :: r12 :: r13 :: r14 :: r15 :: 2 :: t) (by simp) h2 hr a b ha hb _
    · show isB (body4 E2 cy2 [] 399 (loop2 382) exit2 fin2 L (V2 16 1 (t.length + 17) (f5 r0 :: f5 r1 :: f5 r2 :: f5 r3 :: f5 r4 :: f5 r5 :: f5 r6 :: f5 r7 :: f5 r8 :: f5 r9 :: f5 r10 :: f5 r11 :: f5 r12 :: f5 r13 :: f5 r14 :: f5 r15 :: .res .u8 3 5 :: t.map f5) (.res .u8 a 3) (.res .u8 b 3)) (TT R16_1 16)) = true
      rw [step16_1_3]
      exact lp17_3 (r0 :: r1 :: r2 :: r3 :: r4 :: r5 :: r6 :: r7 :: r8 :: r9 :: r10 :: r11 :: r12 :: r13 :: r14 :: r15 :: 3 :: t) (by simp) h2 hr a b ha hb _
    · show isB (body4 E2 cy2 [] 399 (loop2 382) exit2 fin2 L (V2 16 1 (t.length + 17) (f5 r0 :: f5 r1 :: f5 r2 :: f5 r3 :: f5 r4 :: f5 r5 :: f5 r6 :: f5 r7 :: f5 r8 :: f5 r9 :: f5 r10 :: f5 r11 :: f5 r12 :: f5 r13 :: f5 r14 :: f5 r15 :: .res .u8 4 5 :: t.map f5) (.res .u8 a 3) (.res .u8 b 3)) (TT R16_1 16)) = true
      rw [step16_1_4]
      exact lp17_3 (r0 :: r1 :: r2 :: r3 :: r4 :: r5 :: r6 :: r7 :: r8 :: r9 :: r10 :: r11 :: r12 :: r13 :: r14 :: r15 :: 4 :: t) (by simp) h2 hr a b ha hb _
    · omega
theorem lp16_2 (rs : List Nat) (h1 : 16 ≤ rs.length) (h2 : rs.length ≤ 20) (hr : ∀ r ∈ rs, r < 5) (a b : Nat) (ha : a < 3) (hb : b < 3) (L : List AV) : isB (loop2 383 L (V2 16 2 rs.length (rs.map f5) (.res .u8 a 3) (.res .u8 b 3)) (TT R16_2 16)) = true := by
  rw [show loop2 383 = body4 E2 cy2 [] 399 (loop2 382) exit2 fin2 from loop2_succ 382]
  rcases Nat.eq_or_lt_of_le h1 with h | h
  · rw [← h]
    rcases a with _ | _ | _ | a
    · rcases b with _ | _ | _ | b
      · exact exit16_2_0_0 _ _ _
      · exact exit16_2_0_1 _ _ _
      · exact exit16_2_0_2 _ _ _
      · omega
    · rcases b with _ | _ | _ | b
      · exact exit16_2_1_0 _ _ _
      · exact exit16_2_1_1 _ _ _
      · exact exit16_2_1_2 _ _ _
      · omega
    · rcases b with _ | _ | _ | b
      · exact exit16_2_2_0 _ _ _
      · exact exit16_2_2_1 _ _ _
      · exact exit16_2_2_2 _ _ _
      · omega
    · omega
  · obtain ⟨r0, r1, r2, r3, r4, r5, r6, r7, r8, r9, r10, r11, r12, r13, r14, r15, r16, t, rfl⟩ := un16 h
    have hk : r16 < 5 := hr r16 (by simp)
    rcases r16 with _ | _ | _ | _ | _ | r16
    · show isB (body4 E2 cy2 [] 399 (loop2 382) exit2 fin2 L (V2 16 2 (t.length + 17) (f5 r0 :: f5 r1 :: f5 r2 :: f5 r3 :: f5 r4 :: f5 r5 :: f5 r6 :: f5 r7 :: f5 r8 :: f5 r9 :: f5 r10 :: f5 r11 :: f5 r12 :: f5 r13 :: f5 r14 :: f5 r15 :: .res .u8 0 5 :: t.map f5) (.res .u8 a 3) (.res .u8 b 3)) (TT R16_2 16)) = true
      rw [step16_2_0]
      exact lp17_1 (r0 :: r1 :: r2 :: r3 :: r4 :: r5 :: r6 :: r7 :: r8 :: r9 :: r10 :: r11 :: r12 :: r13 :: r14 :: r15 :: 0 :: t) (by simp) h2 hr a b ha hb _
    · show isB (body4 E2 cy2 [] 399 (loop2 382) exit2 fin2 L (V2 16 2 (t.length + 17) (f5 r0 :: f5 r1 :: f5 r2 :: f5 r3 :: f5 r4 :: f5 r5 :: f5 r6 :: f5 r7 :: f5 r8 :: f5 r9 :: f5 r10 :: f5 r11 :: f5 r12 :: f5 r13 :: f5 r14 :: f5 r15 :: .res .u8 1 5 :: t.map f5) (.res .u8 a 3) (.res .u8 b 3)) (TT R16_2 16)) = true
      rw [step16_2_1]
      exact lp17_1 (r0 :: r1 :: r2 :: r3 :: r4 :: r5 :: r6 :: r7 :: r8 :: r9 :: r10 :: r11 :: r12 :: r13 :: r14 :: r15 :: 1 :: t) (by simp) h2 hr a b ha hb _
    · show isB (body4 E2 cy2 [] 399 (loop2 382) exit2 fin2 L (V2 16 2 (t.length + 17) (f5 r0 :: f5 r1 :: f5 r2 :: f5 r3 :: f5 r4 :: f5 r5 :: f5 r6 :: f5 r7 :: f5 r8 :: f5 r9 :: f5 r10 :: f5 r11 :: f5 r12 :: f5 r13 :: f5 r14 :: f5 r15 :: .res .u8 2 5 :: t.map f5) (.res .u8 a 3) (.res .u8 b 3)) (TT R16_2 16)) = true
      rw [step16_2_2]
      exact lp17_2 (r0 :: r1 :: r2 :: r3 :: r4 :: r5 :: r6 :: r7 :: r8 :: r9 :: r10 :: r11 :: r12 :: r13 :: r14 :: r15 :: 2 :: t) (by simp) h2 hr a b ha hb _
    · show isB (body4 E2 cy2 [] 399 (loop2 382) exit2 fin2 L (V2 16 2 (t.length + 17) (f5 r0 :: f5 r1 :: f5 r2 :: f5 r3 :: f5 r4 :: f5 r5 :: f5 r6 :: f5 r7 :: f5 r8 :: f5 r9 :: f5 r10 :: f5 r11 :: f5 r12 :: f5 r13 :: f5 r14 :: f5 r15 :: .res .u8 3 5 :: t.map f5) (.res .u8 a 3) (.res .u8 b 3)) (TT R16_2 16)) = true
      rw [step16_2_3]
      exact lp17_3 (r0 :: r1 :: r2 :: r3 :: r4 :: r5 :: r6 :: r7 :: r8 :: r9 :: r10 :: r11 :: r12 :: r13 :: r14 :: r15 :: 3 :: t) (by simp) h2 hr a b ha hb _
    · show isB (body4 E2 cy2 [] 399 (loop2 382) exit2 fin2 L (V2 16 2 (t.length + 17) (f5 r0 :: f5 r1 :: f5 r2 :: f5 r3 :: f5 r4 :: f5 r5 :: f5 r6 :: f5 r7 :: f5 r8 :: f5 r9 :: f5 r10 :: f5 r11 :: f5 r12 :: f5 r13 :: f5 r14 :: f5 r15 :: .res .u8 4 5 :: t.map f5) (.res .u8 a 3) (.res .u8 b 3)) (TT R16_2 16)) = true
      rw [step16_2_4]
      exact lp17_3 (r0 :: r1 :: r2 :: r3 :: r4 :: r5 :: r6 :: r7 :: r8 :: r9 :: r10 :: r11 :: r12 :: r13 :: r14 :: r15 :: 4 :: t) (by simp) h2 hr a b ha hb _
    · omega
theorem lp16_3 (rs : List Nat) (h1 : 16 ≤ rs.length) (h2 : rs.length ≤ 20) (hr : ∀ r ∈ rs, r < 5) (a b : Nat) (ha : a < 3) (hb : b < 3) (L : List AV) : isB (loop2 383 L (V2 16 3 rs.length (rs.map f5) (.res .u8 a 3) (.res .u8 b 3)) (TT R16_3 16)) = true := by
  rw [show loop2 383 = body4 E2 cy2 [] 399 (loop2 382) exit2 fin2 from loop2_succ 382]
  rcases Nat.eq_or_lt_of_le h1 with h | h
  · rw [← h]
    rcases a with _ | _ | _ | a
    · rcases b with _ | _ | _ | b
      · exact exit16_3_0_0 _ _ _
      · exact exit16_3_0_1 _ _ _
      · exact exit16_3_0_2 _ _ _
      · omega
    · rcases b with _ | _ | _ | b
      · exact exit16_3_1_0 _ _ _
      · exact exit16_3_1_1 _ _ _
      · exact exit16_3_1_2 _ _ _
      · omega
    · rcases b with _ | _ | _ | b
      · exact exit16_3_2_0 _ _ _
      · exact exit16_3_2_1 _ _ _
      · exact exit16_3_2_2 _ _ _
      · omega
    · omega
  · obtain ⟨r0, r1, r2, r3, r4, r5, r6, r7, r8, r9, r10, r11, r12, r13, r14, r15, r16, t, rfl⟩ := un16 h
    have hk : r16 < 5 := hr r16 (by simp)
    rcases r16 with _ | _ | _ | _ | _ | r16
    · show isB (body4 E2 cy2 [] 399 (loop2 382) exit2 fin2 L (V2 16 3 (t.length + 17) (f5 r0 :: f5 r1 :: f5 r2 :: f5 r3 :: f5 r4 :: f5 r5 :: f5 r6 :: f5 r7 :: f5 r8 :: f5 r9 :: f5 r10 :: f5 r11 :: f5 r12 :: f5 r13 :: f5 r14 :: f5 r15 :: .res .u8 0 5 :: t.map f5) (.res .u8 a 3) (.res .u8 b 3)) (TT R16_3 16)) = true
      rw [step16_3_0]
      exact lp17_1 (r0 :: r1 :: r2 :: r3 :: r4 :: r5 :: r6 :: r7 :: r8 :: r9 :: r10 :: r11 :: r12 :: r13 :: r14 :: r15 :: 0 :: t) (by simp) h2 hr a b ha hb _
    · show isB (body4 E2 cy2 [] 399 (loop2 382) exit2 fin2 L (V2 16 3 (t.length + 17) (f5 r0 :: f5 r1 :: f5 r2 :: f5 r3 :: f5 r4 :: f5 r5 :: f5 r6 :: f5 r7 :: f5 r8 :: f5 r9 :: f5 r10 :: f5 r11 :: f5 r12 :: f5 r13 :: f5 r14 :: f5 r15 :: .res .u8 1 5 :: t.map f5) (.res .u8 a 3) (.res .u8 b 3)) (TT R16_3 16)) = true
      rw [step16_3_1]
      exact lp17_1 (r0 :: r1 :: r2 :: r3 :: r4 :: r5 :: r6 :: r7 :: r8 :: r9 :: r10 :: r11 :: r12 :: r13 :: r14 :: r15 :: 1 :: t) (by simp) h2 hr a b ha hb _
    · show isB (body4 E2 cy2 [] 399 (loop2 382) exit2 fin2 L (V2 16 3 (t.length + 17) (f5 r0 :: f5 r1 :: f5 r2 :: f5 r3 :: f5 r4 :: f5 r5 :: f5 r6 :: f5 r7 :: f5 r8 :: f5 r9 :: f5 r10 :: f5 r11 :: f5 r12 :: f5 r13 :: f5 r14 :: f5 r15 :: .res .u8 2 5 :: t.map f5) (.res .u8 a 3) (.res .u8 b 3)) (TT R16_3 16)) = true
      rw [step16_3_2]
      exact lp17_2 (r0 :: r1 :: r2 :: r3 :: r4 :: r5 :: r6 :: r7 :: r8 :: r9 :: r10 :: r11 :: r12 :: r13 :: r14 :: r15 :: 2 :: t) (by simp) h2 hr a b ha hb _
    · show isB (body4 E2 cy2 [] 399 (loop2 382) exit2 fin2 L (V2 16 3 (t.length + 17) (f5 r0 :: f5 r1 :: f5 r2 :: f5 r3 :: f5 r4 :: f5 r5 :: f5 r6 :: f5 r7 :: f5 r8 :: f5 r9 :: f5 r10 :: f5 r11 :: f5 r12 :: f5 r13 :: f5 r14 :: f5 r15 :: .res .u8 3 5 :: t.map f5) (.res .u8 a 3) (.res .u8 b 3)) (TT R16_3 16)) = true
      rw [step16_3_3]
      exact lp17_3 (r0 :: r1 :: r2 :: r3 :: r4 :: r5 :: r6 :: r7 :: r8 :: r9 :: r10 :: r11 :: r12 :: r13 :: r14 :: r15 :: 3 :: t) (by simp) h2 hr a b ha hb _
    · show isB (body4 E2 cy2 [] 399 (loop2 382) exit2 fin2 L (V2 16 3 (t.length + 17) (f5 r0 :: f5 r1 :: f5 r2 :: f5 r3 :: f5 r4 :: f5 r5 :: f5 r6 :: f5 r7 :: f5 r8 :: f5 r9 :: f5 r10 :: f5 r11 :: f5 r12 :: f5 r13 :: f5 r14 :: f5 r15 :: .res .u8 4 5 :: t.map f5) (.res .u8 a 3) (.res .u8 b 3)) (TT R16_3 16)) = true
      rw [step16_3_4]
      exact lp17_3 (r0 :: r1 :: r2 :: r3 :: r4 :: r5 :: r6 :: r7 :: r8 :: r9 :: r10 :: r11 :: r12 :: r13 :: r14 :: r15 :: 4 :: t) (by simp) h2 hr a b ha hb _
    · omega
theorem lp15_1 (rs : List Nat) (h1 : 15 ≤ rs.length) (h2 : rs.length ≤ 20) (hr : ∀ r ∈ rs, r < 5) (a b : Nat) (ha : a < 3) (hb : b < 3) (L : List AV) : isB (loop2 384 L (V2 15 1 rs.length (rs.map f5) (.res .u8 a 3) (.res .u8 b 3)) (TT R15_1 15)) = true := by
  rw [show loop2 384 = body4 E2 cy2 [] 399 (loop2 383) exit2 fin2 from loop2_succ 383]
  rcases Nat.eq_or_lt_of_le h1 with h | h
  · rw [← h]
    rcases a with _ | _ | _ | a
    · rcases b with _ | _ | _ | b
      · exact exit15_1_0_0 _ _ _
      · exact exit15_1_0_1 _ _ _
      · exact exit15_1_0_2 _ _ _
      · omega
    · rcases b with _ | _ | _ | b
      · exact exit15_1_1_0 _ _ _
      · exact exit15_1_1_1 _ _ _
      · exact exit15_1_1_2 _ _ _
      · omega
    · rcases b with _ | _ | _ | b
      · exact exit15_1_2_0 _ _ _
      · exact exit15_1_2_1 _ _ _
      · exact exit15_1_2_2 _ _ _
      · omega
    · omega
  · obtain ⟨r0, r1, r2, r3, r4, r5, r6, r7, r8, r9, r10, r11, r12, r13, r14, r15, t, rfl⟩ := un15 h
    have hk : r15 < 5 := hr r15 (by simp)
    rcases r15 with _ | _ | _ | _ | _ | r15
    · show isB (body4 E2 cy2 [] 399 (loop2 383) exit2 fin2 L (V2 15 1 (t.length + 16) (f5 r0 :: f5 r1 :: f5 r2 :: f5 r3 :: f5 r4 :: f5 r5 :: f5 r6 :: f5 r7 :: f5 r8 :: f5 r9 :: f5 r10 :: f5 r11 :: f5 r12 :: f5 r13 :: f5 r14 :: .res .u8 0 5 :: t.map f5) (.res .u8 a 3) (.res .u8 b 3)) (TT R15_1 15)) = true
      rw [step15_1_0]
      exact lp16_1 (r0 :: r1 :: r2 :: r3 :: r4 :: r5 :: r6 :: r7 :: r8 :: r9 :: r10 :: r11 :: r12 :: r13 :: r14 :: 0 :: t) (by simp) h2 hr a b ha hb _
    · show isB (body4 E2 cy2 [] 399 (loop2 383) exit2 fin2 L (V2 15 1 (t.length + 16) (f5 r0 :: f5 r1 :: f5 r2 :: f5 r3 :: f5 r4 :: f5 r5 :: f5 r6 :: f5 r7 :: f5 r8 :: f5 r9 :: f5 r10 :: f5 r11 :: f5 r12 :: f5 r13 :: f5 r14 :: .res .u8 1 5 :: t.map f5) (.res .u8 a 3) (.res .u8 b 3)) (TT R15_1 15)) = true
      rw [step15_1_1]
      exact lp16_1 (r0 :: r1 :: r2 :: r3 :: r4 :: r5 :: r6 :: r7 :: r8 :: r9 :: r10 :: r11 :: r12 :: r13 :: r14 :: 1 :: t) (by simp) h2 hr a b ha hb _
    · show isB (body4 E2 cy2 [] 399 (loop2 383) exit2 fin2 L (V2 15 1 (t.length + 16) (f5 r0 :: f5 r1 :: f5 r2 :: f5 r3 :: f5 r4 :: f5 r5 :: f5 r6 :: f5 r7 :: f5 r8 :: f5 r9 :: f5 r10 :: f5 r11 :: f5 r12 :: f5 r13 :: f5 r14 :: .res .u8 2 5 :: t.map f5) (.res .u8 a 3) (.res .u8 b 3)) (TT R15_1 15)) = true
      rw [step15_1_2]
      exact lp16_2 (r0 :: r1 :: r2 :: r3 :: r4 :: r5 :: r6 :: r7 :: r8 :: r9 :: r10 :: r11 :: r12 :: r13 :: r14 :: 2 :: t) (by simp) h2 hr a b ha hb _
    · show isB (body4 E2 cy2 [] 399 (loop2 383) exit2 fin2 L (V2 15 1 (t.length + 16) (f5 r0 :: f5 r1 :: f5 r2 :: f5 r3 :: f5 r4 :: f5 r5 :: f5 r6 :: f5 r7 :: f5 r8 :: f5 r9 :: f5 r10 :: f5 r11 :: f5 r12 :: f5 r13 :: f5 r14 :: .res .u8 3 5 :: t.map f5) (.res .u8 a 3) (.res .u8 b 3)) (TT R15_1 15)) = true
      rw [step15_1_3]
      exact lp16_3 (r0 :: r1 :: r2 :: r3 :: r4 :: r5 :: r6 :: r7 :: r8 :: r9 :: r10 :: r11 :: r12 :: r13 :: r14 :: 3 :: t) (by simp) h2 hr a b ha hb _
    · show isB (body4 E2 cy2 [] 399 (loop2 383) exit2 fin2 L (V2 15 1 (t.length + 16) (f5 r0 :: f5 r1 :: f5 r2 :: f5 r3 :: f5 r4 :: f5 r5 :: f5 r6 :: f5 r7 :: f5 r8 :: f5 r9 :: f5 r10 :: f5 r11 :: f5 r12 :: f5 r13 :: f5 r14 :: .res .u8 4 5 :: t.map f5) (.res .u8 a 3) (.res .u8 b 3)) (TT R15_1 15)) = true
      rw [step15_1_4]
      exact lp16_3 (r0 :: r1 :: r2 :: r3 :: r4 :: r5 :: r6 :: r7 :: r8 :: r9 :: r10 :: r11 :: r12 :: r13 :: r14 :: 4 :: t) (by simp) h2 hr a b ha hb _
    · omega
theorem lp15_2 (rs : List Nat) (h1 : 15 ≤ rs.length) (h2 : rs.length ≤ 20) (hr : ∀ r ∈ rs, r < 5) (a b : Nat) (ha : a < 3) (hb : b < 3) (L : List AV) : isB (loop2 384 L (V2 15 2 rs.length (rs.map f5) (.res .u8 a 3) (.res .u8 b 3)) (TT R15_2 15)) = true := by
  rw [show loop2 384 = body4 E2 cy2 [] 399 (loop2 383) exit2 fin2 from loop2_succ 383]
  rcases Nat.eq_or_lt_of_le h1 with h | h
  · rw [← h]
    rcases a with _ | _ | _ | a
    · rcases b with _ | _ | _ | b
      · exact exit15_2_0_0 _ _ _
      · exact exit15_2_0_1 _ _ _
      · exact exit15_2_0_2 _ _ _
      · omega
    · rcases b with _ | _ | _ | b
      · exact exit15_2_1_0 _ _ _
      · exact exit15_2_1_1 _ _ _
      · exact exit15_2_1_2 _ _ _
      · omega
    · rcases b with _ | _ | _ | b
      · exact exit15_2_2_0 _ _ _
      · exact exit15_2_2_1 _ _ _
      · exact exit15_2_2_2 _ _ _
      · omega
    · omega
  · obtain ⟨r0, r1, r2, r3, r4, r5, r6, r7, r8, r9, r10, r11, r12, r13, r14, r15, t, rfl⟩ := un15 h
    have hk : r15 < 5 := hr r15 (by simp)
    rcases r15 with _ | _ | _ | _ | _ | r15
    · show isB (body4 E2 cy2 [] 399 (loop2 383) exit2 fin2 L (V2 15 2 (t.length + 16) (f5 r0 :: f5 r1 :: f5 r2 :: f5 r3 :: f5 r4 :: f5 r5 :: f5 r6 :: f5 r7 :: f5 r8 :: f5 r9 :: f5 r10 :: f5 r11 :: f5 r12 :: f5 r13 :: f5 r14 :: .res .u8 0 5 :: t.map f5) (.res .u8 a 3) (.res .u8 b 3)) (TT R15_2 15)) = true
      rw [step15_2_0]
      exact lp16_1 (r0 :: r1 :: r2 :: r3 :: r4 :: r5 :: r6 :: r7 :: r8 :: r9 :: r10 :: r11 :: r12 :: r13 :: r14 :: 0 :: t) (by simp) h2 hr a b ha hb _
    · show isB (body4 E2 cy2 [] 399 (loop2 383) exit2 fin2 L (V2 15 2 (t.length + 16) (f5 r0 :: f5 r1 :: f5 r2 :: f5 r3 :: f5 r4 :: f5 r5 :: f5 r6 :: f5 r7 :: f5 r8 :: f5 r9 :: f5 r10 :: f5 r11 :: f5 r12 :: f5 r13 :: f5 r14 :: .res .u8 1 5 :: t.map f5) (.res .u8 a 3) (.res .u8 b 3)) (TT R15_2 15)) = true
      rw [step15_2_1]
      exact lp16_1 (r0 :: r1 :: r2 :: r3 :: r4 :: r5 :: r6 :: r7 :: r8 :: r9 :: r10 :: r11 :: r12 :: r13 :: r14 :: 1 :: t) (by simp) h2 hr a b ha hb _
    · show isB (body4 E2 cy2 [] 399 (loop2 383) exit2 fin2 L (V2 15 2 (t.length + 16) (f5 r0 :: f5 r1 :: f5 r2 :: f5 r3 :: f5 r4 :: f5 r5 :: f5 r6 :: f5 r7 :: f5 r8 :: f5 r9 :: f5 r10 :: f5 r11 :: f5 r12 :: f5 r13 :: f5 r14 :: .res .u8 2 5 :: t.map f5) (.res .u8 a 3) (.res .u8 b 3)) (TT R15_2 15)) = true
      rw [step15_2_2]
      exact lp16_2 (r0 :: r1 :: r2 :: r3 :: r4 :: r5 :: r6 :: r7 :: r8 :: r9 :: r10 :: r11 :: r12 :: r13 :: r14 :: 2 :: t) (by simp) h2 hr a b ha hb _
    · show isB (body4 E2 cy2 [] 399 (loop2 383) exit2 fin2 L (V2 15 2 (t.length + 16) (f5 r0 :: f5 r1 :: f5 r2 :: f5 r3 :: f5 r4 :: f5 r5 :: f5 r6 :: f5 r7 :: f5 r8 :: f5 r9 :: f5 r10 :: f5 r11 :: f5 r12 :: f5 r13 :: f5 r14 :: .res .u8 3 5 :: t.map f5) (.res .u8 a 3) (.res .u8 b 3)) (TT R15_2 15)) = true
      rw [step15_2_3]
      exact lp16_3 (r0 :: r1 :: r2 :: r3 :: r4 :: r5 :: r6 :: r7 :: r8 :: r9 :: r10 :: r11 :: r12 :: r13 :: r14 :: 3 :: t) (by simp) h2 hr a b ha hb _
    · show isB (body4 E2 cy2 [] 399 (loop2 383) exit2 fin2 L (V2 15 2 (t.length + 16) (f5 r0 :: f5 r1 :: f5 r2 :: f5 r3 :: f5 r4 :: f5 r5 :: f5 r6 :: f5 r7 :: f5 r8 :: f5 r9 :: f5 r10 :: f5 r11 :: f5 r12 :: f5 r13 :: f5 r14 :: .res .u8 4 5 :: t.map f5) (.res .u8 a 3) (.res .u8 b 3)) (TT R15_2 15)) = true
      rw [step15_2_4]
      exact lp16_3 (r0 :: r1 :: r2 :: r3 :: r4 :: r5 :: r6 :: r7 :: r8 :: r9 :: r10 :: r11 :: r12 :: r13 :: r14 :: 4 :: t) (by simp) h2 hr a b ha hb _
    · omega
theorem lp15_3 (rs : List Nat) (h1 : 15 ≤ rs.length) (h2 : rs.length ≤ 20) (hr : ∀ r ∈ rs, r < 5) (a b : Nat) (ha : a < 3) (hb : b < 3) (L : List AV) : isB (loop2 384 L (V2 15 3 rs.length (rs.map f5) (.res .u8 a 3) (.res .u8 b 3)) (TT R15_3 15)) = true := by
  rw [show loop2 384 = body4 E2 cy2 [] 399 (loop2 383) exit2 fin2 from loop2_succ 383]
  rcases Nat.eq_or_lt_of_le h1 with h | h
  · rw [← h]
    rcases a with _ | _ | _ | a
    · rcases b with _ | _ | _ | b
      · exact exit15_3_0_0 _ _ _
      · exact exit15_3_0_1 _ _ _
      · exact exit15_3_0_2 _ _ _
      · omega
    · rcases b with _ | _ | _ | b
      · exact exit15_3_1_0 _ _ _
      · exact exit15_3_1_1 _ _ _
      · exact exit15_3_1_2 _ _ _
      · omega
    · rcases b with _ | _ | _ | b
      · exact exit15_3_2_0 _ _ _
      · exact exit15_3_2_1 _ _ _
      · exact exit15_3_2_2 _ _ _
      · omega
    · omega
  · obtain ⟨r0, r1, r2, r3, r4, r5, r6, r7, r8, r9, r10, r11, r12, r13, r14, r15, t, rfl⟩ := un15 h
    have hk : r15 < 5 := hr r15 (by simp)
    rcases r15 with _ | _ | _ | _ | _ | r15
    · show isB (body4 E2 cy2 [] 399 (loop2 383) exit2 fin2 L (V2 15 3 (t.length + 16) (f5 r0 :: f5 r1 :: f5 r2 :: f5 r3 :: f5 r4 :: f5 r5 :: f5 r6 :: f5 r7 :: f5 r8 :: f5 r9 :: f5 r10 :: f5 r11 :: f5 r12 :: f5 r13 :: f5 r14 :: .res .u8 0 5 :: t.map f5) (.res .u8 a 3) (.res .u8 b 3)) (TT R15_3 15)) = true
      rw [step15_3_0]
      exact lp16_1 (r0 :: r1 :: r2 :: r3 :: r4 :: r5 :: r6 :: r7 :: r8 :: r9 :: r10 :: r11 :: r12 :: r13 :: r14 :: 0 :: t) (by simp) h2 hr a b ha hb _
    · show isB (body4 E2 cy2 [] 399 (loop2 383) exit2 fin2 L (V2 15 3 (t.length + 16) (f5 r0 :: f5 r1 :: f5 r2 :: f5 r3 :: f5 r4 :: f5 r5 :: f5 r6 :: f5 r7 :: f5 r8 :: f5 r9 :: f5 r10 :: f5 r11 :: f5 r12 :: f5 r13 :: f5 r14 :: .res .u8 1 5 :: t.map f5) (.res .u8 a 3) (.res .u8 b 3)) (TT R15_3 15)) = true
      rw [step15_3_1]
      exact lp16_1 (r0 :: r1 :: r2 :: r3 :: r4 :: r5 :: r6 :: r7 :: r8 :: r9 :: r10 :: r11 :: r12 :: r13 :: r14 :: 1 :: t) (by simp) h2 hr a b ha hb _
    · show isB (body4 E2 cy2 [] 399 (loop2 383) exit2 fin2 L (V2 15 3 (t.length + 16) (f5 r0 :: f5 r1 :: f5 r2 :: f5 r3 :: f5 r4 :: f5 r5 :: f5 r6 :: f5 r7 :: f5 r8 :: f5 r9 :: f5 r10 :: f5 r11 :: f5 r12 :: f5 r13 :: f5 r14 :: .res .u8 2 5 :: t.map f5) (.res .u8 a 3) (.res .u8 b 3)) (TT R15_3 15)) = true
      rw [step15_3_2]
      exact lp16_2 (r0 :: r1 :: r2 :: r3 :: r4 :: r5 :: r6 :: r7 :: r8 :: r9 :: r10 :: r11 :: r12 :: r13 :: r14 :: 2 :: t) (by simp) h2 hr a b ha hb _
    · show isB (body4 E2 cy2 [] 399 (loop2 383) exit2 fin2 L (V2 15 3 (t.length + 16) (f5 r0 :: f5 r1 :: f5 r2 :: f5 r3 :: f5 r4 :: f5 r5 :: f5 r6 :: f5 r7 :: f5 r8 :: f5 r9 :: f5 r10 :: f5 r11 :: f5 r12 :: f5 r13 :: f5 r14 :: .res .u8 3 5 :: t.map f5) (.res .u8 a 3) (.res .u8 b 3)) (TT R15_3 15)) = true
      rw [step15_3_3]
      exact lp16_3 (r0 :: r1 :: r2 :: r3 :: r4 :: r5 :: r6 :: r7 :: r8 :: r9 :: r10 :: r11 :: r12 :: r13 :: r14 :: 3 :: t) (by simp) h2 hr a b ha hb _
    · show isB (body4 E2 cy2 [] 399 (loop2 383) exit2 fin2 L (V2 15 3 (t.length + 16) (f5 r0 :: f5 r1 :: f5 r2 :: f5 r3 :: f5 r4 :: f5 r5 :: f5 r6 :: f5 r7 :: f5 r8 :: f5 r9 :: f5 r10 :: f5 r11 :: f5 r12 :: f5 r13 :: f5 r14 :: .res .u8 4 5 :: t.map f5) (.res .u8 a 3) (.res .u8 b 3)) (TT R15_3 15)) = true
      rw [step15_3_4]
      exact lp16_3 (r0 :: r1 :: r2 :: r3 :: r4 :: r5 :: r6 :: r7 :: r8 :: r9 :: r10 :: r11 :: r12 :: r13 :: r14 :: 4 :: t) (by simp) h2 hr a b ha hb _
    · omega
theorem lp14_1 (rs : List Nat) (h1 : 14 ≤ rs.length) (h2 : rs.length ≤ 20) (hr : ∀ r ∈ rs, r < 5) (a b : Nat) (ha : a < 3) (hb : b < 3) (L : List AV) : isB (loop2 385 L (V2 14 1 rs.length (rs.map f5) (.res .u8 a 3) (.res .u8 b 3)) (TT R14_1 14)) = true := by
  rw [show loop2 385 = body4 E2 cy2 [] 399 (loop2 384) exit2 fin2 from loop2_succ 384]
  rcases Nat.eq_or_lt_of_le h1 with h | h
  · rw [← h]
    rcases a with _ | _ | _ | a
    · rcases b with _ | _ | _ | b
      · exact exit14_1_0_0 _ _ _
      · exact exit14_1_0_1 _ _ _
      · exact exit14_1_0_2 _ _ _
      · omega
    · rcases b with _ | _ | _ | b
      · exact exit14_1_1_0 _ _ _
      · exact exit14_1_1_1 _ _ _
      · exact exit14_1_1_2 _ _ _
      · omega
    · rcases b with _ | _ | _ | b
      · exact exit14_1_2_0 _ _ _
      · exact exit14_1_2_1 _ _ _
      · exact exit14_1_2_2 _ _ _
      · omega
    · omega
  · obtain ⟨r0, r1, r2, r3, r4, r5, r6, r7, r8, r9, r10, r11, r12, r13, r14, t, rfl⟩ := un14 h
    have hk : r14 < 5 := hr r14 (by simp)
    rcases r14 with _ | _ | _ | _ | _ | r14
    · show isB (body4 E2 cy2 [] 399 (loop2 384) exit2 fin2 L (V2 14 1 (t.length + 15) (f5 r0 :: f5 r1 :: f5 r2 :: f5 r3 :: f5 r4 :: f5 r5 :: f5 r6 :: f5 r7 :: f5 r8 :: f5 r9 :: f5 r10 :: f5 r11 :: f5 r12 :: f5 r13 :: .res .u8 0 5 :: t.map f5) (.res .u8 a 3) (.res .u8 b 3)) (TT R14_1 14)) = true
      rw [step14_1_0]
      exact lp15_1 (r0 :: r1 :: r2 :: r3 :: r4 :: r5 :: r6 :: r7 :: r8 :: r9 :: r10 :: r11 :: r12 :: r13 :: 0 :: t) (by simp) h2 hr a b ha hb _
    · show isB (body4 E2 cy2 [] 399 (loop2 384) exit2 fin2 L (V2 14 1 (t.length + 15) (f5 r0 :: f5 r1 :: f5 r2 :: f5 r3 :: f5 r4 :: f5 r5 :: f5 r6 :: f5 r7 :: f5 r8 :: f5 r9 :: f5 r10 :: f5 r11 :: f5 r12 :: f5 r13 :: .res .u8 1 5 :: t.map f5) (.res .u8 a 3) (.res .u8 b 3)) (TT R14_1 14)) = true
      rw [step14_1_1]
      exact lp15_1 (r0 :: r1 :: r2 :: r3 :: r4 :: r5 :: r6 :: r7 :: r8 :: r9 :: r10 :: r11 :: r12 :: r13 :: 1 :: t) (by simp) h2 hr a b ha hb _
    · show isB (body4 E2 cy2 [] 399 (loop2 384) exit2 fin2 L (V2 14 1 (t.length + 15) (f5 r0 :: f5 r1 :: f5 r2 :: f5 r3 :: f5 r4 :: f5 r5 :: f5 r6 :: f5 r7 :: f5 r8 :: f5 r9 :: f5 r10 :: f5 r11 :: f5 r12 :: f5 r13 :: .res .u8 2 5 :: t.map f5) (.res .u8 a 3) (.res .u8 b 3)) (TT R14_1 14)) = true
      rw [step14_1_2]
      exact lp15_2 (r0 :: r1 :: r2 :: r3 :: r4 :: r5 :: r6 :: r7 :: r8 :: r9 :: r10 :: r11 :: r12 :: r13 :: 2 :: t) (by simp) h2 hr a b ha hb _
    · show isB (body4 E2 cy2 [] 399 (loop2 384) exit2 fin2 L (V2 14 1 (t.length + 15) (f5 r0 :: f5 r1 :: f5 r2 :: f5 r3 :: f5 r4 :: f5 r5 :: f5 r6 :: f5 r7 :: f5 r8 :: f5 r9 :: f5 r10 :: f5 r11 :: f5 r12 :: f5 r13 :: .res .u8 3 5 :: t.map f5) (.res .u8 a 3) (.res .u8 b 3)) (TT R14_1 14)) = true
      rw [step14_1_3]
      exact lp15_3 (r0 :: r1 :: r2 :: r3 :: r4 :: r5 :: r6 :: r7 :: r8 :: r9 :: r10 :: r11 :: r12 :: r13 :: 3 :: t) (by simp) h2 hr a b ha hb _
    · show isB (body4 E2 cy2 [] 399 (loop2 384) exit2 fin2 L (V2 14 1 (t.length + 15) (f5 r0 :: f5 r1 :: f5 r2 :: f5 r3 :: f5 r4 :: f5 r5 :: f5 r6 :: f5 r7 :: f5 r8 :: f5 r9 :: f5 r10 :: f5 r11 :: f5 r12 :: f5 r13 :: .res .u8 4 5 :: t.map f5) (.res .u8 a 3) (.res .u8 b 3)) (TT R14_1 14)) = true
      rw [step14_1_4]
      exact lp15_3 (r0 :: r1 :: r2 :: r3 :: r4 :: r5 :: r6 :: r7 :: r8 :: r9 :: r10 :: r11 :: r12 :: r13 :: 4 :: t) (by simp) h2 hr a b ha hb _
    · omega
theorem lp14_2 (rs : List Nat) (h1 : 14 ≤ rs.length) (h2 : rs.length ≤ 20) (hr : ∀ r ∈ rs, r < 5) (a b : Nat) (ha : a < 3) (hb : b < 3) (L : List AV) : isB (loop2 385 L (V2 14 2 rs.length (rs.map f5) (.res .u8 a 3) (.res .u8 b 3)) (TT R14_2 14)) = true := by
  rw [show loop2 385 = body4 E2 cy2 [] 399 (loop2 384) exit2 fin2 from loop2_succ 384]
  rcases Nat.eq_or_lt_of_le h1 with h | h
  · rw [← h]
    rcases a with _ | _ | _ | a
    · rcases b with _ | _ | _ | b
      · exact exit14_2_0_0 _ _ _
      · exact exit14_2_0_1 _ _ _
      · exact exit14_2_0_2 _ _ _
      · omega
    · rcases b with _ | _ | _ | b
      · exact exit14_2_1_0 _ _ _
      · exact exit14_2_1_1 _ _ _
      · exact exit14_2_1_2 _ _ _
      · omega
    · rcases b with _ | _ | _ | b
      · exact exit14_2_2_0 _ _ _
      · exact exit14_2_2_1 _ _ _
      · exact exit14_2_2_2 _ _ _
      · omega
    · omega
  · obtain ⟨r0, r1, r2, r3, r4, r5, r6, r7, r8, r9, r10, r11, r12, r13, r14, t, rfl⟩ := un14 h
    have hk : r14 < 5 := hr r14 (by simp)
    rcases r14 with _ | _ | _ | _ | _ | r14
    · show isB (body4 E2 cy2 [] 399 (loop2 384) exit2 fin2 L (V2 14 2 (t.length + 15) (f5 r0 :: f5 r1 :: f5 r2 :: f5 r3 :: f5 r4 :: f5 r5 :: f5 r6 :: f5 r7 :: f5 r8 :: f5 r9 :: f5 r10 :: f5 r11 :: f5 r12 :: f5 r13 :: .res .u8 0 5 :: t.map f5) (.res .u8 a 3) (.res .u8 b 3)) (TT R14_2 14)) = true
      rw [step14_2_0]
      exact lp15_1 (r0 :: r1 :: r2 :: r3 :: r4 :: r5 :: r6 :: r7 :: r8 :: r9 :: r10 :: r11 :: r12 :: r13 :: 0 :: t) (by simp) h2 hr a b ha hb _
    · show isB (body4 E2 cy2 [] 399 (loop2 384) exit2 fin2 L (V2 14 2 (t.length + 15) (f5 r0 :: f5 r1 :: f5 r2 :: f5 r3 :: f5 r4 :: f5 r5 :: f5 r6 :: f5 r7 :: f5 r8 :: f5 r9 :: f5 r10 :: f5 r11 :: f5 r12 :: f5 r13 :: .res .u8 1 5 :: t.map f5) (.res .u8 a 3) (.res .u8 b 3)) (TT R14_2 14)) = true
      rw [step14_2_1]
      exact lp15_1 (r0 :: r1 :: r2 :: r3 :: r4 :: r5 :: r6 :: r7 :: r8 :: r9 :: r10 :: r11 :: r12 :: r13 :: 1 :: t) (by simp) h2 hr a b ha hb _
    · show isB (body4 E2 cy2 [] 399 (loop2 384) exit2 fin2 L (V2 14 2 (t.length + 15) (f5 r0 :: f5 r1 :: f5 r2 :: f5 r3 :: f5 r4 :: f5 r5 :: f5 r6 :: f5 r7 :: f5 r8 :: f5 r9 :: f5 r10 :: f5 r11 :: f5 r12 :: f5 r13 :: .res .u8 2 5 :: t.map f5) (.res .u8 a 3) (.res .u8 b 3)) (TT R14_2 14)) = true
      rw [step14_2_2]
      exact lp15_2 (r0 :: r1 :: r2 :: r3 :: r4 :: r5 :: r6 :: r7 :: r8 :: r9 :: r10 :: r11 :: r12 :: r13 :: 2 :: t) (by simp) h2 hr a b ha hb _
    · show isB (body4 E2 cy2 [] 399 (loop2 384) exit2 fin2 L (V2 14 2 (t.length + 15) (f5 r0 :: f5 r1 :: f5 r2 :: f5 r3 :: f5 r4 :: f5 r5 :: f5 r6 :: f5 r7 :: f5 r8 :: f5 r9 :: f5 r10 :: f5 r11 :: f5 r12 :: f5 r13 :: .res .u8 3 5 :: t.map f5) (.res .u8 a 3) (.res .u8 b 3)) (TT R14_2 14)) = true
      rw [step14_2_3]
      exact lp15_3 (r0 :: r1 :: r2 :: r3 :: r4 :: r5 :: r6 :: r7 :: r8 :: r9 :: r10 :: r11 :: r12 :: r13 :: 3 :: t) (by simp) h2 hr a b ha hb _
    · show isB (body4 E2 cy2 [] 399 (loop2 384) exit2 fin2 L (V2 14 2 (t.length + 15) (f5 r0 :: f5 r1 :: f5 r2 :: f5 r3 :: f5 r4 :: f5 r5 :: f5 r6 :: f5 r7 :: f5 r8 :: f5 r9 :: f5 r10 :: f5 r11 :: f5 r12 :: f5 r13 :: .res .u8 4 5 :: t.map f5) (.res .u8 a 3) (.res .u8 b 3)) (TT R14_2 14)) = true
      rw [step14_2_4]
      exact lp15_3 (r0 :: r1 :: r2 :: r3 :: r4 :: r5 :: r6 :: r7 :: r8 :: r9 :: r10 :: r11 :: r12 :: r13 :: 4 :: t) (by simp) h2 hr a b ha hb _
    · omega
theorem lp14_3 (rs : List Nat) (h1 : 14 ≤ rs.length) (h2 : rs.length ≤ 20) (hr : ∀ r ∈ rs, r < 5) (a b : Nat) (ha : a < 3) (hb : b < 3) (L : List AV) : isB (loop2 385 L (V2 14 3 rs.length (rs.map f5) (.res .u8 a 3) (.res .u8 b 3)) (TT R14_3 14)) = true := by
  rw [show loop2 385 = body4 E2 cy2 [] 399 (loop2 384) exit2 fin2 from loop2_succ 384]
  rcases Nat.eq_or_lt_of_le h1 with h | h
  · rw [← h]
    rcases a with _ | _ | _ | a
    · rcases b with _ | _ | _ | b
      · exact exit14_3_0_0 _ _ _
      · exact exit14_3_0_1 _ _ _
      · exact exit14_3_0_2 _ _ _
      · omega
    · rcases b with _ | _ | _ | b
      · exact exit14_3_1_0 _ _ _
      · exact exit14_3_1_1 _ _ _
      · exact exit14_3_1_2 _ _ _
      · omega
    · rcases b with _ | _ | _ | b
      · exact exit14_3_2_0 _ _ _
      · exact exit14_3_2_1 _ _ _
      · exact exit14_3_2_2 _ _ _
      · omega
    · omega
  · obtain ⟨r0, r1, r2, r3, r4, r5, r6, r7, r8, r9, r10, r11, r12, r13, r14, t, rfl⟩ := un14 h
    have hk : r14 < 5 := hr r14 (by simp)
    rcases r14 with _ | _ | _ | _ | _ | r14
    · show isB (body4 E2 cy2 [] 399 (loop2 384) exit2 fin2 L (V2 14 3 (t.length + 15) (f5 r0 :: f5 r1 :: f5 r2 :: f5 r3 :: f5 r4 :: f5 r5 :: f5 r6 :: f5 r7 :: f5 r8 :: f5 r9 :: f5 r10 :: f5 r11 :: f5 r12 :: f5 r13 :: .res .u8 0 5 :: t.map f5) (.res .u8 a 3) (.res .u8 b 3)) (TT R14_3 14)) = true
      rw [step14_3_0]
      exact lp15_1 (r0 :: r1 :: r2 :: r3 :: r4 :: r5 :: r6 :: r7 :: r8 :: r9 :: r10 :: r11 :: r12 :: r13 :: 0 :: t) (by simp) h2 hr a b ha hb _
    · show isB (body4 E2 cy2 [] 399 (loop2 384) exit2 fin2 L (V2 14 3 (t.length + 15) (f5 r0 :: f5 r1 :: f5 r2 :: f5 r3 :: f5 r4 :: f5 r5 :: f5 r6 :: f5 r7 :: f5 r8 :: f5 r9 :: f5 r10 :: f5 r11 :: f5 r12 :: f5 r13 :: .res .u8 1 5 :: t.map f5) (.res .u8 a 3) (.res .u8 b 3)) (TT R14_3 14)) = true
      rw [step14_3_1]
      exact lp15_1 (r0 :: r1 :: r2 :: r3 :: r4 :: r5 :: r6 :: r7 :: r8 :: r9 :: r10 :: r11 :: r12 :: r13 :: 1 :: t) (by simp) h2 hr a b ha hb _
    · show isB (body4 E2 cy2 [] 399 (loop2 384) exit2 fin2 L (V2 14 3 (t.length + 15) (f5 r0 :: f5 r1 :: f5 r2 :: f5 r3 :: f5 r4 :: f5 r5 :: f5 r6 :: f5 r7 :: f5 r8 :: f5 r9 :: f5 r10 :: f5 r11 :: f5 r12 :: f5 r13 :: .res .u8 2 5 :: t.map f5) (.res .u8 a 3) (.res .u8 b 3)) (TT R14_3 14)) = true
      rw [step14_3_2]
      exact lp15_2 (r0 :: r1 :: r2 :: r3 :: r4 :: r5 :: r6 :: r7 :: r8 :: r9 :: r10 :: r11 :: r12 :: r13 :: 2 :: t) (by simp) h2 hr a b ha hb _
    · show isB (body4 E2 cy2 [] 399 (loop2 384) exit2 fin2 L (V2 14 3 (t.length + 15) (f5 r0 :: f5 r1 :: f5 r2 :: f5 r3 :: f5 r4 :: f5 r5 :: f5 r6 :: f5 r7 :: f5 r8 :: f5 r9 :: f5 r10 :: f5 r11 :: f5 r12 :: f5 r13 :: .res .u8 3 5 :: t.map f5) (.res .u8 a 3) (.res .u8 b 3)) (TT R14_3 14)) = true
      rw [step14_3_3]
      exact lp15_3 (r0 :: r1 :: r2 :: r3 :: r4 :: r5 :: r6 :: r7 :: r8 :: r9 :: r10 :: r11 :: r12 :: r13 :: 3 :: t) (by simp) h2 hr a b ha hb _
    · show isB (body4 E2 cy2 [] 399 (loop2 384) exit2 fin2 L (V2 14 3 (t.length + 15) (f5 r0 :: f5 r1 :: f5 r2 :: f5 r3 :: f5 r4 :: f5 r5 :: f5 r6 :: f5 r7 :: f5 r8 :: f5 r9 :: f5 r10 :: f5 r11 :: f5 r12 :: f5 r13 :: .res .u8 4 5 :: t.map f5) (.res .u8 a 3) (.res .u8 b 3)) (TT R14_3 14)) = true
      rw [step14_3_4]
      exact lp15_3 (r0 :: r1 :: r2 :: r3 :: r4 :: r5 :: r6 :: r7 :: r8 :: r9 :: r10 :: r11 :: r12 :: r13 :: 4 :: t) (by simp) h2 hr a b ha hb _
    · omega
theorem lp13_1 (rs : List Nat) (h1 : 13 ≤ rs.length) (h2 : rs.length ≤ 20) (hr : ∀ r ∈ rs, r < 5) (a b : Nat) (ha : a < 3) (hb : b < 3) (L : List AV) : isB (loop2 386 L (V2 13 1 rs.length (rs.map f5) (.res .u8 a 3) (.res .u8 b 3)) (TT R13_1 13)) = true := by
  rw [show loop2 386 = body4 E2 cy2 [] 399 (loop2 385) exit2 fin2 from loop2_succ 385]
  rcases Nat.eq_or_lt_of_le h1 with h | h
  · rw [← h]
    rcases a with _ | _ | _ | a
    · rcases b with _ | _ | _ | b
      · exact exit13_1_0_0 _ _ _
      · exact exit13_1_0_1 _ _ _
      · exact exit13_1_0_2 _ _ _
      · omega
    · rcases b with _ | _ | _ | b
      · exact exit13_1_1_0 _ _ _
      · exact exit13_1_1_1 _ _ _
      · exact exit13_1_1_2 _ _ _
      · omega
    · rcases b with _ | _ | _ | b
      · exact exit13_1_2_0 _ _ _
      · exact exit13_1_2_1 _ _ _
      · exact exit13_1_2_2 _ _ _
      · omega
    · omega
  · obtain ⟨r0, r1, r2, r3, r4, r5, r6, r7, r8, r9, r10, r11, r12, r13, t, rfl⟩ := un13 h
    have hk : r13 < 5 := hr r13 (by simp)
    rcases r13 with _ | _ | _ | _ | _ | r13
    · show isB (body4 E2 cy2 [] 399 (loop2 385) exit2 fin2 L (V2 13 1 (t.length + 14) (f5 r0 :: f5 r1 :: f5 r2 :: f5 r3 :: f5 r4 :: f5 r5 :: f5 r6 :: f5 r7 :: f5 r8 :: f5 r9 :: f5 r10 :: f5 r11 :: f5 r12 :: .res .u8 0 5 :: t.map f5) (.res .u8 a 3) (.res .u8 b 3)) (TT R13_1 13)) = true
      rw [step13_1_0]
      exact lp14_1 (r0 :: r1 :: r2 :: r3 :: r4 :: r5 :: r6 :: r7 :: r8 :: r9 :: r10 :: r11 :: r12 :: 0 :: t) (by simp) h2 hr a b ha hb _
    · show isB (body4 E2 cy2 [] 399 (loop2 385) exit2 fin2 L (V2 13 1 (t.length + 14) (f5 r0 :: f5 r1 :: f5 r2 :: f5 r3 :: f5 r4 :: f5 r5 :: f5 r6 :: f5 r7 :: f5 r8 :: f5 r9 :: f5 r10 :: f5 r11 :: f5 r12 :: .res .u8 1 5 :: t.map f5) (.res .u8 a 3) (.res .u8 b 3)) (TT R13_1 13)) = true
      rw [step13_1_1]
      exact lp14_1 (r0 :: r1 :: r2 :: r3 :: r4 :: r5 :: r6 :: r7 :: r8 :: r9 :: r10 :: r11 :: r12 :: 1 :: t) (by simp) h2 hr a b ha hb _
    · show isB (body4 E2 cy2 [] 399 (loop2 385) exit2 fin2 L (V2 13 1 (t.length + 14) (f5 r0 :: f5 r1 :: f5 r2 :: f5 r3 :: f5 r4 :: f5 r5 :: f5 r6 :: f5 r7 :: f5 r8 :: f5 r9 :: f5 r10 :: f5 r11 :: f5 r12 :: .res .u8 2 5 :: t.map f5) (.res .u8 a 3) (.res .u8 b 3)) (TT R13_1 13)) = true
      rw [step13_1_2]
      exact lp14_2 (r0 :: r1 :: r2 :: r3 :: r4 :: r5 :: r6 :: r7 :: r8 :: r9 :: r10 :: r11 :: r12 :: 2 :: t) (by simp) h2 hr a b ha hb _
    · show isB (body4 E2 cy2 [] 399 (loop2 385) exit2 fin2 L (V2 13 1 (t.length + 14) (f5 r0 :: f5 r1 :: f5 r2 :: f5 r3 :: f5 r4 :: f5 r5 :: f5 r6 :: f5 r7 :: f5 r8 :: f5 r9 :: f5 r10 :: f5 r11 :: f5 r12 :: .res .u8 3 5 :: t.map f5) (.res .u8 a 3) (.res .u8 b 3)) (TT R13_1 13)) = true
      rw [step13_1_3]
      exact lp14_3 (r0 :: r1 :: r2 :: r3 :: r4 :: r5 :: r6 :: r7 :: r8 :: r9 :: r10 :: r11 :: r12 :: 3 :: t) (by simp) h2 hr a b ha hb _
    · show isB (body4 E2 cy2 [] 399 (loop2 385) exit2 fin2 L (V2 13 1 (t.length + 14) (f5 r0 :: f5 r1 :: f5 r2 :: f5 r3 :: f5 r4 :: f5 r5 :: f5 r6 :: f5 r7 :: f5 r8 :: f5 r9 :: f5 r10 :: f5 r11 :: f5 r12 :: .res .u8 4 5 :: t.map f5) (.res .u8 a 3) (.res .u8 b 3)) (TT R13_1 13)) = true
      rw [step13_1_4]
      exact lp14_3 (r0 :: r1 :: r2 :: r3 :: r4 :: r5 :: r6 :: r7 :: r8 :: r9 :: r10 :: r11 :: r12 :: 4 :: t) (by simp) h2 hr a b ha hb _
    · omega
theorem lp13_2 (rs : List Nat) (h1 : 13 ≤ rs.length) (h2 : rs.length ≤ 20) (hr : ∀ r ∈ rs, r < 5) (a b : Nat) (ha : a < 3) (hb : b < 3) (L : List AV) : isB (loop2 386 L (V2 13 2 rs.length (rs.map f5) (.res .u8 a 3) (.res .u8 b 3)) (TT R13_2 13)) = true := by
  rw [show loop2 386 = body4 E2 cy2 [] 399 (loop2 385) exit2 fin2 from loop2_succ 385]
  rcases Nat.eq_or_lt_of_le h1 with h | h
  · rw [← h]
    rcases a with _ | _ | _ | a
    · rcases b with _ | _ | _ | b
      · exact exit13_2_0_0 _ _ _
      · exact exit13_2_0_1 _ _ _
      · exact exit13_2_0_2 _ _ _
      · omega
    · rcases b with _ | _ | _ | b
      · exact exit13_2_1_0 _ _ _
      · exact exit13_2_1_1 _ _ _
      · exact exit13_2_1_2 _ _ _
      · omega
    · rcases b with _ | _ | _ | b
      · exact exit13_2_2_0 _ _ _
      · exact exit13_2_2_1 _ _ _
      · exact exit13_2_2_2 _ _ _
      · omega
    · omega
  · obtain ⟨r0, r1, r2, r3, r4, r5, r6, r7, r8, r9, r10, r11, r12, r13, t, rfl⟩ := un13 h
    have hk : r13 < 5 := hr r13 (by simp)
    rcases r13 with _ | _ | _ | _ | _ | r13
    · show isB (body4 E2 cy2 [] 399 (loop2 385) exit2 fin2 L (V2 13 2 (t.length + 14) (f5 r0 :: f5 r1 :: f5 r2 :: f5 r3 :: f5 r4 :: f5 r5 :: f5 r6 :: f5 r7 :: f5 r8 :: f5 r9 :: f5 r10 :: f5 r11 :: f5 r12 :: .res .u8 0 5 :: t.map f5) (.res .u8 a 3) (.res .u8 b 3)) (TT R13_2 13)) = true
      rw [step13_2_0]
      exact lp14_1 (r0 :: r1 :: r2 :: r3 :: r4 :: r5 :: r6 :: r7 :: r8 :: r9 :: r10 :: r11 :: r12 :: 0 :: t) (by simp) h2 hr a b ha hb _
    · show isB (body4 E2 cy2 [] 399 (loop2 385) exit2 fin2 L (V2 13 2 (t.length + 14) (f5 r0 :: f5 r1 :: f5 r2 :: f5 r3 :: f5 r4 :: f5 r5 :: f5 r6 :: f5 r7 :: f5 r8 :: f5 r9 :: f5 r10 :: f5 r11 :: f5 r12 :: .res .u8 1 5 :: t.map f5) (.res .u8 a 3) (.res .u8 b 3)) (TT R13_2 13)) = true
      rw [step13_2_1]
      exact lp14_1 (r0 :: r1 :: r2 :: r3 :: r4 :: r5 :: r6 :: r7 :: r8 :: r9 :: r10 :: r11 :: r12 :: 1 :: t) (by simp) h2 hr a b ha hb _
    · show isB (body4 E2 cy2 [] 399 (loop2 385) exit2 fin2 L (V2 13 2 (t.length + 14) (f5 r0 :: f5 r1 :: f5 r2 :: f5 r3 :: f5 r4 :: f5 r5 :: f5 r6 :: f5 r7 :: f5 r8 :: f5 r9 :: f5 r10 :: f5 r11 :: f5 r12 :: .res .u8 2 5 :: t.map f5) (.res .u8 a 3) (.res .u8 b 3)) (TT R13_2 13)) = true
      rw [step13_2_2]
      exact lp14_2 (r0 :: r1 :: r2 :: r3 :: r4 :: r5 :: r6 :: r7 :: r8 :: r9 :: r10 :: r11 :: r12 :: 2 :: t) (by simp) h2 hr a b ha hb _
    · show isB (body4 E2 cy2 [] 399 (loop2 385) exit2 fin2 L (V2 13 2 (t.length + 14) (f5 r0 :: f5 r1 :: f5 r2 :: f5 r3 :: f5 r4 :: f5 r5 :: f5 r6 :: f5 r7 :: f5 r8 :: f5 r9 :: f5 r10 :: f5 r11 :: f5 r12 :: .res .u8 3 5 :: t.map f5) (.res .u8 a 3) (.res .u8 b 3)) (TT R13_2 13)) = true
      rw [step13_2_3]
      exact lp14_3 (r0 :: r1 :: r2 :: r3 :: r4 :: r5 :: r6 :: r7 :: r8 :: r9 :: r10 :: r11 :: r12 :: 3 :: t) (by simp) h2 hr a b ha hb _
    · show isB (body4 E2 cy2 [] 399 (loop2 385) exit2 fin2 L (V2 13 2 (t.length + 14) (f5 r0 :: f5 r1 :: f5 r2 :: f5 r3 :: f5 r4 :: f5 r5 :: f5 r6 :: f5 r7 :: f5 r8 :: f5 r9 :: f5 r10 :: f5 r11 :: f5 r12 :: .res .u8 4 5 :: t.map f5) (.res .u8 a 3) (.res .u8 b 3)) (TT R13_2 13)) = true
      rw [step13_2_4]
      exact lp14_3 (r0 :: r1 :: r2 :: r3 :: r4 :: r5 :: r6 :: r7 :: r8 :: r9 :: r10 :: r11 :: r12 :: 4 :: t) (by simp) h2 hr a b ha hb _
    · omega
theorem lp13_3 (rs : List Nat) (h1 : 13 ≤ rs.length) (h2 : rs.length ≤ 20) (hr : ∀ r ∈ rs, r < 5) (a b : Nat) (ha : a < 3) (hb : b < 3) (L : List AV) : isB (loop2 386 L (V2 13 3 rs.length (rs.map f5) (.res .u8 a 3) (.res .u8 b 3)) (TT R13_3 13)) = true := by
  rw [show loop2 386 = body4 E2 cy2 [] 399 (loop2 385) exit2 fin2 from loop2_succ 385]
  rcases Nat.eq_or_lt_of_le h1 with h | h
  · rw [← h]
    rcases a with _ | _ | _ | a
    · rcases b with _ | _ | _ | b
      · exact exit13_3_0_0 _ _ _
      · exact exit13_3_0_1 _ _ _
      · exact exit13_3_0_2 _ _ _
      · omega
    · rcases b with _ | _ | _ | b
      · exact exit13_3_1_0 _ _ _
      · exact exit13_3_1_1 _ _ _
      · exact exit13_3_1_2 _ _ _
      · omega
    · rcases b with _ | _ | _ | b
      · exact exit13_3_2_0 _ _ _
      · exact exit13_3_2_1 _ _ _
      · exact exit13_3_2_2 _ _ _
      · omega
    · omega
  · obtain ⟨r0, r1, r2, r3, r4, r5, r6, r7, r8, r9, r10, r11, r12, r13, t, rfl⟩ := un13 h
    have hk : r13 < 5 := hr r13 (by simp)
    rcases r13 with _ | _ | _ | _ | _ | r13
    · show isB (body4 E2 cy2 [] 399 (loop2 385) exit2 fin2 L (V2 13 3 (t.length + 14) (f5 r0 :: f5 r1 :: f5 r2 :: f5 r3 :: f5 r4 :: f5 r5 :: f5 r6 :: f5 r7 :: f5 r8 :: f5 r9 :: f5 r10 :: f5 r11 :: f5 r12 :: .res .u8 0 5 :: t.map f5) (.res .u8 a 3) (.res .u8 b 3)) (TT R13_3 13)) = true
      rw [step13_3_0]
      exact lp14_1 (r0 :: r1 :: r2 :: r3 :: r4 :: r5 :: r6 :: r7 :: r8 :: r9 :: r10 :: r11 :: r12 :: 0 :: t) (by simp) h2 hr a b ha hb _
    · show isB (body4 E2 cy2 [] 399 (loop2 385) exit2 fin2 L (V2 13 3 (t.length + 14) (f5 r0 :: f5 r1 :: f5 r2 :: f5 r3 :: f5 r4 :: f5 r5 :: f5 r6 :: f5 r7 :: f5 r8 :: f5 r9 :: f5 r10 :: f5 r11 :: f5 r12 :: .res .u8 1 5 :: t.map f5) (.res .u8 a 3) (.res .u8 b 3)) (TT R13_3 13)) = true
      rw [step13_3_1]
      exact lp14_1 (r0 :: r1 :: r2 :: r3 :: r4 :: r5 :: r6 :: r7 :: r8 :: r9 :: r10 :: r11 :: r12 :: 1 :: t) (by simp) h2 hr a b ha hb _
    · show isB (body4 E2 cy2 [] 399 (loop2 385) exit2 fin2 L (V2 13 3 (t.length + 14) (f5 r0 :: f5 r1 :: f5 r2 :: f5 r3 :: f5 r4 :: f5 r5 :: f5 r6 :: f5 r7 :: f5 r8 :: f5 r9 :: f5 r10 :: f5 r11 :: f5 r12 :: .res .u8 2 5 :: t.map f5) (.res .u8 a 3) (.res .u8 b 3)) (TT R13_3 13)) = true
      rw [step13_3_2]
      exact lp14_2 (r0 :: r1 :: r2 :: r3 :: r4 :: r5 :: r6 :: r7 :: r8 :: r9 :: r10 :: r11 :: r12 :: 2 :: t) (by simp) h2 hr a b ha hb _
    · show isB (body4 E2 cy2 [] 399 (loop2 385) exit2 fin2 L (V2 13 3 (t.length + 14) (f5 r0 :: f5 r1 :: f5 r2 :: f5 r3 :: f5 r4 :: f5 r5 :: f5 r6 :: f5 r7 :: f5 r8 :: f5 r9 :: f5 r10 :: f5 r11 :: f5 r12 :: .res .u8 3 5 :: t.map f5) (.res .u8 a 3) (.res .u8 b 3)) (TT R13_3 13)) = true
      rw [step13_3_3]
      exact lp14_3 (r0 :: r1 :: r2 :: r3 :: r4 :: r5 :: r6 :: r7 :: r8 :: r9 :: r10 :: r11 :: r12 :: 3 :: t) (by simp) h2 hr a b ha hb _
    · show isB (body4 E2 cy2 [] 399 (loop2 385) exit2 fin2 L (V2 13 3 (t.length + 14) (f5 r0 :: f5 r1 :: f5 r2 :: f5 r3 :: f5 r4 :: f5 r5 :: f5 r6 :: f5 r7 :: f5 r8 :: f5 r9 :: f5 r10 :: f5 r11 :: f5 r12 :: .res .u8 4 5 :: t.map f5) (.res .u8 a 3) (.res .u8 b 3)) (TT R13_3 13)) = true
      rw [step13_3_4]
      exact lp14_3 (r0 :: r1 :: r2 :: r3 :: r4 :: r5 :: r6 :: r7 :: r8 :: r9 :: r10 :: r11 :: r12 :: 4 :: t) (by simp) h2 hr a b ha hb _
    · omega
theorem lp12_1 (rs : List Nat) (h1 : 12 ≤ rs.length) (h2 : rs.length ≤ 20) (hr : ∀ r ∈ rs, r < 5) (a b : Nat) (ha : a < 3) (hb : b < 3) (L : List AV) : isB (loop2 387 L (V2 12 1 rs.length (rs.map f5) (.res .u8 a 3) (.res .u8 b 3)) (TT R12_1 12)) = true := by
  rw [show loop2 387 = body4 E2 cy2 [] 399 (loop2 386) exit2 fin2 from loop2_succ 386]
  rcases Nat.eq_or_lt_of_le h1 with h | h
  · rw [← h]
    rcases a with _ | _ | _ | a
    · rcases b with _ | _ | _ | b
      · exact exit12_1_0_0 _ _ _
      · exact exit12_1_0_1 _ _ _
      · exact exit12_1_0_2 _ _ _
      · omega
    · rcases b with _ | _ | _ | b
      · exact exit12_1_1_0 _ _ _
      · exact exit12_1_1_1 _ _ _
      · exact exit12_1_1_2 _ _ _
      · omega
    · rcases b with _ | _ | _ | b
      · exact exit12_1_2_0 _ _ _
      · exact exit12_1_2_1 _ _ _
      · exact exit12_1_2_2 _ _ _
      · omega
    · omega
  · obtain ⟨r0, r1, r2, r3, r4, r5, r6, r7, r8, r9, r10, r11, r12, t, rfl⟩ := un12 h
    have hk : r12 < 5 := hr r12 (by simp)
    rcases r12 with _ | _ | _ | _ | _ | r12
    · show isB (body4 E2 cy2 [] 399 (loop2 386) exit2 fin2 L (V2 12 1 (t.length + 13) (f5 r0 :: f5 r1 :: f5 r2 :: f5 r3 :: f5 r4 :: f5 r5 :: f5 r6 :: f5 r7 :: f5 r8 :: f5 r9 :: f5 r10 :: f5 r11 :: .res .u8 0 5 :: t.map f5) (.res .u8 a 3) (.res .u8 b 3)) (TT R12_1 12)) = true
      rw [step12_1_0]
      exact lp13_1 (r0 :: r1 :: r2 :: r3 :: r4 :: r5 :: r6 :: r7 :: r8 :: r9 :: r10 :: r11 :: 0 :: t) (by simp) h2 hr a b ha hb _
    · show isB (body4 E2 cy2 [] 399 (loop2 386) exit2 fin2 L (V2 12 1 (t.length + 13) (f5 r0 :: f5 r1 :: f5 r2 :: f5 r3 :: f5 r4 :: f5 r5 :: f5 r6 :: f5 r7 :: f5 r8 :: f5 r9 :: f5 r10 :: f5 r11 :: .res .u8 1 5 :: t.map f5) (.res .u8 a 3) (.res .u8 b 3)) (TT R12_1 12)) = true
      rw [step12_1_1]
      exact lp13_1 (r0 :: r1 :: r2 :: r3 :: r4 :: r5 :: r6 :: r7 :: r8 :: r9 :: r10 :: r11 :: 1 :: t) (by simp) h2 hr a b ha hb _
    · show isB (body4 E2 cy2 [] 399 (loop2 386) exit2 fin2 L (V2 12 1 (t.length + 13) (f5 r0 :: f5 r1 :: f5 r2 :: f5 r3 :: f5 r4 :: f5 r5 :: f5 r6 :: f5 r7 :: f5 r8 :: f5 r9 :: f5 r10 :: f5 r11 :: .res .u8 2 5 :: t.map f5) (.res .u8 a 3) (.res .u8 b 3)) (TT R12_1 12)) = true
      rw [step12_1_2]
      exact lp13_2 (r0 :: r1 :: r2 :: r3 :: r4 :: r5 :: r6 :: r7 :: r8 :: r9 :: r10 :: r11 :: 2 :: t) (by simp) h2 hr a b ha hb _
    · show isB (body4 E2 cy2 [] 399 (loop2 386) exit2 fin2 L (V2 12 1 (t.length + 13) (f5 r0 :: f5 r1 :: f5 r2 :: f5 r3 :: f5 r4 :: f5 r5 :: f5 r6 :: f5 r7 :: f5 r8 :: f5 r9 :: f5 r10 :: f5 r11 :: .res .u8 3 5 :: t.map f5) (.res .u8 a 3) (.res .u8 b 3)) (TT R12_1 12)) = true
      rw [step12_1_3]
      exact lp13_3 (r0 :: r1 :: r2 :: r3 :: r4 :: r5 :: r6 :: r7 :: r8 :: r9 :: r10 :: r11 :: 3 :: t) (by simp) h2 hr a b ha hb _
    · show isB (body4 E2 cy2 [] 399 (loop2 386) exit2 fin2 L (V2 12 1 (t.length + 13) (f5 r0 :: f5 r1 :: f5 r2 :: f5 r3 :: f5 r4 :: f5 r5 :: f5 r6 :: f5 r7 :: f5 r8 :: f5 r9 :: f5 r10 :: f5 r11 :: .res .u8 4 5 :: t.map f5) (.res .u8 a 3) (.res .u8 b 3)) (TT R12_1 12)) = true
      rw [step12_1_4]
      exact lp13_3 (r0 :: r1 :: r2 :: r3 :: r4 :: r5 :: r6 :: r7 :: r8 :: r9 :: r10 :: r11 :: 4 :: t) (by simp) h2 hr a b ha hb _
    · omega
theorem lp12_2 (rs : List Nat) (h1 : 12 ≤ rs.length) (h2 : rs.length ≤ 20) (hr : ∀ r ∈ rs, r < 5) (a b : Nat) (ha : a < 3) (hb : b < 3) (L : List AV) : isB (loop2 387 L (V2 12 2 rs.length (rs.map f5) (.res .u8 a 3) (.res .u8 b 3)) (TT R12_2 12)) = true := by
  rw [show loop2 387 = body4 E2 cy2 [] 399 (loop2 386) exit2 fin2 from loop2_succ 386]
  rcases Nat.eq_or_lt_of_le h1 with h | h
  · rw [← h]
    rcases a with _ | _ | _ | a
    · rcases b with _ | _ | _ | b
      · exact exit12_2_0_0 _ _ _
      · exact exit12_2_0_1 _ _ _
      · exact exit12_2_0_2 _ _ _
      · omega
    · rcases b with _ | _ | _ | b
      · exact exit12_2_1_0 _ _ _
      · exact exit12_2_1_1 _ _ _
      · exact exit12_2_1_2 _ _ _
      · omega
    · rcases b with _ | _ | _ | b
      · exact exit12_2_2_0 _ _ _
      · exact exit12_2_2_1 _ _ _
      · exact exit12_2_2_2 _ _ _
      · omega
    · omega
  · obtain ⟨r0, r1, r2, r3, r4, r5, r6, r7, r8, r9, r10, r11, r12, t, rfl⟩ := un12 h
    have hk : r12 < 5 := hr r12 (by simp)
    rcases r12 with _ | _ | _ | _ | _ | r12
    · show isB (body4 E2 cy2 [] 399 (loop2 386) exit2 fin2 L (V2 12 2 (t.length + 13) (f5 r0 :: f5 r1 :: f5 r2 :: f5 r3 :: f5 r4 :: f5 r5 :: f5 r6 :: f5 r7 :: f5 r8 :: f5 r9 :: f5 r10 :: f5 r11 :: .res .u8 0 5 :: t.map f5) (.res .u8 a 3) (.res .u8 b 3)) (TT R12_2 12)) = true
      rw [step12_2_0]
      exact lp13_1 (r0 :: r1 :: r2 :: r3 :: r4 :: r5 :: r6 :: r7 :: r8 :: r9 :: r10 :: r11 :: 0 :: t) (by simp) h2 hr a b ha hb _
    · show isB (body4 E2 cy2 [] 399 (loop2 386) exit2 fin2 L (V2 12 2 (t.length + 13) (f5 r0 :: f5 r1 :: f5 r2 :: f5 r3 :: f5 r4 :: f5 r5 :: f5 r6 :: f5 r7 :: f5 r8 :: f5 r9 :: f5 r10 :: f5 r11 :: .res .u8 1 5 :: t.map f5) (.res .u8 a 3) (.res .u8 b 3)) (TT R12_2 12)) = true
      rw [step12_2_1]
      exact lp13_1 (r0 :: r1 :: r2 :: r3 :: r4 :: r5 :: r6 :: r7 :: r8 :: r9 :: r10 :: r11 :: 1 :: t) (by simp) h2 hr a b ha hb _
    · show isB (body4 E2 cy2 [] 399 (loop2 386) exit2 fin2 L (V2 12 2 (t.length + 13) (f5 r0 :: f5 r1 :: f5 r2 :: f5 r3 :: f5 r4 :: f5 r5 :: f5 r6 :: f5 r7 :: f5 r8 :: f5 r9 :: f5 r10 :: f5 r11 :: .res .u8 2 5 :: t.map f5) (.res .u8 a 3) (.res .u8 b 3)) (TT R12_2 12)) = true
      rw [step12_2_2]
      exact lp13_2 (r0 :: r1 :: r2 :: r3 :: r4 :: r5 :: r6 :: r7 :: r8 :: r9 :: r10 :: r11 :: 2 :: t) (by simp) h2 hr a b ha hb _
    · show isB (body4 E2 cy2 [] 399 (loop2 386) exit2 fin2 L (V2 12 2 (t.length + 13) (f5 r0 :: f5 r1 :: f5 r2 :: f5 r3 :: f5 r4 :: f5 r5 :: f5 r6 :: f5 r7 :: f5 r8 :: f5 r9 :: f5 r10 :: f5 r11 :: .res .u8 3 5 :: t.map f5) (.res .u8 a 3) (.res .u8 b 3)) (TT R12_2 12)) = true
      rw [step12_2_3]
      exact lp13_3 (r0 :: r1 :: r2 :: r3 :: r4 :: r5 :: r6 :: r7 :: r8 :: r9 :: r10 :: r11 :: 3 :: t) (by simp) h2 hr a b ha hb _
    · show isB (body4 E2 cy2 [] 399 (loop2 386) exit2 fin2 L (V2 12 2 (t.length + 13) (f5 r0 :: f5 r1 :: f5 r2 :: f5 r3 :: f5 r4 :: f5 r5 :: f5 r6 :: f5 r7 :: f5 r8 :: f5 r9 :: f5 r10 :: f5 r11 :: .res .u8 4 5 :: t.map f5) (.res .u8 a 3) (.res .u8 b 3)) (TT R12_2 12)) = true
      rw [step12_2_4]
      exact lp13_3 (r0 :: r1 :: r2 :: r3 :: r4 :: r5 :: r6 :: r7 :: r8 :: r9 :: r10 :: r11 :: 4 :: t) (by simp) h2 hr a b ha hb _
    · omega
theorem lp12_3 (rs : List Nat) (h1 : 12 ≤ rs.length) (h2 : rs.length ≤ 20) (hr : ∀ r ∈ rs, r < 5) (a b : Nat) (ha : a < 3) (hb : b < 3) (L : List AV) : isB (loop2 387 L (V2 12 3 rs.length (rs.map f5) (.res .u8 a 3) (.res .u8 b 3)) (TT R12_3 12)) = true := by
  rw [show loop2 387 = body4 E2 cy2 [] 399 (loop2 386) exit2 fin2 from loop2_succ 386]
  rcases Nat.eq_or_lt_of_le h1 with h | h
  · rw [← h]
    rcases a with _ | _ | _ | a
    · rcases b with _ | _ | _ | b
      · exact exit12_3_0_0 _ _ _
      · exact exit12_3_0_1 _ _ _
      · exact exit12_3_0_2 _ _ _
      · omega
    · rcases b with _ | _ | _ | b
      · exact exit12_3_1_0 _ _ _
      · exact exit12_3_1_1 _ _ _
      · exact exit12_3_1_2 _ _ _
      · omega
    · rcases b with _ | _ | _ | b
      · exact exit12_3_2_0 _ _ _
      · exact exit12_3_2_1 _ _ _
      · exact exit12_3_2_2 _ _ _
      · omega
    · omega
  · obtain ⟨r0, r1, r2, r3, r4, r5, r6, r7, r8, r9, r10, r11, r12, t, rfl⟩ := un12 h
    have hk : r12 < 5 := hr r12 (by simp)
    rcases r12 with _ | _ | _ | _ | _ | r12
    · show isB (body4 E2 cy2 [] 399 (loop2 386) exit2 fin2 L (V2 12 3 (t.length + 13) (f5 r0 :: f5 r1 :: f5 r2 :: f5 r3 :: f5 r4 :: f5 r5 :: f5 r6 :: f5 r7 :: f5 r8 :: f5 r9 :: f5 r10 :: f5 r11 :: .res .u8 0 5 :: t.map f5) (.res .u8 a 3) (.res .u8 b 3)) (TT R12_3 12)) = true
      rw [step12_3_0]
      exact lp13_1 (r0 :: r1 :: r2 :: r3 :: r4 :: r5 :: r6 :: r7 :: r8 :: r9 :: r10 :: r11 :: 0 :: t) (by simp) h2 hr a b ha hb _
    · show isB (body4 E2 cy2 [] 399 (loop2 386) exit2 fin2 L (V2 12 3 (t.length + 13) (f5 r0 :: f5 r1 :: f5 r2 :: f5 r3 :: f5 r4 :: f5 r5 :: f5 r6 :: f5 r7 :: f5 r8 :: f5 r9 :: f5 r10 :: f5 r11 :: .res .u8 1 5 :: t.map f5) (.res .u8 a 3) (.res .u8 b 3)) (TT R12_3 12)) = true
      rw [step12_3_1]
      exact lp13_1 (r0 :: r1 :: r2 :: r3 :: r4 :: r5 :: r6 :: r7 :: r8 :: r9 :: r10 :: r11 :: 1 :: t) (by simp) h2 hr a b ha hb _
    · show isB (body4 E2 cy2 [] 399 (loop2 386) exit2 fin2 L (V2 12 3 (t.length + 13) (f5 r0 :: f5 r1 :: f5 r2 :: f5 r3 :: f5 r4 :: f5 r5 :: f5 r6 :: f5 r7 :: f5 r8 :: f5 r9 :: f5 r10 :: f5 r11 :: .res .u8 2 5 :: t.map f5) (.res .u8 a 3) (.res .u8 b 3)) (TT R12_3 12)) = true
      rw [step12_3_2]
      exact lp13_2 (r0 :: r1 :: r2 :: r3 :: r4 :: r5 :: r6 :: r7 :: r8 :: r9 :: r10 :: r11 :: 2 :: t) (by simp) h2 hr a b ha hb _
    · show isB (body4 E2 cy2 [] 399 (loop2 386) exit2 fin2 L (V2 12 3 (t.length + 13) (f5 r0 :: f5 r1 :: f5 r2 :: f5 r3 :: f5 r4 :: f5 r5 :: f5 r6 :: f5 r7 :: f5 r8 :: f5 r9 :: f5 r10 :: f5 r11 :: .res .u8 3 5 :: t.map f5) (.res .u8 a 3) (.res .u8 b 3)) (TT R12_3 12)) = true
      rw [step12_3_3]
      exact lp13_3 (r0 :: r1 :: r2 :: r3 :: r4 :: r5 :: r6 :: r7 :: r8 :: r9 :: r10 :: r11 :: 3 :: t) (by simp) h2 hr a b ha hb _
    · show isB (body4 E2 cy2 [] 399 (loop2 386) exit2 fin2 L (V2 12 3 (t.length + 13) (f5 r0 :: f5 r1 :: f5 r2 :: f5 r3 :: f5 r4 :: f5 r5 :: f5 r6 :: f5 r7 :: f5 r8 :: f5 r9 :: f5 r10 :: f5 r11 :: .res .u8 4 5 :: t.map f5) (.res .u8 a 3) (.res .u8 b 3)) (TT R12_3 12)) = true
      rw [step12_3_4]
      exact lp13_3 (r0 :: r1 :: r2 :: r3 :: r4 :: r5 :: r6 :: r7 :: r8 :: r9 :: r10 :: r11 :: 4 :: t) (by simp) h2 hr a b ha hb _
    · omega
theorem lp11_1 (rs : List Nat) (h1 : 11 ≤ rs.length) (h2 : rs.length ≤ 20) (hr : ∀ r ∈ rs, r < 5) (a b : Nat) (ha : a < 3) (hb : b < 3) (L : List AV) : isB (loop2 388 L (V2 11 1 rs.length (rs.map f5) (.res .u8 a 3) (.res .u8 b 3)) (TT R11_1 11)) = true := by
  rw [show loop2 388 = body4 E2 cy2 [] 399 (loop2 387) exit2 fin2 from loop2_succ 387]
  rcases Nat.eq_or_lt_of_le h1 with h | h
  · rw [← h]
    rcases a with _ | _ | _ | a
    · rcases b with _ | _ | _ | b
      · exact exit11_1_0_0 _ _ _
      · exact exit11_1_0_1 _ _ _
      · exact exit11_1_0_2 _ _ _
      · omega
    · rcases b with _ | _ | _ | b
      · exact exit11_1_1_0 _ _ _
      · exact exit11_1_1_1 _ _ _
      · exact exit11_1_1_2 _ _ _
      · omega
    · rcases b with _ | _ | _ | b
      · exact exit11_1_2_0 _ _ _
      · exact exit11_1_2_1 _ _ _
      · exact exit11_1_2_2 _ _ _
      · omega
    · omega
  · obtain ⟨r0, r1, r2, r3, r4, r5, r6, r7, r8, r9, r10, r11, t, rfl⟩ := un11 h
    have hk : r11 < 5 := hr r11 (by simp)
    rcases r11 with _ | _ | _ | _ | _ | r11
    · show isB (body4 E2 cy2 [] 399 (loop2 387) exit2 fin2 L (V2 11 1 (t.length + 12) (f5 r0 :: f5 r1 :: f5 r2 :: f5 r3 :: f5 r4 :: f5 r5 :: f5 r6 :: f5 r7 :: f5 r8 :: f5 r9 :: f5 r10 :: .res .u8 0 5 :: t.map f5) (.res .u8 a 3) (.res .u8 b 3)) (TT R11_1 11)) = true
      rw [step11_1_0]
      exact lp12_1 (r0 :: r1 :: r2 :: r3 :: r4 :: r5 :: r6 :: r7 :: r8 :: r9 :: r10 :: 0 :: t) (by simp) h2 hr a b ha hb _
    · show isB (body4 E2 cy2 [] 399 (loop2 387) exit2 fin2 L (V2 11 1 (t.length + 12) (f5 r0 :: f5 r1 :: f5 r2 :: f5 r3 :: f5 r4 :: f5 r5 :: f5 r6 :: f5 r7 :: f5 r8 :: f5 r9 :: f5 r10 :: .res .u8 1 5 :: t.map f5) (.res .u8 a 3) (.res .u8 b 3)) (TT R11_1 11)) = true
      rw [step11_1_1]
      exact lp12_1 (r0 :: r1 :: r2 :: r3 :: r4 :: r5 :: r6 :: r7 :: r8 :: r9 :: r10 :: 1 :: t) (by simp) h2 hr a b ha hb _
    · show isB (body4 E2 cy2 [] 399 (loop2 387) exit2 fin2 L (V2 11 1 (t.length + 12) (f5 r0 :: f5 r1 :: f5 r2 :: f5 r3 :: f5 r4 :: f5 r5 :: f5 r6 :: f5 r7 :: f5 r8 :: f5 r9 :: f5 r10 :: .res .u8 2 5 :: t.map f5) (.res .u8 a 3) (.res .u8 b 3)) (TT R11_1 11)) = true
      rw [step11_1_2]
      exact lp12_2 (r0 :: r1 :: r2 :: r3 :: r4 :: r5 :: r6 :: r7 :: r8 :: r9 :: r10 :: 2 :: t) (by simp) h2 hr a b ha hb _
    · show isB (body4 E2 cy2 [] 399 (loop2 387) exit2 fin2 L (V2 11 1 (t.length + 12) (f5 r0 :: f5 r1 :: f5 r2 :: f5 r3 :: f5 r4 :: f5 r5 :: f5 r6 :: f5 r7 :: f5 r8 :: f5 r9 :: f5 r10 :: .res .u8 3 5 :: t.map f5) (.res .u8 a 3) (.res .u8 b 3)) (TT R11_1 11)) = true
      rw [step11_1_3]
      exact lp12_3 (r0 :: r1 :: r2 :: r3 :: r4 :: r5 :: r6 :: r7 :: r8 :: r9 :: r10 :: 3 :: t) (by simp) h2 hr a b ha hb _
    · show isB (body4 E2 cy2 [] 399 (loop2 387) exit2 fin2 L (V2 11 1 (t.length + 12) (f5 r0 :: f5 r1 :: f5 r2 :: f5 r3 :: f5 r4 :: f5 r5 :: f5 r6 :: f5 r7 :: f5 r8 :: f5 r9 :: f5 r10 :: .res .u8 4 5 :: t.map f5) (.res .u8 a 3) (.res .u8 b 3)) (TT R11_1 11)) = true
      rw [step11_1_4]
      exact lp12_3 (r0 :: r1 :: r2 :: r3 :: r4 :: r5 :: r6 :: r7 :: r8 :: r9 :: r10 :: 4 :: t) (by simp) h2 hr a b ha hb _
    · omega
theorem lp11_2 (rs : List Nat) (h1 : 11 ≤ rs.length) (h2 : rs.length ≤ 20) (hr : ∀ r ∈ rs, r < 5) (a b : Nat) (ha : a < 3) (hb : b < 3) (L : List AV) : isB (loop2 388 L (V2 11 2 rs.length (rs.map f5) (.res .u8 a 3) (.res .u8 b 3)) (TT R11_2 11)) = true := by
  rw [show loop2 388 = body4 E2 cy2 [] 399 (loop2 387) exit2 fin2 from loop2_succ 387]
  rcases Nat.eq_or_lt_of_le h1 with h | h
  · rw [← h]
    rcases a with _ | _ | _ | a
    · rcases b with _ | _ | _ | b
      · exact exit11_2_0_0 _ _ _
      · exact exit11_2_0_1 _ _ _
      · exact exit11_2_0_2 _ _ _
      · omega
    · rcases b with _ | _ | _ | b
      · exact exit11_2_1_0 _ _ _
      · exact exit11_2_1_1 _ _ _
      · exact exit11_2_1_2 _ _ _
      · omega
    · rcases b with _ | _ | _ | b
      · exact exit11_2_2_0 _ _ _
      · exact exit11_2_2_1 _ _ _
      · exact exit11_2_2_2 _ _ _
      · omega
    · omega
  · obtain ⟨r0, r1, r2, r3, r4, r5, r6, r7, r8, r9, r10, r11, t, rfl⟩ := un11 h
    have hk : r11 < 5 := hr r11 (by simp)
    rcases r11 with _ | _ | _ | _ | _ | r11
    · show isB (body4 E2 cy2 [] 399 (loop2 387) exit2 fin2 L (V2 11 2 (t.length + 12) (f5 r0 :: f5 r1 :: f5 r2 :: f5 r3 :: f5 r4 :: f5 r5 :: f5 r6 :: f5 r7 :: f5 r8 :: f5 r9 :: f5 r10 :: .res .u8 0 5 :: t.map f5) (.res .u8 a 3) (.res .u8 b 3)) (TT R11_2 11)) = true
      rw [step11_2_0]
      exact lp12_1 (r0 :: r1 :: r2 :: r3 :: r4 :: r5 :: r6 :: r7 :: r8 :: r9 :: r10 :: 0 :: t) (by simp) h2 hr a b ha hb _
    · show isB (body4 E2 cy2 [] 399 (loop2 387) exit2 fin2 L (V2 11 2 (t.length + 12) (f5 r0 :: f5 r1 :: f5 r2 :: f5 r3 :: f5 r4 :: f5 r5 :: f5 r6 :: f5 r7 :: f5 r8 :: f5 r9 :: f5 r10 :: .res .u8 1 5 :: t.map f5) (.res .u8 a 3) (.res .u8 b 3)) (TT R11_2 11)) = true
      rw [step11_2_1]
      exact lp12_1 (r0 :: r1 :: r2 :: r3 :: r4 :: r5 :: r6 :: r7 :: r8 :: r9 :: r10 :: 1 :: t) (by simp) h2 hr a b ha hb _
    · show isB (body4 E2 cy2 [] 399 (loop2 387) exit2 fin2 L (V2 11 2 (t.length + 12) (f5 r0 :: f5 r1 :: f5 r2 :: f5 r3 :: f5 r4 :: f5 r5 :: f5 r6 :: f5 r7 :: f5 r8 :: f5 r9 :: f5 r10 :: .res .u8 2 5 :: t.map f5) (.res .u8 a 3) (.res .u8 b 3)) (TT R11_2 11)) = true
      rw [step11_2_2]
      exact lp12_2 (r0 :: r1 :: r2 :: r3 :: r4 :: r5 :: r6 :: r7 :: r8 :: r9 :: r10 :: 2 :: t) (by simp) h2 hr a b ha hb _
    · show isB (body4 E2 cy2 [] 399 (loop2 387) exit2 fin2 L (V2 11 2 (t.length + 12) (f5 r0 :: f5 r1 :: f5 r2 :: f5 r3 :: f5 r4 :: f5 r5 :: f5 r6 :: f5 r7 :: f5 r8 :: f5 r9 :: f5 r10 :: .res .u8 3 5 :: t.map f5) (.res .u8 a 3) (.res .u8 b 3)) (TT R11_2 11)) = true
      rw [step11_2_3]
      exact lp12_3 (r0 :: r1 :: r2 :: r3 :: r4 :: r5 :: r6 :: r7 :: r8 :: r9 :: r10 :: 3 :: t) (by simp) h2 hr a b ha hb _
    · show isB (body4 E2 cy2 [] 399 (loop2 387) exit2 fin2 L (V2 11 2 (t.length + 12) (f5 r0 :: f5 r1 :: f5 r2 :: f5 r3 :: f5 r4 :: f5 r5 :: f5 r6 :: f5 r7 :: f5 r8 :: f5 r9 :: f5 r10 :: .res .u8 4 5 :: t.map f5) (.res .u8 a 3) (.res .u8 b 3)) (TT R11_2 11)) = true
      rw [step11_2_4]
      exact lp12_3 (r0 :: r1 :: r2 :: r3 :: r4 :: r5 :: r6 :: r7 :: r8 :: r9 :: r10 :: 4 :: t) (by simp) h2 hr a b ha hb _
    · omega
theorem lp11_3 (rs : List Nat) (h1 : 11 ≤ rs.length) (h2 : rs.length ≤ 20) (hr : ∀ r ∈ rs, r < 5) (a b : Nat) (ha : a < 3) (hb : b < 3) (L : List AV) : isB (loop2 388 L (V2 11 3 rs.length (rs.map f5) (.res .u8 a 3) (.res .u8 b 3)) (TT R11_3 11)) = true := by
  rw [show loop2 388 = body4 E2 cy2 [] 399 (loop2 387) exit2 fin2 from loop2_succ 387]
  rcases Nat.eq_or_lt_of_le h1 with h | h
  · rw [← h]
    rcases a with _ | _ | _ | a
    · rcases b with _ | _ | _ | b
      · exact exit11_3_0_0 _ _ _
      · exact exit11_3_0_1 _ _ _
      · exact exit11_3_0_2 _ _ _
      · omega
    · rcases b with _ | _ | _ | b
      · exact exit11_3_1_0 _ _ _
      · exact exit11_3_1_1 _ _ _
      · exact exit11_3_1_2 _ _ _
      · omega
    · rcases b with _ | _ | _ | b
      · exact exit11_3_2_0 _ _ _
      · exact exit11_3_2_1 _ _ _
      · exact exit11_3_2_2 _ _ _
      · omega
    · omega
  · obtain ⟨r0, r1, r2, r3, r4, r5, r6, r7, r8, r9, r10, r11, t, rfl⟩ := un11 h
    have hk : r11 < 5 := hr r11 (by simp)
    rcases r11 with _ | _ | _ | _ | _ | r11
    · show isB (body4 E2 cy2 [] 399 (loop2 387) exit2 fin2 L (V2 11 3 (t.length + 12) (f5 r0 :: f5 r1 :: f5 r2 :: f5 r3 :: f5 r4 :: f5 r5 :: f5 r6 :: f5 r7 :: f5 r8 :: f5 r9 :: f5 r10 :: .res .u8 0 5 :: t.map f5) (.res .u8 a 3) (.res .u8 b 3)) (TT R11_3 11)) = true
      rw [step11_3_0]
      exact lp12_1 (r0 :: r1 :: r2 :: r3 :: r4 :: r5 :: r6 :: r7 :: r8 :: r9 :: r10 :: 0 :: t) (by simp) h2 hr a b ha hb _
    · show isB (body4 E2 cy2 [] 399 (loop2 387) exit2 fin2 L (V2 11 3 (t.length + 12) (f5 r0 :: f5 r1 :: f5 r2 :: f5 r3 :: f5 r4 :: f5 r5 :: f5 r6 :: f5 r7 :: f5 r8 :: f5 r9 :: f5 r10 :: .res .u8 1 5 :: t.map f5) (.res .u8 a 3) (.res .u8 b 3)) (TT R11_3 11)) = true
      rw [step11_3_1]
      exact lp12_1 (r0 :: r1 :: r2 :: r3 :: r4 :: r5 :: r6 :: r7 :: r8 :: r9 :: r10 :: 1 :: t) (by simp) h2 hr a b ha hb _
    · show isB (body4 E2 cy2 [] 399 (loop2 387) exit2 fin2 L (V2 11 3 (t.length + 12) (f5 r0 :: f5 r1 :: f5 r2 :: f5 r3 :: f5 r4 :: f5 r5 :: f5 r6 :: f5 r7 :: f5 r8 :: f5 r9 :: f5 r10 :: .res .u8 2 5 :: t.map f5) (.res .u8 a 3) (.res .u8 b 3)) (TT R11_3 11)) = true
      rw [step11_3_2]
      exact lp12_2 (r0 :: r1 :: r2 :: r3 :: r4 :: r5 :: r6 :: r7 :: r8 :: r9 :: r10 :: 2 :: t) (by simp) h2 hr a b ha hb _
    · show isB (body4 E2 cy2 [] 399 (loop2 387) exit2 fin2 L (V2 11 3 (t.length + 12) (f5 r0 :: f5 r1 :: f5 r2 :: f5 r3 :: f5 r4 :: f5 r5 :: f5 r6 :: f5 r7 :: f5 r8 :: f5 r9 :: f5 r10 :: .res .u8 3 5 :: t.map f5) (.res .u8 a 3) (.res .u8 b 3)) (TT R11_3 11)) = true
      rw [step11_3_3]
      exact lp12_3 (r0 :: r1 :: r2 :: r3 :: r4 :: r5 :: r6 :: r7 :: r8 :: r9 :: r10 :: 3 :: t) (by simp) h2 hr a b ha hb _
    · show isB (body4 E2 cy2 [] 399 (loop2 387) exit2 fin2 L (V2 11 3 (t.length + 12) (f5 r0 :: f5 r1 :: f5 r2 :: f5 r3 :: f5 r4 :: f5 r5 :: f5 r6 :: f5 r7 :: f5 r8 :: f5 r9 :: f5 r10 :: .res .u8 4 5 :: t.map f5) (.res .u8 a 3) (.res .u8 b 3)) (TT R11_3 11)) = true
      rw [step11_3_4]
      exact lp12_3 (r0 :: r1 :: r2 :: r3 :: r4 :: r5 :: r6 :: r7 :: r8 :: r9 :: r10 :: 4 :: t) (by simp) h2 hr a b ha hb _
    · omega
theorem lp10_1 (rs : List Nat) (h1 : 10 ≤ rs.length) (h2 : rs.length ≤ 20) (hr : ∀ r ∈ rs, r < 5) (a b : Nat) (ha : a < 3) (hb : b < 3) (L : List AV) : isB (loop2 389 L (V2 10 1 rs.length (rs.map f5) (.res .u8 a 3) (.res .u8 b 3)) (TT R10_1 10)) = true := by
  rw [show loop2 389 = body4 E2 cy2 [] 399 (loop2 388) exit2 fin2 from loop2_succ 388]
  rcases Nat.eq_or_lt_of_le h1 with h | h
  · rw [← h]
    rcases a with _ | _ | _ | a
    · rcases b with _ | _ | _ | b
      · exact exit10_1_0_0 _ _ _
      · exact exit10_1_0_1 _ _ _
      · exact exit10_1_0_2 _ _ _
      · omega
    · rcases b with _ | _ | _ | b
      · exact exit10_1_1_0 _ _ _
      · exact exit10_1_1_1 _ _ _
      · exact exit10_1_1_2 _ _ _
      · omega
    · rcases b with _ | _ | _ | b
      · exact exit10_1_2_0 _ _ _
      · exact exit10_1_2_1 _ _ _
      · exact exit10_1_2_2 _ _ _
      · omega
    · omega
  · obtain ⟨r0, r1, r2, r3, r4, r5, r6, r7, r8, r9, r10, t, rfl⟩ := un10 h
    have hk : r10 < 5 := hr r10 (by simp)
    rcases r10 with _ | _ | _ | _ | _ | r10
    · show isB (body4 E2 cy2 [] 399 (loop2 388) exit2 fin2 L (V2 10 1 (t.length + 11) (f5 r0 :: f5 r1 :: f5 r2 :: f5 r3 :: f5 r4 :: f5 r5 :: f5 r6 :: f5 r7 :: f5 r8 :: f5 r9 :: .res .u8 0 5 :: t.map f5) (.res .u8 a 3) (.res .u8 b 3)) (TT R10_1 10)) = true
      rw [step10_1_0]
      exact lp11_1 (r0 :: r1 :: r2 :: r3 :: r4 :: r5 :: r6 :: r7 :: r8 :: r9 :: 0 :: t) (by simp) h2 hr a b ha hb _
    · show isB (body4 E2 cy2 [] 399 (loop2 388) exit2 fin2 L (V2 10 1 (t.length + 11) (f5 r0 :: f5 r1 :: f5 r2 :: f5 r3 :: f5 r4 :: f5 r5 :: f5 r6 :: f5 r7 :: f5 r8 :: f5 r9 :: .res .u8 1 5 :: t.map f5) (.res .u8 a 3) (.res .u8 b 3)) (TT R10_1 10)) = true
      rw [step10_1_1]
      exact lp11_1 (r0 :: r1 :: r2 :: r3 :: r4 :: r5 :: r6 :: r7 :: r8 :: r9 :: 1 :: t) (by simp) h2 hr a b ha hb _
    · show isB (body4 E2 cy2 [] 399 (loop2 388) exit2 fin2 L (V2 10 1 (t.length + 11) (f5 r0 :: f5 r1 :: f5 r2 :: f5 r3 :: f5 r4 :: f5 r5 :: f5 r6 :: f5 r7 :: f5 r8 :: f5 r9 :: .res .u8 2 5 :: t.map f5) (.res .u8 a 3) (.res .u8 b 3)) (TT R10_1 10)) = true
      rw [step10_1_2]
      exact lp11_2 (r0 :: r1 :: r2 :: r3 :: r4 :: r5 :: r6 :: r7 :: r8 :: r9 :: 2 :: t) (by simp) h2 hr a b ha hb _
    · show isB (body4 E2 cy2 [] 399 (loop2 388) exit2 fin2 L (V2 10 1 (t.length + 11) (f5 r0 :: f5 r1 :: f5 r2 :: f5 r3 :: f5 r4 :: f5 r5 :: f5 r6 :: f5 r7 :: f5 r8 :: f5 r9 :: .res .u8 3 5 :: t.map f5) (.res .u8 a 3) (.res .u8 b 3)) (TT R10_1 10)) = true
      rw [step10_1_3]
      exact lp11_3 (r0 :: r1 :: r2 :: r3 :: r4 :: r5 :: r6 :: r7 :: r8 :: r9 :: 3 :: t) (by simp) h2 hr a b ha hb _
    · show isB (body4 E2 cy2 [] 399 (loop2 388) exit2 fin2 L (V2 10 1 (t.length + 11) (f5 r0 :: f5 r1 :: f5 r2 :: f5 r3 :: f5 r4 :: f5 r5 :: f5 r6 :: f5 r7 :: f5 r8 :: f5 r9 :: .res .u8 4 5 :: t.map f5) (.res .u8 a 3) (.res .u8 b 3)) (TT R10_1 10)) = true
      rw [step10_1_4]
      exact lp11_3 (r0 :: r1 :: r2 :: r3 :: r4 :: r5 :: r6 :: r7 :: r8 :: r9 :: 4 :: t) (by simp) h2 hr a b ha hb _
    · omega
theorem lp10_2 (rs : List Nat) (h1 : 10 ≤ rs.length) (h2 : rs.length ≤ 20) (hr : ∀ r ∈ rs, r < 5) (a b : Nat) (ha : a < 3) (hb : b < 3) (L : List AV) : isB (loop2 389 L (V2 10 2 rs.length (rs.map f5) (.res .u8 a 3) (.res .u8 b 3)) (TT R10_2 10)) = true := by
  rw [show loop2 389 = body4 E2 cy2 [] 399 (loop2 388) exit2 fin2 from loop2_succ 388]
  rcases Nat.eq_or_lt_of_le h1 with h | h
  · rw [← h]
    rcases a with _ | _ | _ | a
    · rcases b with _ | _ | _ | b
      · exact exit10_2_0_0 _ _ _
      · exact exit10_2_0_1 _ _ _
      · exact exit10_2_0_2 _ _ _
      · omega
    · rcases b with _ | _ | _ | b
      · exact exit10_2_1_0 _ _ _
      · exact exit10_2_1_1 _ _ _
      · exact exit10_2_1_2 _ _ _
      · omega
    · rcases b with _ | _ | _ | b
      · exact exit10_2_2_0 _ _ _
      · exact exit10_2_2_1 _ _ _
      · exact exit10_2_2_2 _ _ _
      · omega
    · omega
  · obtain ⟨r0, r1, r2, r3, r4, r5, r6, r7, r8, r9, r10, t, rfl⟩ := un10 h
    have hk : r10 < 5 := hr r10 (by simp)
    rcases r10 with _ | _ | _ | _ | _ | r10
    · show isB (body4 E2 cy2 [] 399 (loop2 388) exit2 fin2 L (V2 10 2 (t.length + 11) (f5 r0 :: f5 r1 :: f5 r2 :: f5 r3 :: f5 r4 :: f5 r5 :: f5 r6 :: f5 r7 :: f5 r8 :: f5 r9 :: .res .u8 0 5 :: t.map f5) (.res .u8 a 3) (.res .u8 b 3)) (TT R10_2 10)) = true
      rw [step10_2_0]
      exact lp11_1 (r0 :: r1 :: r2 :: r3 :: r4 :: r5 :: r6 :: r7 :: r8 :: r9 :: 0 :: t) (by simp) h2 hr a b ha hb _
    · show isB (body4 E2 cy2 [] 399 (loop2 388) exit2 fin2 L (V2 10 2 (t.length + 11) (f5 r0 :: f5 r1 :: f5 r2 :: f5 r3 :: f5 r4 :: f5 r5 :: f5 r6 :: f5 r7 :: f5 r8 :: f5 r9 :: .res .u8 1 5 :: t.map f5) (.res .u8 a 3) (.res .u8 b 3)) (TT R10_2 10)) = true
      rw [step10_2_1]
      exact lp11_1 (r0 :: r1 :: r2 :: r3 :: r4 :: r5 :: r6 :: r7 :: r8 :: r9 :: 1 :: t) (by simp) h2 hr a b ha hb _
    · show isB (body4 E2 cy2 [] 399 (loop2 388) exit2 fin2 L (V2 10 2 (t.length + 11) (f5 r0 :: f5 r1 :: f5 r2 :: f5 r3 :: f5 r4 :: f5 r5 :: f5 r6 :: f5 r7 :: f5 r8 :: f5 r9 :: .res .u8 2 5 :: t.map f5) (.res .u8 a 3) (.res .u8 b 3)) (TT R10_2 10)) = true
      rw [step10_2_2]
      exact lp11_2 (r0 :: r1 :: r2 :: r3 :: r4 :: r5 :: r6 :: r7 :: r8 :: r9 :: 2 :: t) (by simp) h2 hr a b ha hb _
    · show isB (body4 E2 cy2 [] 399 (loop2 388) exit2 fin2 L (V2 10 2 (t.length + 11) (f5 r0 :: f5 r1 :: f5 r2 :: f5 r3 :: f5 r4 :: f5 r5 :: f5 r6 :: f5 r7 :: f5 r8 :: f5 r9 :: .res .u8 3 5 :: t.map f5) (.res .u8 a 3) (.res .u8 b 3)) (TT R10_2 10)) = true
      rw [step10_2_3]
      exact lp11_3 (r0 :: r1 :: r2 :: r3 :: r4 :: r5 :: r6 :: r7 :: r8 :: r9 :: 3 :: t) (by simp) h2 hr a b ha hb _
    · show isB (body4 E2 cy2 [] 399 (loop2 388) exit2 fin2 L (V2 10 2 (t.length + 11) (f5 r0 :: f5 r1 :: f5 r2 :: f5 r3 :: f5 r4 :: f5 r5 :: f5 r6 :: f5 r7 :: f5 r8 :: f5 r9 :: .res .u8 4 5 :: t.map f5) (.res .u8 a 3) (.res .u8 b 3)) (TT R10_2 10)) = true
      rw [step10_2_4]
      exact lp11_3 (r0 :: r1 :: r2 :: r3 :: r4 :: r5 :: r6 :: r7 :: r8 :: r9 :: 4 :: t) (by simp) h2 hr a b ha hb _
    · omega
theorem lp10_3 (rs : List Nat) (h1 : 10 ≤ rs.length) (h2 : rs.length ≤ 20) (hr : ∀ r ∈ rs, r < 5) (a b : Nat) (ha : a < 3) (hb : b < 3) (L : List AV) : isB (loop2 389 L (V2 10 3 rs.length (rs.map f5) (.res .u8 a 3) (.res .u8 b 3)) (TT R10_3 10)) = true := by
  rw [show loop2 389 = body4 E2 cy2 [] 399 (loop2 388) exit2 fin2 from loop2_succ 388]
  rcases Nat.eq_or_lt_of_le h1 with h | h
  · rw [← h]
    rcases a with _ | _ | _ | a
    · rcases b with _ | _ | _ | b
      · exact exit10_3_0_0 _ _ _
      · exact exit10_3_0_1 _ _ _
      · exact exit10_3_0_2 _ _ _
      · omega
    · rcases b with _ | _ | _ | b
      · exact exit10_3_1_0 _ _ _
      · exact exit10_3_1_1 _ _ _
      · exact exit10_3_1_2 _ _ _
      · omega
    · rcases b with _ | _ | _ | b
      · exact exit10_3_2_0 _ _ _
      · exact exit10_3_2_1 _ _ _
      · exact exit10_3_2_2 _ _ _
      · omega
    · omega
  · obtain ⟨r0, r1, r2, r3, r4, r5, r6, r7, r8, r9, r10, t, rfl⟩ := un10 h
    have hk : r10 < 5 := hr r10 (by simp)
    rcases r10 with _ | _ | _ | _ | _ | r10
    · show isB (body4 E2 cy2 [] 399 (loop2 388) exit2 fin2 L (V2 10 3 (t.length + 11) (f5 r0 :: f5 r1 :: f5 r2 :: f5 r3 :: f5 r4 :: f5 r5 :: f5 r6 :: f5 r7 :: f5 r8 :: f5 r9 :: .res .u8 0 5 :: t.map f5) (.res .u8 a 3) (.res .u8 b 3)) (TT R10_3 10)) = true
      rw [step10_3_0]
      exact lp11_1 (r0 :: r1 :: r2 :: r3 :: r4 :: r5 :: r6 :: r7 :: r8 :: r9 :: 0 :: t) (by simp) h2 hr a b ha hb _
    · show isB (body4 E2 cy2 [] 399 (loop2 388) exit2 fin2 L (V2 10 3 (t.length + 11) (f5 r0 :: f5 r1 :: f5 r2 :: f5 r3 :: f5 r4 :: f5 r5 :: f5 r6 :: f5 r7 :: f5 r8 :: f5 r9 :: .res .u8 1 5 :: t.map f5) (.res .u8 a 3) (.res .u8 b 3)) (TT R10_3 10)) = true
      rw [step10_3_1]
      exact lp11_1 (r0 :: r1 :: r2 :: r3 :: r4 :: r5 :: r6 :: r7 :: r8 :: r9 :: 1 :: t) (by simp) h2 hr a b ha hb _
    · show isB (body4 E2 cy2 [] 399 (loop2 388) exit2 fin2 L (V2 10 3 (t.length + 11) (f5 r0 :: f5 r1 :: f5 r2 :: f5 r3 :: f5 r4 :: f5 r5 :: f5 r6 :: f5 r7 :: f5 r8 :: f5 r9 :: .res .u8 2 5 :: t.map f5) (.res .u8 a 3) (.res .u8 b 3)) (TT R10_3 10)) = true
      rw [step10_3_2]
      exact lp11_2 (r0 :: r1 :: r2 :: r3 :: r4 :: r5 :: r6 :: r7 :: r8 :: r9 :: 2 :: t) (by simp) h2 hr a b ha hb _
    · show isB (body4 E2 cy2 [] 399 (loop2 388) exit2 fin2 L (V2 10 3 (t.length + 11) (f5 r0 :: f5 r1 :: f5 r2 :: f5 r3 :: f5 r4 :: f5 r5 :: f5 r6 :: f5 r7 :: f5 r8 :: f5 r9 :: .res .u8 3 5 :: t.map f5) (.res .u8 a 3) (.res .u8 b 3)) (TT R10_3 10)) = true
      rw [step10_3_3]
      exact lp11_3 (r0 :: r1 :: r2 :: r3 :: r4 :: r5 :: r6 :: r7 :: r8 :: r9 :: 3 :: t) (by simp) h2 hr a b ha hb _
    · show isB (body4 E2 cy2 [] 399 (loop2 388) exit2 fin2 L (V2 10 3 (t.length + 11) (f5 r0 :: f5 r1 :: f5 r2 :: f5 r3 :: f5 r4 :: f5 r5 :: f5 r6 :: f5 r7 :: f5 r8 :: f5 r9 :: .res .u8 4 5 :: t.map f5) (.res .u8 a 3) (.res .u8 b 3)) (TT R10_3 10)) = true
      rw [step10_3_4]
      exact lp11_3 (r0 :: r1 :: r2 :: r3 :: r4 :: r5 :: r6 :: r7 :: r8 :: r9 :: 4 :: t) (by simp) h2 hr a b ha hb _
    · omega
theorem lp9_1 (rs : List Nat) (h1 : 9 ≤ rs.length) (h2 : rs.length ≤ 20) (hr : ∀ r ∈ rs, r < 5) (a b : Nat) (ha : a < 3) (hb : b < 3) (L : List AV) : isB (loop2 390 L (V2 9 1 rs.length (rs.map f5) (.res .u8 a 3) (.res .u8 b 3)) (TT R9_1 9)) = true := by
  rw [show loop2 390 = body4 E2 cy2 [] 399 (loop2 389) exit2 fin2 from loop2_succ 389]
  rcases Nat.eq_or_lt_of_le h1 with h | h
  · rw [← h]
    rcases a with _ | _ | _ | a
    · rcases b with _ | _ | _ | b
      · exact exit9_1_0_0 _ _ _
      · exact exit9_1_0_1 _ _ _
      · exact exit9_1_0_2 _ _ _
      · omega
    · rcases b with _ | _ | _ | b
      · exact exit9_1_1_0 _ _ _
      · exact exit9_1_1_1 _ _ _
      · exact exit9_1_1_2 _ _ _
      · omega
    · rcases b with _ | _ | _ | b
      · exact exit9_1_2_0 _ _ _
      · exact exit9_1_2_1 _ _ _
      · exact exit9_1_2_2 _ _ _
      · omega
    · omega
  · obtain ⟨r0, r1, r2, r3, r4, r5, r6, r7, r8, r9, t, rfl⟩ := un9 h
    have hk : r9 < 5 := hr r9 (by simp)
    rcases r9 with _ | _ | _ | _ | _ | r9
    · show isB (body4 E2 cy2 [] 399 (loop2 389) exit2 fin2 L (V2 9 1 (t.length + 10) (f5 r0 :: f5 r1 :: f5 r2 :: f5 r3 :: f5 r4 :: f5 r5 :: f5 r6 :: f5 r7 :: f5 r8 :: .res .u8 0 5 :: t.map f5) (.res .u8 a 3) (.res .u8 b 3)) (TT R9_1 9)) = true
      rw [step9_1_0]
      exact lp10_1 (r0 :: r1 :: r2 :: r3 :: r4 :: r5 :: r6 :: r7 :: r8 :: 0 :: t) (by simp) h2 hr a b ha hb _
    · show isB (body4 E2 cy2 [] 399 (loop2 389) exit2 fin2 L (V2 9 1 (t.length + 10) (f5 r0 :: f5 r1 :: f5 r2 :: f5 r3 :: f5 r4 :: f5 r5 :: f5 r6 :: f5 r7 :: f5 r8 :: .res .u8 1 5 :: t.map f5) (.res .u8 a 3) (.res .u8 b 3)) (TT R9_1 9)) = true
      rw [step9_1_1]
      exact lp10_1 (r0 :: r1 :: r2 :: r3 :: r4 :: r5 :: r6 :: r7 :: r8 :: 1 :: t) (by simp) h2 hr a b ha hb _
    · show isB (body4 E2 cy2 [] 399 (loop2 389) exit2 fin2 L (V2 9 1 (t.length + 10) (f5 r0 :: f5 r1 :: f5 r2 :: f5 r3 :: f5 r4 :: f5 r5 :: f5 r6 :: f5 r7 :: f5 r8 :: .res .u8 2 5 :: t.map f5) (.res .u8 a 3) (.res .u8 b 3)) (TT R9_1 9)) = true
      rw [step9_1_2]
      exact lp10_2 (r0 :: r1 :: r2 :: r3 :: r4 :: r5 :: r6 :: r7 :: r8 :: 2 :: t) (by simp) h2 hr a b ha hb _
    · show isB (body4 E2 cy2 [] 399 (loop2 389) exit2 fin2 L (V2 9 1 (t.length + 10) (f5 r0 :: f5 r1 :: f5 r2 :: f5 r3 :: f5 r4 :: f5 r5 :: f5 r6 :: f5 r7 :: f5 r8 :: .res .u8 3 5 :: t.map f5) (.res .u8 a 3) (.res .u8 b 3)) (TT R9_1 9)) = true
      rw [step9_1_3]
      exact lp10_3 (r0 :: r1 :: r2 :: r3 :: r4 :: r5 :: r6 :: r7 :: r8 :: 3 :: t) (by simp) h2 hr a b ha hb _
    · show isB (body4 E2 cy2 [] 399 (loop2 389) exit2 fin2 L (V2 9 1 (t.length + 10) (f5 r0 :: f5 r1 :: f5 r2 :: f5 r3 :: f5 r4 :: f5 r5 :: f5 r6 :: f5 r7 :: f5 r8 :: .res .u8 4 5 :: t.map f5) (.res .u8 a 3) (.res .u8 b 3)) (TT R9_1 9)) = true
      rw [step9_1_4]
      exact lp10_3 (r0 :: r1 :: r2 :: r3 :: r4 :: r5 :: r6 :: r7 :: r8 :: 4 :: t) (by simp) h2 hr a b ha hb _
    · omega
theorem lp9_2 (rs : List Nat) (h1 : 9 ≤ rs.length) (h2 : rs.length ≤ 20) (hr : ∀ r ∈ rs, r < 5) (a b : Nat) (ha : a < 3) (hb : b < 3) (L : List AV) : isB (loop2 390 L (V2 9 2 rs.length (rs.map f5) (.res .u8 a 3) (.res .u8 b 3)) (TT R9_2 9)) = true := by
  rw [show loop2 390 = body4 E2 cy2 [] 399 (loop2 389) exit2 fin2 from loop2_succ 389]
  rcases Nat.eq_or_lt_of_le h1 with h | h
  · rw [← h]
    rcases a with _ | _ | _ | a
    · rcases b with _ | _ | _ | b
      · exact exit9_2_0_0 _ _ _
      · exact exit9_2_0_1 _ _ _
      · exact exit9_2_0_2 _ _ _
      · omega
    · rcases b with _ | _ | _ | b
      · exact exit9_2_1_0 _ _ _
      · exact exit9_2_1_1 _ _ _
      · exact exit9_2_1_2 _ _ _
      · omega
    · rcases b with _ | _ | _ | b
      · exact exit9_2_2_0 _ _ _
      · exact exit9_2_2_1 _ _ _
      · exact exit9_2_2_2 _ _ _
      · omega
    · omega
  · obtain ⟨r0, r1, r2, r3, r4, r5, r6, r7, r8, r9, t, rfl⟩ := un9 h
    have hk : r9 < 5 := hr r9 (by simp)
    rcases r9 with _ | _ | _ | _ | _ | r9
    · show isB (body4 E2 cy2 [] 399 (loop2 389) exit2 fin2 L (V2 9 2 (t.length + 10) (f5 r0 :: f5 r1 :: f5 r2 :: f5 r3 :: f5 r4 :: f5 r5 :: f5 r6 :: f5 r7 :: f5 r8 :: .res .u8 0 5 :: t.map f5) (.res .u8 a 3) (.res .u8 b 3)) (TT R9_2 9)) = true
      rw [step9_2_0]
      exact lp10_1 (r0 :: r1 :: r2 :: r3 :: r4 :: r5 :: r6 :: r7 :: r8 :: 0 :: t) (by simp) h2 hr a b ha hb _
    · show isB (body4 E2 cy2 [] 399 (loop2 389) exit2 fin2 L (V2 9 2 (t.length + 10) (f5 r0 :: f5 r1 :: f5 r2 :: f5 r3 :: f5 r4 :: f5 r5 :: f5 r6 :: f5 r7 :: f5 r8 :: .res .u8 1 5 :: t.map f5) (.res .u8 a 3) (.res .u8 b 3)) (TT R9_2 9)) = true
      rw [step9_2_1]
      exact lp10_1 (r0 :: r1 :: r2 :: r3 :: r4 :: r5 :: r6 :: r7 :: r8 :: 1 :: t) (by simp) h2 hr a b ha hb _
    · show isB (body4 E2 cy2 [] 399 (loop2 389) exit2 fin2 L (V2 9 2 (t.length + 10) (f5 r0 :: f5 r1 :: f5 r2 :: f5 r3 :: f5 r4 :: f5 r5 :: f5 r6 :: f5 r7 :: f5 r8 :: .res .u8 2 5 :: t.map f5) (.res .u8 a 3) (.res .u8 b 3)) (TT R9_2 9)) = true
      rw [step9_2_2]
      exact lp10_2 (r0 :: r1 :: r2 :: r3 :: r4 :: r5 :: r6 :: r7 :: r8 :: 2 :: t) (by simp) h2 hr a b ha hb _
    · show isB (body4 E2 cy2 [] 399 (loop2 389) exit2 fin2 L (V2 9 2 (t.length + 10) (f5 r0 :: f5 r1 :: f5 r2 :: f5 r3 :: f5 r4 :: f5 r5 :: f5 r6 :: f5 r7 :: f5 r8 :: .res .u8 3 5 :: t.map f5) (.res .u8 a 3) (.res .u8 b 3)) (TT R9_2 9)) = true
      rw [step9_2_3]
      exact lp10_3 (r0 :: r1 :: r2 :: r3 :: r4 :: r5 :: r6 :: r7 :: r8 :: 3 :: t) (by simp) h2 hr a b ha hb _
    · show isB (body4 E2 cy2 [] 399 (loop2 389) exit2 fin2 L (V2 9 2 (t.length + 10) (f5 r0 :: f5 r1 :: f5 r2 :: f5 r3 :: f5 r4 :: f5 r5 :: f5 r6 :: f5 r7 :: f5 r8 :: .res .u8 4 5 :: t.map f5) (.res .u8 a 3) (.res .u8 b 3)) (TT R9_2 9)) = true
      rw [step9_2_4]
      exact lp10_3 (r0 :: r1 :: r2 :: r3 :: r4 :: r5 :: r6 :: r7 :: r8 :: 4 :: t) (by simp) h2 hr a b ha hb _
    · omega
theorem lp9_3 (rs : List Nat) (h1 : 9 ≤ rs.length) (h2 : rs.length ≤ 20) (hr : ∀ r ∈ rs, r < 5) (a b : Nat) (ha : a < 3) (hb : b < 3) (L : List AV) : isB (loop2 390 L (V2 9 3 rs.length (rs.map f5) (.res .u8 a 3) (.res .u8 b 3)) (TT R9_3 9)) = true := by
  rw [show loop2 390 = body4 E2 cy2 [] 399 (loop2 389) exit2 fin2 from loop2_succ 389]
  rcases Nat.eq_or_lt_of_le h1 with h | h
  · rw [← h]
    rcases a with _ | _ | _ | a
    · rcases b with _ | _ | _ | b
      · exact exit9_3_0_0 _ _ _
      · exact exit9_3_0_1 _ _ _
      · exact exit9_3_0_2 _ _ _
      · omega
    · rcases b with _ | _ | _ | b
      · exact exit9_3_1_0 _ _ _
      · exact exit9_3_1_1 _ _ _
      · exact exit9_3_1_2 _ _ _
      · omega
    · rcases b with _ | _ | _ | b
      · exact exit9_3_2_0 _ _ _
      · exact exit9_3_2_1 _ _ _
      · exact exit9_3_2_2 _ _ _
      · omega
    · omega
  · obtain ⟨r0, r1, r2, r3, r4, r5, r6, r7, r8, r9, t, rfl⟩ := un9 h
    have hk : r9 < 5 := hr r9 (by simp)
    rcases r9 with _ | _ | _ | _ | _ | r9
    · show isB (body4 E2 cy2 [] 399 (loop2 389) exit2 fin2 L (V2 9 3 (t.length + 10) (f5 r0 :: f5 r1 :: f5 r2 :: f5 r3 :: f5 r4 :: f5 r5 :: f5 r6 :: f5 r7 :: f5 r8 :: .res .u8 0 5 :: t.map f5) (.res .u8 a 3) (.res .u8 b 3)) (TT R9_3 9)) = true
      rw [step9_3_0]
      exact lp10_1 (r0 :: r1 :: r2 :: r3 :: r4 :: r5 :: r6 :: r7 :: r8 :: 0 :: t) (by simp) h2 hr a b ha hb _
    · show isB (body4 E2 cy2 [] 399 (loop2 389) exit2 fin2 L (V2 9 3 (t.length + 10) (f5 r0 :: f5 r1 :: f5 r2 :: f5 r3 :: f5 r4 :: f5 r5 :: f5 r6 :: f5 r7 :: f5 r8 :: .res .u8 1 5 :: t.map f5) (.res .u8 a 3) (.res .u8 b 3)) (TT R9_3 9)) = true
      rw [step9_3_1]
      exact lp10_1 (r0 :: r1 :: r2 :: r3 :: r4 :: r5 :: r6 :: r7 :: r8 :: 1 :: t) (by simp) h2 hr a b ha hb _
    · show isB (body4 E2 cy2 [] 399 (loop2 389) exit2 fin2 L (V2 9 3 (t.length + 10) (f5 r0 :: f5 r1 :: f5 r2 :: f5 r3 :: f5 r4 :: f5 r5 :: f5 r6 :: f5 r7 :: f5 r8 :: .res .u8 2 5 :: t.map f5) (.res .u8 a 3) (.res .u8 b 3)) (TT R9_3 9)) = true
      rw [step9_3_2]
      exact lp10_2 (r0 :: r1 :: r2 :: r3 :: r4 :: r5 :: r6 :: r7 :: r8 :: 2 :: t) (by simp) h2 hr a b ha hb _
    · show isB (body4 E2 cy2 [] 399 (loop2 389) exit2 fin2 L (V2 9 3 (t.length + 10) (f5 r0 :: f5 r1 :: f5 r2 :: f5 r3 :: f5 r4 :: f5 r5 :: f5 r6 :: f5 r7 :: f5 r8 :: .res .u8 3 5 :: t.map f5) (.res .u8 a 3) (.res .u8 b 3)) (TT R9_3 9)) = true
      rw [step9_3_3]
      exact lp10_3 (r0 :: r1 :: r2 :: r3 :: r4 :: r5 :: r6 :: r7 :: r8 :: 3 :: t) (by simp) h2 hr a b ha hb _
    · show isB (body4 E2 cy2 [] 399 (loop2 389) exit2 fin2 L (V2 9 3 (t.length + 10) (f5 r0 :: f5 r1 :: f5 r2 :: f5 r3 :: f5 r4 :: f5 r5 :: f5 r6 :: f5 r7 :: f5 r8 :: .res .u8 4 5 :: t.map f5) (.res .u8 a 3) (.res .u8 b 3)) (TT R9_3 9)) = true
      rw [step9_3_4]
      exact lp10_3 (r0 :: r1 :: r2 :: r3 :: r4 :: r5 :: r6 :: r7 :: r8 :: 4 :: t) (by simp) h2 hr a b ha hb _
    · omega
theorem lp8_1 (rs : List Nat) (h1 : 8 ≤ rs.length) (h2 : rs.length ≤ 20) (hr : ∀ r ∈ rs, r < 5) (a b : Nat) (ha : a < 3) (hb : b < 3) (L : List AV) : isB (loop2 391 L (V2 8 1 rs.length (rs.map f5) (.res .u8 a 3) (.res .u8 b 3)) (TT R8_1 8)) = true := by
  rw [show loop2 391 = body4 E2 cy2 [] 399 (loop2 390) exit2 fin2 from loop2_succ 390]
  rcases Nat.eq_or_lt_of_le h1 with h | h
  · rw [← h]
    rcases a with _ | _ | _ | a
    · rcases b with _ | _ | _ | b
      · exact exit8_1_0_0 _ _ _
      · exact exit8_1_0_1 _ _ _
      · exact exit8_1_0_2 _ _ _
      · omega
    · rcases b with _ | _ | _ | b
      · exact exit8_1_1_0 _ _ _
      · exact exit8_1_1_1 _ _ _
      · exact exit8_1_1_2 _ _ _
      · omega
    · rcases b with _ | _ | _ | b
      · exact exit8_1_2_0 _ _ _
      · exact exit8_1_2_1 _ _ _
      · exact exit8_1_2_2 _ _ _
      · omega
    · omega
  · obtain ⟨r0, r1, r2, r3, r4, r5, r6, r7, r8, t, rfl⟩ := un8 h
    have hk : r8 < 5 := hr r8 (by simp)
    rcases r8 with _ | _ | _ | _ | _ | r8
    · show isB (body4 E2 cy2 [] 399 (loop2 390) exit2 fin2 L (V2 8 1 (t.length + 9) (f5 r0 :: f5 r1 :: f5 r2 :: f5 r3 :: f5 r4 :: f5 r5 :: f5 r6 :: f5 r7 :: .res .u8 0 5 :: t.map f5) (.res .u8 a 3) (.res .u8 b 3)) (TT R8_1 8)) = true
      rw [step8_1_0]
      exact lp9_1 (r0 :: r1 :: r2 :: r3 :: r4 :: r5 :: r6 :: r7 :: 0 :: t) (by simp) h2 hr a b ha hb _
    · show isB (body4 E2 cy2 [] 399 (loop2 390) exit2 fin2 L (V2 8 1 (t.length + 9) (f5 r0 :: f5 r1 :: f5 r2 :: f5 r3 :: f5 r4 :: f5 r5 :: f5 r6 :: f5 r7 :: .res .u8 1 5 :: t.map f5) (.res .u8 a 3) (.res .u8 b 3)) (TT R8_1 8)) = true
      rw [step8_1_1]
      exact lp9_1 (r0 :: r1 :: r2 :: r3 :: r4 :: r5 :: r6 :: r7 :: 1 :: t) (by simp) h2 hr a b ha hb _
    · show isB (body4 E2 cy2 [] 399 (loop2 390) exit2 fin2 L (V2 8 1 (t.length + 9) (f5 r0 :: f5 r1 :: f5 r2 :: f5 r3 :: f5 r4 :: f5 r5 :: f5 r6 :: f5 r7 :: .res .u8 2 5 :: t.map f5) (.res .u8 a 3) (.res .u8 b 3)) (TT R8_1 8)) = true
      rw [step8_1_2]
      exact lp9_2 (r0 :: r1 :: r2 :: r3 :: r4 :: r5 :: r6 :: r7 :: 2 :: t) (by simp) h2 hr a b ha hb _
    · show isB (body4 E2 cy2 [] 399 (loop2 390) exit2 fin2 L (V2 8 1 (t.length + 9) (f5 r0 :: f5 r1 :: f5 r2 :: f5 r3 :: f5 r4 :: f5 r5 :: f5 r6 :: f5 r7 :: .res .u8 3 5 :: t.map f5) (.res .u8 a 3) (.res .u8 b 3)) (TT R8_1 8)) = true
      rw [step8_1_3]
      exact lp9_3 (r0 :: r1 :: r2 :: r3 :: r4 :: r5 :: r6 :: r7 :: 3 :: t) (by simp) h2 hr a b ha hb _
    · show isB (body4 E2 cy2 [] 399 (loop2 390) exit2 fin2 L (V2 8 1 (t.length + 9) (f5 r0 :: f5 r1 :: f5 r2 :: f5 r3 :: f5 r4 :: f5 r5 :: f5 r6 :: f5 r7 :: .res .u8 4 5 :: t.map f5) (.res .u8 a 3) (.res .u8 b 3)) (TT R8_1 8)) = true
      rw [step8_1_4]
      exact lp9_3 (r0 :: r1 :: r2 :: r3 :: r4 :: r5 :: r6 :: r7 :: 4 :: t) (by simp) h2 hr a b ha hb _
    · omega
theorem lp8_2 (rs : List Nat) (h1 : 8 ≤ rs.length) (h2 : rs.length ≤ 20) (hr : ∀ r ∈ rs, r < 5) (a b : Nat) (ha : a < 3) (hb : b < 3) (L : List AV) : isB (loop2 391 L (V2 8 2 rs.length (rs.map f5) (.res .u8 a 3) (.res .u8 b 3)) (TT R8_2 8)) = true := by
  rw [show loop2 391 = body4 E2 cy2 [] 399 (loop2 390) exit2 fin2 from loop2_succ 390]
  rcases Nat.eq_or_lt_of_le h1 with h | h
  · rw [← h]
    rcases a with _ | _ | _ | a
    · rcases b with _ | _ | _ | b
      · exact exit8_2_0_0 _ _ _
      · exact exit8_2_0_1 _ _ _
      · exact exit8_2_0_2 _ _ _
      · omega
    · rcases b with _ | _ | _ | b
      · exact exit8_2_1_0 _ _ _
      · exact exit8_2_1_1 _ _ _
      · exact exit8_2_1_2 _ _ _
      · omega
    · rcases b with _ | _ | _ | b
      · exact exit8_2_2_0 _ _ _
      · exact exit8_2_2_1 _ _ _
      · exact exit8_2_2_2 _ _ _
      · omega
    · omega
  · obtain ⟨r0, r1, r2, r3, r4, r5, r6, r7, r8, t, rfl⟩ := un8 h
    have hk : r8 < 5 := hr r8 (by simp)
    rcases r8 with _ | _ | _ | _ | _ | r8
    · show isB (body4 E2 cy2 [] 399 (loop2 390) exit2 fin2 L (V2 8 2 (t.length + 9) (f5 r0 :: f5 r1 :: f5 r2 :: f5 r3 :: f5 r4 :: f5 r5 :: f5 r6 :: f5 r7 :: .res .u8 0 5 :: t.map f5) (.res .u8 a 3) (.res .u8 b 3)) (TT R8_2 8)) = true
      rw [step8_2_0]
      exact lp9_1 (r0 :: r1 :: r2 :: r3 :: r4 :: r5 :: r6 :: r7 :: 0 :: t) (by simp) h2 hr a b ha hb _
    · show isB (body4 E2 cy2 [] 399 (loop2 390) exit2 fin2 L (V2 8 2 (t.length + 9) (f5 r0 :: f5 r1 :: f5 r2 :: f5 r3 :: f5 r4 :: f5 r5 :: f5 r6 :: f5 r7 :: .res .u8 1 5 :: t.map f5) (.res .u8 a 3) (.res .u8 b 3)) (TT R8_2 8)) = true
      rw [step8_2_1]
      exact lp9_1 (r0 :: r1 :: r2 :: r3 :: r4 :: r5 :: r6 :: r7 :: 1 :: t) (by simp) h2 hr a b ha hb _
    · show isB (body4 E2 cy2 [] 399 (loop2 390) exit2 fin2 L (V2 8 2 (t.length + 9) (f5 r0 :: f5 r1 :: f5 r2 :: f5 r3 :: f5 r4 :: f5 r5 :: f5 r6 :: f5 r7 :: .res .u8 2 5 :: t.map f5) (.res .u8 a 3) (.res .u8 b 3)) (TT R8_2 8)) = true
      rw [step8_2_2]
      exact lp9_2 (r0 :: r1 :: r2 :: r3 :: r4 :: r5 :: r6 :: r7 :: 2 :: t) (by simp) h2 hr a b ha hb _
    · show isB (body4 E2 cy2 [] 399 (loop2 390) exit2 fin2 L (V2 8 2 (t.length + 9) (f5 r0 :: f5 r1 :: f5 r2 :: f5 r3 :: f5 r4 :: f5 r5 :: f5 r6 :: f5 r7 :: .res .u8 3 5 :: t.map f5) (.res .u8 a 3) (.res .u8 b 3)) (TT R8_2 8)) = true
      rw [step8_2_3]
      exact lp9_3 (r0 :: r1 :: r2 :: r3 :: r4 :: r5 :: r6 :: r7 :: 3 :: t) (by simp) h2 hr a b ha hb _
    · show isB (body4 E2 cy2 [] 399 (loop2 390) exit2 fin2 L (V2 8 2 (t.length + 9) (f5 r0 :: f5 r1 :: f5 r2 :: f5 r3 :: f5 r4 :: f5 r5 :: f5 r6 :: f5 r7 :: .res .u8 4 5 :: t.map f5) (.res .u8 a 3) (.res .u8 b 3)) (TT R8_2 8)) = true
      rw [step8_2_4]
      exact lp9_3 (r0 :: r1 :: r2 :: r3 :: r4 :: r5 :: r6 :: r7 :: 4 :: t) (by simp) h2 hr a b ha hb _
    · omega
theorem lp8_3 (rs : List Nat) (h1 : 8 ≤ rs.length) (h2 : rs.length ≤ 20) (hr : ∀ r ∈ rs, r < 5) (a b : Nat) (ha : a < 3) (hb : b < 3) (L : List AV) : isB (loop2 391 L (V2 8 3 rs.length (rs.map f5) (.res .u8 a 3) (.res .u8 b 3)) (TT R8_3 8)) = true := by
  rw [show loop2 391 = body4 E2 cy2 [] 399 (loop2 390) exit2 fin2 from loop2_succ 390]
  rcases Nat.eq_or_lt_of_le h1 with h | h
  · rw [← h]
    rcases a with _ | _ | _ | a
    · rcases b with _ | _ | _ | b
      · exact exit8_3_0_0 _ _ _
      · exact exit8_3_0_1 _ _ _
      · exact exit8_3_0_2 _ _ _
      · omega
    · rcases b with _ | _ | _ | b
      · exact exit8_3_1_0 _ _ _
      · exact exit8_3_1_1 _ _ _
      · exact exit8_3_1_2 _ _ _
      · omega
    · rcases b with _ | _ | _ | b
      · exact exit8_3_2_0 _ _ _
      · exact exit8_3_2_1 _ _ _
      · exact exit8_3_2_2 _ _ _
      · omega
    · omega
  · obtain ⟨r0, r1, r2, r3, r4, r5, r6, r7, r8, t, rfl⟩ := un8 h
    have hk : r8 < 5 := hr r8 (by simp)
    rcases r8 with _ | _ | _ | _ | _ | r8
    · show isB (body4 E2 cy2 [] 399 (loop2 390) exit2 fin2 L (V2 8 3 (t.length + 9) (f5 r0 :: f5 r1 :: f5 r2 :: f5 r3 :: f5 r4 :: f5 r5 :: f5 r6 :: f5 r7 :: .res .u8 0 5 :: t.map f5) (.res .u8 a 3) (.res .u8 b 3)) (TT R8_3 8)) = true
      rw [step8_3_0]
      exact lp9_1 (r0 :: r1 :: r2 :: r3 :: r4 :: r5 :: r6 :: r7 :: 0 :: t) (by simp) h2 hr a b ha hb _
    · show isB (body4 E2 cy2 [] 399 (loop2 390) exit2 fin2 L (V2 8 3 (t.length + 9) (f5 r0 :: f5 r1 :: f5 r2 :: f5 r3 :: f5 r4 :: f5 r5 :: f5 r6 :: f5 r7 :: .res .u8 1 5 :: t.map f5) (.res .u8 a 3) (.res .u8 b 3)) (TT R8_3 8)) = true
      rw [step8_3_1]
      exact lp9_1 (r0 :: r1 :: r2 :: r3 :: r4 :: r5 :: r6 :: r7 :: 1 :: t) (by simp) h2 hr a b ha hb _
    · show isB (body4 E2 cy2 [] 399 (loop2 390) exit2 fin2 L (V2 8 3 (t.length + 9) (f5 r0 :: f5 r1 :: f5 r2 :: f5 r3 :: f5 r4 :: f5 r5 :: f5 r6 :: f5 r7 :: .res .u8 2 5 :: t.map f5) (.res .u8 a 3) (.res .u8 b 3)) (TT R8_3 8)) = true
      rw [step8_3_2]
      exact lp9_2 (r0 :: r1 :: r2 :: r3 :: r4 :: r5 :: r6 :: r7 :: 2 :: t) (by simp) h2 hr a b ha hb _
    · show isB (body4 E2 cy2 [] 399 (loop2 390) exit2 fin2 L (V2 8 3 (t.length + 9) (f5 r0 :: f5 r1 :: f5 r2 :: f5 r3 :: f5 r4 :: f5 r5 :: f5 r6 :: f5 r7 :: .res .u8 3 5 :: t.map f5) (.res .u8 a 3) (.res .u8 b 3)) (TT R8_3 8)) = true
      rw [step8_3_3]
      exact lp9_3 (r0 :: r1 :: r2 :: r3 :: r4 :: r5 :: r6 :: r7 :: 3 :: t) (by simp) h2 hr a b ha hb _
    · show isB (body4 E2 cy2 [] 399 (loop2 390) exit2 fin2 L (V2 8 3 (t.length + 9) (f5 r0 :: f5 r1 :: f5 r2 :: f5 r3 :: f5 r4 :: f5 r5 :: f5 r6 :: f5 r7 :: .res .u8 4 5 :: t.map f5) (.res .u8 a 3) (.res .u8 b 3)) (TT R8_3 8)) = true
      rw [step8_3_4]
      exact lp9_3 (r0 :: r1 :: r2 :: r3 :: r4 :: r5 :: r6 :: r7 :: 4 :: t) (by simp) h2 hr a b ha hb _
    · omega
theorem lp7_1 (rs : List Nat) (h1 : 7 ≤ rs.length) (h2 : rs.length ≤ 20) (hr : ∀ r ∈ rs, r < 5) (a b : Nat) (ha : a < 3) (hb : b < 3) (L : List AV) : isB (loop2 392 L (V2 7 1 rs.length (rs.map f5) (.res .u8 a 3) (.res .u8 b 3)) (TT R7_1 7)) = true := by
  rw [show loop2 392 = body4 E2 cy2 [] 399 (loop2 391) exit2 fin2 from loop2_succ 391]
  rcases Nat.eq_or_lt_of_le h1 with h | h
  · rw [← h]
    rcases a with _ | _ | _ | a
    · rcases b with _ | _ | _ | b
      · exact exit7_1_0_0 _ _ _
      · exact exit7_1_0_1 _ _ _
      · exact exit7_1_0_2 _ _ _
      · omega
    · rcases b with _ | _ | _ | b
      · exact exit7_1_1_0 _ _ _
      · exact exit7_1_1_1 _ _ _
      · exact exit7_1_1_2 _ _ _
      · omega
    · rcases b with _ | _ | _ | b
      · exact exit7_1_2_0 _ _ _
      · exact exit7_1_2_1 _ _ _
      · exact exit7_1_2_2 _ _ _
      · omega
    · omega
  · obtain ⟨r0, r1, r2, r3, r4, r5, r6, r7, t, rfl⟩ := un7 h
    have hk : r7 < 5 := hr r7 (by simp)
    rcases r7 with _ | _ | _ | _ | _ | r7
    · show isB (body4 E2 cy2 [] 399 (loop2 391) exit2 fin2 L (V2 7 1 (t.length + 8) (f5 r0 :: f5 r1 :: f5 r2 :: f5 r3 :: f5 r4 :: f5 r5 :: f5 r6 :: .res .u8 0 5 :: t.map f5) (.res .u8 a 3) (.res .u8 b 3)) (TT R7_1 7)) = true
      rw [step7_1_0]
      exact lp8_1 (r0 :: r1 :: r2 :: r3 :: r4 :: r5 :: r6 :: 0 :: t) (by simp) h2 hr a b ha hb _
    · show isB (body4 E2 cy2 [] 399 (loop2 391) exit2 fin2 L (V2 7 1 (t.length + 8) (f5 r0 :: f5 r1 :: f5 r2 :: f5 r3 :: f5 r4 :: f5 r5 :: f5 r6 :: .res .u8 1 5 :: t.map f5) (.res .u8 a 3) (.res .u8 b 3)) (TT R7_1 7)) = true
      rw [step7_1_1]
      exact lp8_1 (r0 :: r1 :: r2 :: r3 :: r4 :: r5 :: r6 :: 1 :: t) (by simp) h2 hr a b ha hb _
    · show isB (body4 E2 cy2 [] 399 (loop2 391) exit2 fin2 L (V2 7 1 (t.length + 8) (f5 r0 :: f5 r1 :: f5 r2 :: f5 r3 :: f5 r4 :: f5 r5 :: f5 r6 :: .res .u8 2 5 :: t.map f5) (.res .u8 a 3) (.res .u8 b 3)) (TT R7_1 7)) = true
      rw [step7_1_2]
      exact lp8_2 (r0 :: r1 :: r2 :: r3 :: r4 :: r5 :: r6 :: 2 :: t) (by simp) h2 hr a b ha hb _
    · show isB (body4 E2 cy2 [] 399 (loop2 391) exit2 fin2 L (V2 7 1 (t.length + 8) (f5 r0 :: f5 r1 :: f5 r2 :: f5 r3 :: f5 r4 :: f5 r5 :: f5 r6 :: .res .u8 3 5 :: t.map f5) (.res .u8 a 3) (.res .u8 b 3)) (TT R7_1 7)) = true
      rw [step7_1_3]
      exact lp8_3 (r0 :: r1 :: r2 :: r3 :: r4 :: r5 :: r6 :: 3 :: t) (by simp) h2 hr a b ha hb _
    · show isB (body4 E2 cy2 [] 399 (loop2 391) exit2 fin2 L (V2 7 1 (t.length + 8) (f5 r0 :: f5 r1 :: f5 r2 :: f5 r3 :: f5 r4 :: f5 r5 :: f5 r6 :: .res .u8 4 5 :: t.map f5) (.res .u8 a 3) (.res .u8 b 3)) (TT R7_1 7)) = true
      rw [step7_1_4]
      exact lp8_3 (r0 :: r1 :: r2 :: r3 :: r4 :: r5 :: r6 :: 4 :: t) (by simp) h2 hr a b ha hb _
    · omega
theorem lp7_2 (rs : List Nat) (h1 : 7 ≤ rs.length) (h2 : rs.length ≤ 20) (hr : ∀ r ∈ rs, r < 5) (a b : Nat) (ha : a < 3) (hb : b < 3) (L : List AV) : isB (loop2 392 L (V2 7 2 rs.length (rs.map f5) (.res .u8 a 3) (.res .u8 b 3)) (TT R7_2 7)) = true := by
  rw [show loop2 392 = body4 E2 cy2 [] 399 (loop2 391) exit2 fin2 from loop2_succ 391]
  rcases Nat.eq_or_lt_of_le h1 with h | h
  · rw [← h]
    rcases a with _ | _ | _ | a
    · rcases b with _ | _ | _ | b
      · exact exit7_2_0_0 _ _ _
      · exact exit7_2_0_1 _ _ _
      · exact exit7_2_0_2 _ _ _
      · omega
    · rcases b with _ | _ | _ | b
      · exact exit7_2_1_0 _ _ _
      · exact exit7_2_1_1 _ _ _
      · exact exit7_2_1_2 _ _ _
      · omega
    · rcases b with _ | _ | _ | b
      · exact exit7_2_2_0 _ _ _
      · exact exit7_2_2_1 _ _ _
      · exact exit7_2_2_2 _ _ _
      · omega
    · omega
  · obtain ⟨r0, r1, r2, r3, r4, r5, r6, r7, t, rfl⟩ := un7 h
    have hk : r7 < 5 := hr r7 (by simp)
    rcases r7 with _ | _ | _ | _ | _ | r7
    · show isB (body4 E2 cy2 [] 399 (loop2 391) exit2 fin2 L (V2 7 2 (t.length + 8) (f5 r0 :: f5 r1 :: f5 r2 :: f5 r3 :: f5 r4 :: f5 r5 :: f5 r6 :: .res .u8 0 5 :: t.map f5) (.res .u8 a 3) (.res .u8 b 3)) (TT R7_2 7)) = true
      rw [step7_2_0]
      exact lp8_1 (r0 :: r1 :: r2 :: r3 :: r4 :: r5 :: r6 :: 0 :: t) (by simp) h2 hr a b ha hb _
    · show isB (body4 E2 cy2 [] 399 (loop2 391) exit2 fin2 L (V2 7 2 (t.length + 8) (f5 r0 :: f5 r1 :: f5 r2 :: f5 r3 :: f5 r4 :: f5 r5 :: f5 r6 :: .res .u8 1 5 :: t.map f5) (.res .u8 a 3) (.res .u8 b 3)) (TT R7_2 7)) = true
      rw [step7_2_1]
      exact lp8_1 (r0 :: r1 :: r2 :: r3 :: r4 :: r5 :: r6 :: 1 :: t) (by simp) h2 hr a b ha hb _
    · show isB (body4 E2 cy2 [] 399 (loop2 391) exit2 fin2 L (V2 7 2 (t.length + 8) (f5 r0 :: f5 r1 :: f5 r2 :: f5 r3 :: f5 r4 :: f5 r5 :: f5 r6 :: .res .u8 2 5 :: t.map f5) (.res .u8 a 3) (.res .u8 b 3)) (TT R7_2 7)) = true
      rw [step7_2_2]
      exact lp8_2 (r0 :: r1 :: r2 :: r3 :: r4 :: r5 :: r6 :: 2 :: t) (by simp) h2 hr a b ha hb _
    · show isB (body4 E2 cy2 [] 399 (loop2 391) exit2 fin2 L (V2 7 2 (t.length + 8) (f5 r0 :: f5 r1 :: f5 r2 :: f5 r3 :: f5 r4 :: f5 r5 :: f5 r6 :: .res .u8 3 5 :: t.map f5) (.res .u8 a 3) (.res .u8 b 3)) (TT R7_2 7)) = true
      rw [step7_2_3]
      exact lp8_3 (r0 :: r1 :: r2 :: r3 :: r4 :: r5 :: r6 :: 3 :: t) (by simp) h2 hr a b ha hb _
    · show isB (body4 E2 cy2 [] 399 (loop2 391) exit2 fin2 L (V2 7 2 (t.length + 8) (f5 r0 :: f5 r1 :: f5 r2 :: f5 r3 :: f5 r4 :: f5 r5 :: f5 r6 :: .res .u8 4 5 :: t.map f5) (.res .u8 a 3) (.res .u8 b 3)) (TT R7_2 7)) = true
      rw [step7_2_4]
      exact lp8_3 (r0 :: r1 :: r2 :: r3 :: r4 :: r5 :: r6 :: 4 :: t) (by simp) h2 hr a b ha hb _
    · omega
theorem lp7_3 (rs : List Nat) (h1 : 7 ≤ rs.length) (h2 : rs.length ≤ 20) (hr : ∀ r ∈ rs, r < 5) (a b : Nat) (ha : a < 3) (hb : b < 3) (L : List AV) : isB (loop2 392 L (V2 7 3 rs.length (rs.map f5) (.res .u8 a 3) (.res .u8 b 3)) (TT R7_3 7)) = true := by
  rw [show loop2 392 = body4 E2 cy2 [] 399 (loop2 391) exit2 fin2 from loop2_succ 391]
  rcases Nat.eq_or_lt_of_le h1 with h | h
  · rw [← h]
    rcases a with _ | _ | _ | a
    · rcases b with _ | _ | _ | b
      · exact exit7_3_0_0 _ _ _
      · exact exit7_3_0_1 _ _ _
      · exact exit7_3_0_2 _ _ _
      · omega
    · rcases b with _ | _ | _ | b
      · exact exit7_3_1_0 _ _ _
      · exact exit7_3_1_1 _ _ _
      · exact exit7_3_1_2 _ _ _
      · omega
    · rcases b with _ | _ | _ | b
      · exact exit7_3_2_0 _ _ _
      · exact exit7_3_2_1 _ _ _
      · exact exit7_3_2_2 _ _ _
      · omega
    · omega
  · obtain ⟨r0, r1, r2, r3, r4, r5, r6, r7, t, rfl⟩ := un7 h
    have hk : r7 < 5 := hr r7 (by simp)
    rcases r7 with _ | _ | _ | _ | _ | r7
    · show isB (body4 E2 cy2 [] 399 (loop2 391) exit2 fin2 L (V2 7 3 (t.length + 8) (f5 r0 :: f5 r1 :: f5 r2 :: f5 r3 :: f5 r4 :: f5 r5 :: f5 r6 :: .res .u8 0 5 :: t.map f5) (.res .u8 a 3) (.res .u8 b 3)) (TT R7_3 7)) = true
      rw [step7_3_0]
      exact lp8_1 (r0 :: r1 :: r2 :: r3 :: r4 :: r5 :: r6 :: 0 :: t) (by simp) h2 hr a b ha hb _
    · show isB (body4 E2 cy2 [] 399 (loop2 391) exit2 fin2 L (V2 7 3 (t.length + 8) (f5 r0 :: f5 r1 :: f5 r2 :: f5 r3 :: f5 r4 :: f5 r5 :: f5 r6 :: .res .u8 1 5 :: t.map f5) (.res .u8 a 3) (.res .u8 b 3)) (TT R7_3 7)) = true
      rw [step7_3_1]
      exact lp8_1 (r0 :: r1 :: r2 :: r3 :: r4 :: r5 :: r6 :: 1 :: t) (by simp) h2 hr a b ha hb _
    · show isB (body4 E2 cy2 [] 399 (loop2 391) exit2 fin2 L (V2 7 3 (t.length + 8) (f5 r0 :: f5 r1 :: f5 r2 :: f5 r3 :: f5 r4 :: f5 r5 :: f5 r6 :: .res .u8 2 5 :: t.map f5) (.res .u8 a 3) (.res .u8 b 3)) (TT R7_3 7)) = true
      rw [step7_3_2]
      exact lp8_2 (r0 :: r1 :: r2 :: r3 :: r4 :: r5 :: r6 :: 2 :: t) (by simp) h2 hr a b ha hb _
    · show isB (body4 E2 cy2 [] 399 (loop2 391) exit2 fin2 L (V2 7 3 (t.length + 8) (f5 r0 :: f5 r1 :: f5 r2 :: f5 r3 :: f5 r4 :: f5 r5 :: f5 r6 :: .res .u8 3 5 :: t.map f5) (.res .u8 a 3) (.res .u8 b 3)) (TT R7_3 7)) = true
      rw [step7_3_3]
      exact lp8_3 (r0 :: r1 :: r2 :: r3 :: r4 :: r5 :: r6 :: 3 :: t) (by simp) h2 hr a b ha hb _
    · show isB (body4 E2 cy2 [] 399 (loop2 391) exit2 fin2 L (V2 7 3 (t.length + 8) (f5 r0 :: f5 r1 :: f5 r2 :: f5 r3 :: f5 r4 :: f5 r5 :: f5 r6 :: .res .u8 4 5 :: t.map f5) (.res .u8 a 3) (.res .u8 b 3)) (TT R7_3 7)) = true
      rw [step7_3_4]
      exact lp8_3 (r0 :: r1 :: r2 :: r3 :: r4 :: r5 :: r6 :: 4 :: t) (by simp) h2 hr a b ha hb _
    · omega
theorem lp6_1 (rs : List Nat) (h1 : 6 ≤ rs.length) (h2 : rs.length ≤ 20) (hr : ∀ r ∈ rs, r < 5) (a b : Nat) (ha : a < 3) (hb : b < 3) (L : List AV) : isB (loop2 393 L (V2 6 1 rs.length (rs.map f5) (.res .u8 a 3) (.res .u8 b 3)) (TT R6_1 6)) = true := by
  rw [show loop2 393 = body4 E2 cy2 [] 399 (loop2 392) exit2 fin2 from loop2_succ 392]
  rcases Nat.eq_or_lt_of_le h1 with h | h
  · rw [← h]
    rcases a with _ | _ | _ | a
    · rcases b with _ | _ | _ | b
      · exact exit6_1_0_0 _ _ _
      · exact exit6_1_0_1 _ _ _
      · exact exit6_1_0_2 _ _ _
      · omega
    · rcases b with _ | _ | _ | b
      · exact exit6_1_1_0 _ _ _
      · exact exit6_1_1_1 _ _ _
      · exact exit6_1_1_2 _ _ _
      · omega
    · rcases b with _ | _ | _ | b
      · exact exit6_1_2_0 _ _ _
      · exact exit6_1_2_1 _ _ _
      · exact exit6_1_2_2 _ _ _
      · omega
    · omega
  · obtain ⟨r0, r1, r2, r3, r4, r5, r6, t, rfl⟩ := un6 h
    have hk : r6 < 5 := hr r6 (by simp)
    rcases r6 with _ | _ | _ | _ | _ | r6
    · show isB (body4 E2 cy2 [] 399 (loop2 392) exit2 fin2 L (V2 6 1 (t.length + 7) (f5 r0 :: f5 r1 :: f5 r2 :: f5 r3 :: f5 r4 :: f5 r5 :: .res .u8 0 5 :: t.map f5) (.res .u8 a 3) (.res .u8 b 3)) (TT R6_1 6)) = true
      rw [step6_1_0]
      exact lp7_1 (r0 :: r1 :: r2 :: r3 :: r4 :: r5 :: 0 :: t) (by simp) h2 hr a b ha hb _
    · show isB (body4 E2 cy2 [] 399 (loop2 392) exit2 fin2 L (V2 6 1 (t.length + 7) (f5 r0 :: f5 r1 :: f5 r2 :: f5 r3 :: f5 r4 :: f5 r5 :: .res .u8 1 5 :: t.map f5) (.res .u8 a 3) (.res .u8 b 3)) (TT R6_1 6)) = true
      rw [step6_1_1]
      exact lp7_1 (r0 :: r1 :: r2 :: r3 :: r4 :: r5 :: 1 :: t) (by simp) h2 hr a b ha hb _
    · show isB (body4 E2 cy2 [] 399 (loop2 392) exit2 fin2 L (V2 6 1 (t.length + 7) (f5 r0 :: f5 r1 :: f5 r2 :: f5 r3 :: f5 r4 :: f5 r5 :: .res .u8 2 5 :: t.map f5) (.res .u8 a 3) (.res .u8 b 3)) (TT R6_1 6)) = true
      rw [step6_1_2]
      exact lp7_2 (r0 :: r1 :: r2 :: r3 :: r4 :: r5 :: 2 :: t) (by simp) h2 hr a b ha hb _
    · show isB (body4 E2 cy2 [] 399 (loop2 392) exit2 fin2 L (V2 6 1 (t.length + 7) (f5 r0 :: f5 r1 :: f5 r2 :: f5 r3 :: f5 r4 :: f5 r5 :: .res .u8 3 5 :: t.map f5) (.res .u8 a 3) (.res .u8 b 3)) (TT R6_1 6)) = true
      rw [step6_1_3]
      exact lp7_3 (r0 :: r1 :: r2 :: r3 :: r4 :: r5 :: 3 :: t) (by simp) h2 hr a b ha hb _
    · show isB (body4 E2 cy2 [] 399 (loop2 392) exit2 fin2 L (V2 6 1 (t.length + 7) (f5 r0 :: f5 r1 :: f5 r2 :: f5 r3 :: f5 r4 :: f5 r5 :: .res .u8 4 5 :: t.map f5) (.res .u8 a 3) (.res .u8 b 3)) (TT R6_1 6)) = true
      rw [step6_1_4]
      exact lp7_3 (r0 :: r1 :: r2 :: r3 :: r4 :: r5 :: 4 :: t) (by simp) h2 hr a b ha hb _
    · omega
theorem lp6_2 (rs : List Nat) (h1 : 6 ≤ rs.length) (h2 : rs.length ≤ 20) (hr : ∀ r ∈ rs, r < 5) (a b : Nat) (ha : a < 3) (hb : b < 3) (L : List AV) : isB (loop2 393 L (V2 6 2 rs.length (rs.map f5) (.res .u8 a 3) (.res .u8 b 3)) (TT R6_2 6)) = true := by
  rw [show loop2 393 = body4 E2 cy2 [] 399 (loop2 392) exit2 fin2 from loop2_succ 392]
  rcases Nat.eq_or_lt_of_le h1 with h | h
  · rw [← h]
    rcases a with _ | _ | _ | a
    · rcases b with _ | _ | _ | b
      · exact exit6_2_0_0 _ _ _
      · exact exit6_2_0_1 _ _ _
      · exact exit6_2_0_2 _ _ _
      · omega
    · rcases b with _ | _ | _ | b
      · exact exit6_2_1_0 _ _ _
      · exact exit6_2_1_1 _ _ _
      · exact exit6_2_1_2 _ _ _
      · omega
    · rcases b with _ | _ | _ | b
      · exact exit6_2_2_0 _ _ _
      · exact exit6_2_2_1 _ _ _
      · exact exit6_2_2_2 _ _ _
      · omega
    · omega
  · obtain ⟨r0, r1, r2, r3, r4, r5, r6, t, rfl⟩ := un6 h
    have hk : r6 < 5 := hr r6 (by simp)
    rcases r6 with _ | _ | _ | _ | _ | r6
    · show isB (body4 E2 cy2 [] 399 (loop2 392) exit2 fin2 L (V2 6 2 (t.length + 7) (f5 r0 :: f5 r1 :: f5 r2 :: f5 r3 :: f5 r4 :: f5 r5 :: .res .u8 0 5 :: t.map f5) (.res .u8 a 3) (.res .u8 b 3)) (TT R6_2 6)) = true
      rw [step6_2_0]
      exact lp7_1 (r0 :: r1 :: r2 :: r3 :: r4 :: r5 :: 0 :: t) (by simp) h2 hr a b ha hb _
    · show isB (body4 E2 cy2 [] 399 (loop2 392) exit2 fin2 L (V2 6 2 (t.length + 7) (f5 r0 :: f5 r1 :: f5 r2 :: f5 r3 :: f5 r4 :: f5 r5 :: .res .u8 1 5 :: t.map f5) (.res .u8 a 3) (.res .u8 b 3)) (TT R6_2 6)) = true
      rw [step6_2_1]
      exact lp7_1 (r0 :: r1 :: r2 :: r3 :: r4 :: r5 :: 1 :: t) (by simp) h2 hr a b ha hb _
    · show isB (body4 E2 cy2 [] 399 (loop2 392) exit2 fin2 L (V2 6 2 (t.length + 7) (f5 r0 :: f5 r1 :: f5 r2 :: f5 r3 :: f5 r4 :: f5 r5 :: .res .u8 2 5 :: t.map f5) (.res .u8 a 3) (.res .u8 b 3)) (TT R6_2 6)) = true
      rw [step6_2_2]
      exact lp7_2 (r0 :: r1 :: r2 :: r3 :: r4 :: r5 :: 2 :: t) (by simp) h2 hr a b ha hb _
    · show isB (body4 E2 cy2 [] 399 (loop2 392) exit2 fin2 L (V2 6 2 (t.length + 7) (f5 r0 :: f5 r1 :: f5 r2 :: f5 r3 :: f5 r4 :: f5 r5 :: .res .u8 3 5 :: t.map f5) (.res .u8 a 3) (.res .u8 b 3)) (TT R6_2 6)) = true
      rw [step6_2_3]
      exact lp7_3 (r0 :: r1 :: r2 :: r3 :: r4 :: r5 :: 3 :: t) (by simp) h2 hr a b ha hb _
    · show isB (body4 E2 cy2 [] 399 (loop2 392) exit2 fin2 L (V2 6 2 (t.length + 7) (f5 r0 :: f5 r1 :: f5 r2 :: f5 r3 :: f5 r4 :: f5 r5 :: .res .u8 4 5 :: t.map f5) (.res .u8 a 3) (.res .u8 b 3)) (TT R6_2 6)) = true
      rw [step6_2_4]
      exact lp7_3 (r0 :: r1 :: r2 :: r3 :: r4 :: r5 :: 4 :: t) (by simp) h2 hr a b ha hb _
    · omega
theorem lp6_3 (rs : List Nat) (h1 : 6 ≤ rs.length) (h2 : rs.length ≤ 20) (hr : ∀ r ∈ rs, r < 5) (a b : Nat) (ha : a < 3) (hb : b < 3) (L : List AV) : isB (loop2 393 L (V2 6 3 rs.length (rs.map f5) (.res .u8 a 3) (.res .u8 b 3)) (TT R6_3 6)) = true := by
  rw [show loop2 393 = body4 E2 cy2 [] 399 (loop2 392) exit2 fin2 from loop2_succ 392]
  rcases Nat.eq_or_lt_of_le h1 with h | h
  · rw [← h]
    rcases a with _ | _ | _ | a
    · rcases b with _ | _ | _ | b
      · exact exit6_3_0_0 _ _ _
      · exact exit6_3_0_1 _ _ _
      · exact exit6_3_0_2 _ _ _
      · omega
    · rcases b with _ | _ | _ | b
      · exact exit6_3_1_0 _ _ _
      · exact exit6_3_1_1 _ _ _
      · exact exit6_3_1_2 _ _ _
      · omega
    · rcases b with _ | _ | _ | b
      · exact exit6_3_2_0 _ _ _
      · exact exit6_3_2_1 _ _ _
      · exact exit6_3_2_2 _ _ _
      · omega
    · omega
  · obtain ⟨r0, r1, r2, r3, r4, r5, r6, t, rfl⟩ := un6 h
    have hk : r6 < 5 := hr r6 (by simp)
    rcases r6 with _ | _ | _ | _ | _ | r6
    · show isB (body4 E2 cy2 [] 399 (loop2 392) exit2 fin2 L (V2 6 3 (t.length + 7) (f5 r0 :: f5 r1 :: f5 r2 :: f5 r3 :: f5 r4 :: f5 r5 :: .res .u8 0 5 :: t.map f5) (.res .u8 a 3) (.res .u8 b 3)) (TT R6_3 6)) = true
      rw [step6_3_0]
      exact lp7_1 (r0 :: r1 :: r2 :: r3 :: r4 :: r5 :: 0 :: t) (by simp) h2 hr a b ha hb _
    · show isB (body4 E2 cy2 [] 399 (loop2 392) exit2 fin2 L (V2 6 3 (t.length + 7) (f5 r0 :: f5 r1 :: f5 r2 :: f5 r3 :: f5 r4 :: f5 r5 :: .res .u8 1 5 :: t.map f5) (.res .u8 a 3) (.res .u8 b 3)) (TT R6_3 6)) = true
      rw [step6_3_1]
      exact lp7_1 (r0 :: r1 :: r2 :: r3 :: r4 :: r5 :: 1 :: t) (by simp) h2 hr a b ha hb _
    · show isB (body4 E2 cy2 [] 399 (loop2 392) exit2 fin2 L (V2 6 3 (t.length + 7) (f5 r0 :: f5 r1 :: f5 r2 :: f5 r3 :: f5 r4 :: f5 r5 :: .res .u8 2 5 :: t.map f5) (.res .u8 a 3) (.res .u8 b 3)) (TT R6_3 6)) = true
      rw [step6_3_2]
      exact lp7_2 (r0 :: r1 :: r2 :: r3 :: r4 :: r5 :: 2 :: t) (by simp) h2 hr a b ha hb _
    · show isB (body4 E2 cy2 [] 399 (loop2 392) exit2 fin2 L (V2 6 3 (t.length + 7) (f5 r0 :: f5 r1 :: f5 r2 :: f5 r3 :: f5 r4 :: f5 r5 :: .res .u8 3 5 :: t.map f5) (.res .u8 a 3) (.res .u8 b 3)) (TT R6_3 6)) = true
      rw [step6_3_3]
      exact lp7_3 (r0 :: r1 :: r2 :: r3 :: r4 :: r5 :: 3 :: t) (by simp) h2 hr a b ha hb _
    · show isB (body4 E2 cy2 [] 399 (loop2 392) exit2 fin2 L (V2 6 3 (t.length + 7) (f5 r0 :: f5 r1 :: f5 r2 :: f5 r3 :: f5 r4 :: f5 r5 :: .res .u8 4 5 :: t.map f5) (.res .u8 a 3) (.res .u8 b 3)) (TT R6_3 6)) = true
      rw [step6_3_4]
      exact lp7_3 (r0 :: r1 :: r2 :: r3 :: r4 :: r5 :: 4 :: t) (by simp) h2 hr a b ha hb _
    · omega
theorem lp5_1 (rs : List Nat) (h1 : 5 ≤ rs.length) (h2 : rs.length ≤ 20) (hr : ∀ r ∈ rs, r < 5) (a b : Nat) (ha : a < 3) (hb : b < 3) (L : List AV) : isB (loop2 394 L (V2 5 1 rs.length (rs.map f5) (.res .u8 a 3) (.res .u8 b 3)) (TT R5_1 5)) = true := by
  rw [show loop2 394 = body4 E2 cy2 [] 399 (loop2 393) exit2 fin2 from loop2_succ 393]
  rcases Nat.eq_or_lt_of_le h1 with h | h
  · rw [← h]
    rcases a with _ | _ | _ | a
    · rcases b with _ | _ | _ | b
      · exact exit5_1_0_0 _ _ _
      · exact exit5_1_0_1 _ _ _
      · exact exit5_1_0_2 _ _ _
      · omega
    · rcases b with _ | _ | _ | b
      · exact exit5_1_1_0 _ _ _
      · exact exit5_1_1_1 _ _ _
      · exact exit5_1_1_2 _ _ _
      · omega
    · rcases b with _ | _ | _ | b
      · exact exit5_1_2_0 _ _ _
      · exact exit5_1_2_1 _ _ _
      · exact exit5_1_2_2 _ _ _
      · omega
    · omega
  · obtain ⟨r0, r1, r2, r3, r4, r5, t, rfl⟩ := un5 h
    have hk : r5 < 5 := hr r5 (by simp)
    rcases r5 with _ | _ | _ | _ | _ | r5
    · show isB (body4 E2 cy2 [] 399 (loop2 393) exit2 fin2 L (V2 5 1 (t.length + 6) (f5 r0 :: f5 r1 :: f5 r2 :: f5 r3 :: f5 r4 :: .res .u8 0 5 :: t.map f5) (.res .u8 a 3) (.res .u8 b 3)) (TT R5_1 5)) = true
      rw [step5_1_0]
      exact lp6_1 (r0 :: r1 :: r2 :: r3 :: r4 :: 0 :: t) (by simp) h2 hr a b ha hb _
    · show isB (body4 E2 cy2 [] 399 (loop2 393) exit2 fin2 L (V2 5 1 (t.length + 6) (f5 r0 :: f5 r1 :: f5 r2 :: f5 r3 :: f5 r4 :: .res .u8 1 5 :: t.map f5) (.res .u8 a 3) (.res .u8 b 3)) (TT R5_1 5)) = true
      rw [step5_1_1]
      exact lp6_1 (r0 :: r1 :: r2 :: r3 :: r4 :: 1 :: t) (by simp) h2 hr a b ha hb _
    · show isB (body4 E2 cy2 [] 399 (loop2 393) exit2 fin2 L (V2 5 1 (t.length + 6) (f5 r0 :: f5 r1 :: f5 r2 :: f5 r3 :: f5 r4 :: .res .u8 2 5 :: t.map f5) (.res .u8 a 3) (.res .u8 b 3)) (TT R5_1 5)) = true
      rw [step5_1_2]
      exact lp6_2 (r0 :: r1 :: r2 :: r3 :: r4 :: 2 :: t) (by simp) h2 hr a b ha hb _
    · show isB (body4 E2 cy2 [] 399 (loop2 393) exit2 fin2 L (V2 5 1 (t.length + 6) (f5 r0 :: f5 r1 :: f5 r2 :: f5 r3 :: f5 r4 :: .res .u8 3 5 :: t.map f5) (.res .u8 a 3) (.res .u8 b 3)) (TT R5_1 5)) = true
      rw [step5_1_3]
      exact lp6_3 (r0 :: r1 :: r2 :: r3 :: r4 :: 3 :: t) (by simp) h2 hr a b ha hb _
    · show isB (body4 E2 cy2 [] 399 (loop2 393) exit2 fin2 L (V2 5 1 (t.length + 6) (f5 r0 :: f5 r1 :: f5 r2 :: f5 r3 :: f5 r4 :: .res .u8 4 5 :: t.map f5) (.res .u8 a 3) (.res .u8 b 3)) (TT R5_1 5)) = true
      rw [step5_1_4]
      exact lp6_3 (r0 :: r1 :: r2 :: r3 :: r4 :: 4 :: t) (by simp) h2 hr a b ha hb _
    · omega
theorem lp5_2 (rs : List Nat) (h1 : 5 ≤ rs.length) (h2 : rs.length ≤ 20) (hr : ∀ r ∈ rs, r < 5) (a b : Nat) (ha : a < 3) (hb : b < 3) (L : List AV) : isB (loop2 394 L (V2 5 2 rs.length (rs.map f5) (.res .u8 a 3) (.res .u8 b 3)) (TT R5_2 5)) = true := by
  rw [show loop2 394 = body4 E2 cy2 [] 399 (loop2 393) exit2 fin2 from loop2_succ 393]
  rcases Nat.eq_or_lt_of_le h1 with h | h
  · rw [← h]
    rcases a with _ | _ | _ | a
    · rcases b with _ | _ | _ | b
      · exact exit5_2_0_0 _ _ _
      · exact exit5_2_0_1 _ _ _
      · exact exit5_2_0_2 _ _ _
      · omega
    · rcases b with _ | _ | _ | b
      · exact exit5_2_1_0 _ _ _
      · exact exit5_2_1_1 _ _ _
      · exact exit5_2_1_2 _ _ _
      · omega
    · rcases b with _ | _ | _ | b
      · exact exit5_2_2_0 _ _ _
      · exact exit5_2_2_1 _ _ _
      · exact exit5_2_2_2 _ _ _
      · omega
    · omega
  · obtain ⟨r0, r1, r2, r3, r4, r5, t, rfl⟩ := un5 h
    have hk : r5 < 5 := hr r5 (by simp)
    rcases r5 with _ | _ | _ | _ | _ | r5
    · show isB (body4 E2 cy2 [] 399 (loop2 393) exit2 fin2 L (V2 5 2 (t.length + 6) (f5 r0 :: f5 r1 :: f5 r2 :: f5 r3 :: f5 r4 :: .res .u8 0 5 :: t.map f5) (.res .u8 a 3) (.res .u8 b 3)) (TT R5_2 5)) = true
      rw [step5_2_0]
      exact lp6_1 (r0 :: r1 :: r2 :: r3 :: r4 :: 0 :: t) (by simp) h2 hr a b ha hb _
    · show isB (body4 E2 cy2 [] 399 (loop2 393) exit2 fin2 L (V2 5 2 (t.length + 6) (f5 r0 :: f5 r1 :: f5 r2 :: f5 r3 :: f5 r4 :: .res .u8 1 5 :: t.map f5) (.res .u8 a 3) (.res .u8 b 3)) (TT R5_2 5)) = true
      rw [step5_2_1]
      exact lp6_1 (r0 :: r1 :: r2 :: r3 :: r4 :: 1 :: t) (by simp) h2 hr a b ha hb _
    · show isB (body4 E2 cy2 [] 399 (loop2 393) exit2 fin2 L (V2 5 2 (t.length + 6) (f5 r0 :: f5 r1 :: f5 r2 :: f5 r3 :: f5 r4 :: .res .u8 2 5 :: t.map f5) (.res .u8 a 3) (.res .u8 b 3)) (TT R5_2 5)) = true
      rw [step5_2_2]
      exact lp6_2 (r0 :: r1 :: r2 :: r3 :: r4 :: 2 :: t) (by simp) h2 hr a b ha hb _
    · show isB (body4 E2 cy2 [] 399 (loop2 393) exit2 fin2 L (V2 5 2 (t.length + 6) (f5 r0 :: f5 r1 :: f5 r2 :: f5 r3 :: f5 r4 :: .res .u8 3 5 :: t.map f5) (.res .u8 a 3) (.res .u8 b 3)) (TT R5_2 5)) = true
      rw [step5_2_3]
      exact lp6_3 (r0 :: r1 :: r2 :: r3 :: r4 :: 3 :: t) (by simp) h2 hr a b ha hb _
    · show isB (body4 E2 cy2 [] 399 (loop2 393) exit2 fin2 L (V2 5 2 (t.length + 6) (f5 r0 :: f5 r1 :: f5 r2 :: f5 r3 :: f5 r4 :: .res .u8 4 5 :: t.map f5) (.res .u8 a 3) (.res .u8 b 3)) (TT R5_2 5)) = true
      rw [step5_2_4]
      exact lp6_3 (r0 :: r1 :: r2 :: r3 :: r4 :: 4 :: t) (by simp) h2 hr a b ha hb _
    · omega
theorem lp5_3 (rs : List Nat) (h1 : 5 ≤ rs.length) (h2 : rs.length ≤ 20) (hr : ∀ r ∈ rs, r < 5) (a b : Nat) (ha : a < 3) (hb : b < 3) (L : List AV) : isB (loop2 394 L (V2 5 3 rs.length (rs.map f5) (.res .u8 a 3) (.res .u8 b 3)) (TT R5_3 5)) = true := by
  rw [show loop2 394 = body4 E2 cy2 [] 399 (loop2 393) exit2 fin2 from loop2_succ 393]
  rcases Nat.eq_or_lt_of_le h1 with h | h
  · rw [← h]
    rcases a with _ | _ | _ | a
    · rcases b with _ | _ | _ | b
      · exact exit5_3_0_0 _ _ _
      · exact exit5_3_0_1 _ _ _
      · exact exit5_3_0_2 _ _ _
      · omega
    · rcases b with _ | _ | _ | b
      · exact exit5_3_1_0 _ _ _
      · exact exit5_3_1_1 _ _ _
      · exact exit5_3_1_2 _ _ _
      · omega
    · rcases b with _ | _ | _ | b
      · exact exit5_3_2_0 _ _ _
      · exact exit5_3_2_1 _ _ _
      · exact exit5_3_2_2 _ _ _
      · omega
    · omega
  · obtain ⟨r0, r1, r2, r3, r4, r5, t, rfl⟩ := un5 h
    have hk : r5 < 5 := hr r5 (by simp)
    rcases r5 with _ | _ | _ | _ | _ | r5
    · show isB (body4 E2 cy2 [] 399 (loop2 393) exit2 fin2 L (V2 5 3 (t.length + 6) (f5 r0 :: f5 r1 :: f5 r2 :: f5 r3 :: f5 r4 :: .res .u8 0 5 :: t.map f5) (.res .u8 a 3) (.res .u8 b 3)) (TT R5_3 5)) = true
      rw [step5_3_0]
      exact lp6_1 (r0 :: r1 :: r2 :: r3 :: r4 :: 0 :: t) (by simp) h2 hr a b ha hb _
    · show isB (body4 E2 cy2 [] 399 (loop2 393) exit2 fin2 L (V2 5 3 (t.length + 6) (f5 r0 :: f5 r1 :: f5 r2 :: f5 r3 :: f5 r4 :: .res .u8 1 5 :: t.map f5) (.res .u8 a 3) (.res .u8 b 3)) (TT R5_3 5)) = true
      rw [step5_3_1]
      exact lp6_1 (r0 :: r1 :: r2 :: r3 :: r4 :: 1 :: t) (by simp) h2 hr a b ha hb _
    · show isB (body4 E2 cy2 [] 399 (loop2 393) exit2 fin2 L (V2 5 3 (t.length + 6) (f5 r0 :: f5 r1 :: f5 r2 :: f5 r3 :: f5 r4 :: .res .u8 2 5 :: t.map f5) (.res .u8 a 3) (.res .u8 b 3)) (TT R5_3 5)) = true
      rw [step5_3_2]
      exact lp6_2 (r0 :: r1 :: r2 :: r3 :: r4 :: 2 :: t) (by simp) h2 hr a b ha hb _
    · show isB (body4 E2 cy2 [] 399 (loop2 393) exit2 fin2 L (V2 5 3 (t.length + 6) (f5 r0 :: f5 r1 :: f5 r2 :: f5 r3 :: f5 r4 :: .res .u8 3 5 :: t.map f5) (.res .u8 a 3) (.res .u8 b 3)) (TT R5_3 5)) = true
      rw [step5_3_3]
      exact lp6_3 (r0 :: r1 :: r2 :: r3 :: r4 :: 3 :: t) (by simp) h2 hr a b ha hb _
    · show isB (body4 E2 cy2 [] 399 (loop2 393) exit2 fin2 L (V2 5 3 (t.length + 6) (f5 r0 :: f5 r1 :: f5 r2 :: f5 r3 :: f5 r4 :: .res .u8 4 5 :: t.map f5) (.res .u8 a 3) (.res .u8 b 3)) (TT R5_3 5)) = true
      rw [step5_3_4]
      exact lp6_3 (r0 :: r1 :: r2 :: r3 :: r4 :: 4 :: t) (by simp) h2 hr a b ha hb _
    · omega
theorem lp4_1 (rs : List Nat) (h1 : 4 ≤ rs.length) (h2 : rs.length ≤ 20) (hr : ∀ r ∈ rs, r < 5) (a b : Nat) (ha : a < 3) (hb : b < 3) (L : List AV) : isB (loop2 395 L (V2 4 1 rs.length (rs.map f5) (.res .u8 a 3) (.res .u8 b 3)) (TT R4_1 4)) = true := by
  rw [show loop2 395 = body4 E2 cy2 [] 399 (loop2 394) exit2 fin2 from loop2_succ 394]
  rcases Nat.eq_or_lt_of_le h1 with h | h
  · rw [← h]
    rcases a with _ | _ | _ | a
    · rcases b with _ | _ | _ | b
      · exact exit4_1_0_0 _ _ _
      · exact exit4_1_0_1 _ _ _
      · exact exit4_1_0_2 _ _ _
      · omega
    · rcases b with _ | _ | _ | b
      · exact exit4_1_1_0 _ _ _
      · exact exit4_1_1_1 _ _ _
      · exact exit4_1_1_2 _ _ _
      · omega
    · rcases b with _ | _ | _ | b
      · exact exit4_1_2_0 _ _ _
      · exact exit4_1_2_1 _ _ _
      · exact exit4_1_2_2 _ _ _
      · omega
    · omega
  · obtain ⟨r0, r1, r2, r3, r4, t, rfl⟩ := un4 h
    have hk : r4 < 5 := hr r4 (by simp)
    rcases r4 with _ | _ | _ | _ | _ | r4
    · show isB (body4 E2 cy2 [] 399 (loop2 394) exit2 fin2 L (V2 4 1 (t.length + 5) (f5 r0 :: f5 r1 :: f5 r2 :: f5 r3 :: .res .u8 0 5 :: t.map f5) (.res .u8 a 3) (.res .u8 b 3)) (TT R4_1 4)) = true
      rw [step4_1_0]
      exact lp5_1 (r0 :: r1 :: r2 :: r3 :: 0 :: t) (by simp) h2 hr a b ha hb _
    · show isB (body4 E2 cy2 [] 399 (loop2 394) exit2 fin2 L (V2 4 1 (t.length + 5) (f5 r0 :: f5 r1 :: f5 r2 :: f5 r3 :: .res .u8 1 5 :: t.map f5) (.res .u8 a 3) (.res .u8 b 3)) (TT R4_1 4)) = true
      rw [step4_1_1]
      exact lp5_1 (r0 :: r1 :: r2 :: r3 :: 1 :: t) (by simp) h2 hr a b ha hb _
    · show isB (body4 E2 cy2 [] 399 (loop2 394) exit2 fin2 L (V2 4 1 (t.length + 5) (f5 r0 :: f5 r1 :: f5 r2 :: f5 r3 :: .res .u8 2 5 :: t.map f5) (.res .u8 a 3) (.res .u8 b 3)) (TT R4_1 4)) = true
      rw [step4_1_2]
      exact lp5_2 (r0 :: r1 :: r2 :: r3 :: 2 :: t) (by simp) h2 hr a b ha hb _
    · show isB (body4 E2 cy2 [] 399 (loop2 394) exit2 fin2 L (V2 4 1 (t.length + 5) (f5 r0 :: f5 r1 :: f5 r2 :: f5 r3 :: .res .u8 3 5 :: t.map f5) (.res .u8 a 3) (.res .u8 b 3)) (TT R4_1 4)) = true
      rw [step4_1_3]
      exact lp5_3 (r0 :: r1 :: r2 :: r3 :: 3 :: t) (by simp) h2 hr a b ha hb _
    · show isB (body4 E2 cy2 [] 399 (loop2 394) exit2 fin2 L (V2 4 1 (t.length + 5) (f5 r0 :: f5 r1 :: f5 r2 :: f5 r3 :: .res .u8 4 5 :: t.map f5) (.res .u8 a 3) (.res .u8 b 3)) (TT R4_1 4)) = true
      rw [step4_1_4]
      exact lp5_3 (r0 :: r1 :: r2 :: r3 :: 4 :: t) (by simp) h2 hr a b ha hb _
    · omega
theorem lp4_2 (rs : List Nat) (h1 : 4 ≤ rs.length) (h2 : rs.length ≤ 20) (hr : ∀ r ∈ rs, r < 5) (a b : Nat) (ha : a < 3) (hb : b < 3) (L : List AV) : isB (loop2 395 L (V2 4 2 rs.length (rs.map f5) (.res .u8 a 3) (.res .u8 b 3)) (TT R4_2 4)) = true := by
  rw [show loop2 395 = body4 E2 cy2 [] 399 (loop2 394) exit2 fin2 from loop2_succ 394]
  rcases Nat.eq_or_lt_of_le h1 with h | h
  · rw [← h]
    rcases a with _ | _ | _ | a
    · rcases b with _ | _ | _ | b
      · exact exit4_2_0_0 _ _ _
      · exact exit4_2_0_1 _ _ _
      · exact exit4_2_0_2 _ _ _
      · omega
    · rcases b with _ | _ | _ | b
      · exact exit4_2_1_0 _ _ _
      · exact exit4_2_1_1 _ _ _
      · exact exit4_2_1_2 _ _ _
      · omega
    · rcases b with _ | _ | _ | b
      · exact exit4_2_2_0 _ _ _
      · exact exit4_2_2_1 _ _ _
      · exact exit4_2_2_2 _ _ _
      · omega
    · omega
  · obtain ⟨r0, r1, r2, r3, r4, t, rfl⟩ := un4 h
    have hk : r4 < 5 := hr r4 (by simp)
    rcases r4 with _ | _ | _ | _ | _ | r4
    · show isB (body4 E2 cy2 [] 399 (loop2 394) exit2 fin2 L (V2 4 2 (t.length + 5) (f5 r0 :: f5 r1 :: f5 r2 :: f5 r3 :: .res .u8 0 5 :: t.map f5) (.res .u8 a 3) (.res .u8 b 3)) (TT R4_2 4)) = true
      rw [step4_2_0]
      exact lp5_1 (r0 :: r1 :: r2 :: r3 :: 0 :: t) (by simp) h2 hr a b ha hb _
    · show isB (body4 E2 cy2 [] 399 (loop2 394) exit2 fin2 L (V2 4 2 (t.length + 5) (f5 r0 :: f5 r1 :: f5 r2 :: f5 r3 :: .res .u8 1 5 :: t.map f5) (.res .u8 a 3) (.res .u8 b 3)) (TT R4_2 4)) = true
      rw [step4_2_1]
      exact lp5_1 (r0 :: r1 :: r2 :: r3 :: 1 :: t) (by simp) h2 hr a b ha hb _
    · show isB (body4 E2 cy2 [] 399 (loop2 394) exit2 fin2 L (V2 4 2 (t.length + 5) (f5 r0 :: f5 r1 :: f5 r2 :: f5 r3 :: .res .u8 2 5 :: t.map f5) (.res .u8 a 3) (.res .u8 b 3)) (TT R4_2 4)) = true
      rw [step4_2_2]
      exact lp5_2 (r0 :: r1 :: r2 :: r3 :: 2 :: t) (by simp) h2 hr a b ha hb _
    · show isB (body4 E2 cy2 [] 399 (loop2 394) exit2 fin2 L (V2 4 2 (t.length + 5) (f5 r0 :: f5 r1 :: f5 r2 :: f5 r3 :: .res .u8 3 5 :: t.map f5) (.res .u8 a 3) (.res .u8 b 3)) (TT R4_2 4)) = true
      rw [step4_2_3]
      exact lp5_3 (r0 :: r1 :: r2 :: r3 :: 3 :: t) (by simp) h2 hr a b ha hb _
    · show isB (body4 E2 cy2 [] 399 (loop2 394) exit2 fin2 L (V2 4 2 (t.length + 5) (f5 r0 :: f5 r1 :: f5 r2 :: f5 r3 :: .res .u8 4 5 :: t.map f5) (.res .u8 a 3) (.res .u8 b 3)) (TT R4_2 4)) = true
      rw [step4_2_4]
      exact lp5_3 (r0 :: r1 :: r2 :: r3 :: 4 :: t) (by simp) h2 hr a b ha hb _
    · omega
theorem lp4_3 (rs : List Nat) (h1 : 4 ≤ rs.length) (h2 : rs.length ≤ 20) (hr : ∀ r ∈ rs, r < 5) (a b : Nat) (ha : a < 3) (hb : b < 3) (L : List AV) : isB (loop2 395 L (V2 4 3 rs.length (rs.map f5) (.res .u8 a 3) (.res .u8 b 3)) (TT R4_3 4)) = true := by
  rw [show loop2 395 = body4 E2 cy2 [] 399 (loop2 394) exit2 fin2 from loop2_succ 394]
  rcases Nat.eq_or_lt_of_le h1 with h | h
  · rw [← h]
    rcases a with _ | _ | _ | a
    · rcases b with _ | _ | _ | b
      · exact exit4_3_0_0 _ _ _
      · exact exit4_3_0_1 _ _ _
      · exact exit4_3_0_2 _ _ _
      · omega
    · rcases b with _ | _ | _ | b
      · exact exit4_3_1_0 _ _ _
      · exact exit4_3_1_1 _ _ _
      · exact exit4_3_1_2 _ _ _
      · omega
    · rcases b with _ | _ | _ | b
      · exact exit4_3_2_0 _ _ _
      · exact exit4_3_2_1 _ _ _
      · exact exit4_3_2_2 _ _ _
      · omega
    · omega
  · obtain ⟨r0, r1, r2, r3, r4, t, rfl⟩ := un4 h
    have hk : r4 < 5 := hr r4 (by simp)
    rcases r4 with _ | _ | _ | _ | _ | r4
    · show isB (body4 E2 cy2 [] 399 (loop2 394) exit2 fin2 L (V2 4 3 (t.length + 5) (f5 r0 :: f5 r1 :: f5 r2 :: f5 r3 :: .res .u8 0 5 :: t.map f5) (.res .u8 a 3) (.res .u8 b 3)) (TT R4_3 4)) = true
      rw [step4_3_0]
      exact lp5_1 (r0 :: r1 :: r2 :: r3 :: 0 :: t) (by simp) h2 hr a b ha hb _
    · show isB (body4 E2 cy2 [] 399 (loop2 394) exit2 fin2 L (V2 4 3 (t.length + 5) (f5 r0 :: f5 r1 :: f5 r2 :: f5 r3 :: .res .u8 1 5 :: t.map f5) (.res .u8 a 3) (.res .u8 b 3)) (TT R4_3 4)) = true
      rw [step4_3_1]
      exact lp5_1 (r0 :: r1 :: r2 :: r3 :: 1 :: t) (by simp) h2 hr a b ha hb _
    · show isB (body4 E2 cy2 [] 399 (loop2 394) exit2 fin2 L (V2 4 3 (t.length + 5) (f5 r0 :: f5 r1 :: f5 r2 :: f5 r3 :: .res .u8 2 5 :: t.map f5) (.res .u8 a 3) (.res .u8 b 3)) (TT R4_3 4)) = true
      rw [step4_3_2]
      exact lp5_2 (r0 :: r1 :: r2 :: r3 :: 2 :: t) (by simp) h2 hr a b ha hb _
    · show isB (body4 E2 cy2 [] 399 (loop2 394) exit2 fin2 L (V2 4 3 (t.length + 5) (f5 r0 :: f5 r1 :: f5 r2 :: f5 r3 :: .res .u8 3 5 :: t.map f5) (.res .u8 a 3) (.res .u8 b 3)) (TT R4_3 4)) = true
      rw [step4_3_3]
      exact lp5_3 (r0 :: r1 :: r2 :: r3 :: 3 :: t) (by simp) h2 hr a b ha hb _
    · show isB (body4 E2 cy2 [] 399 (loop2 394) exit2 fin2 L (V2 4 3 (t.length + 5) (f5 r0 :: f5 r1 :: f5 r2 :: f5 r3 :: .res .u8 4 5 :: t.map f5) (.res .u8 a 3) (.res .u8 b 3)) (TT R4_3 4)) = true
      rw [step4_3_4]
      exact lp5_3 (r0 :: r1 :: r2 :: r3 :: 4 :: t) (by simp) h2 hr a b ha hb _
    · omega
theorem lp3_1 (rs : List Nat) (h1 : 3 ≤ rs.length) (h2 : rs.length ≤ 20) (hr : ∀ r ∈ rs, r < 5) (a b : Nat) (ha : a < 3) (hb : b < 3) (L : List AV) : isB (loop2 396 L (V2 3 1 rs.length (rs.map f5) (.res .u8 a 3) (.res .u8 b 3)) (TT R3_1 3)) = true := by
  rw [show loop2 396 = body4 E2 cy2 [] 399 (loop2 395) exit2 fin2 from loop2_succ 395]
  rcases Nat.eq_or_lt_of_le h1 with h | h
  · rw [← h]
    rcases a with _ | _ | _ | a
    · rcases b with _ | _ | _ | b
      · exact exit3_1_0_0 _ _ _
      · exact exit3_1_0_1 _ _ _
      · exact exit3_1_0_2 _ _ _
      · omega
    · rcases b with _ | _ | _ | b
      · exact exit3_1_1_0 _ _ _
      · exact exit3_1_1_1 _ _ _
      · exact exit3_1_1_2 _ _ _
      · omega
    · rcases b with _ | _ | _ | b
      · exact exit3_1_2_0 _ _ _
      · exact exit3_1_2_1 _ _ _
      · exact exit3_1_2_2 _ _ _
      · omega
    · omega
  · obtain ⟨r0, r1, r2, r3, t, rfl⟩ := un3 h
    have hk : r3 < 5 := hr r3 (by simp)
    rcases r3 with _ | _ | _ | _ | _ | r3
    · show isB (body4 E2 cy2 [] 399 (loop2 395) exit2 fin2 L (V2 3 1 (t.length + 4) (f5 r0 :: f5 r1 :: f5 r2 :: .res .u8 0 5 :: t.map f5) (.res .u8 a 3) (.res .u8 b 3)) (TT R3_1 3)) = true
      rw [step3_1_0]
      exact lp4_1 (r0 :: r1 :: r2 :: 0 :: t) (by simp) h2 hr a b ha hb _
    · show isB (body4 E2 cy2 [] 399 (loop2 395) exit2 fin2 L (V2 3 1 (t.length + 4) (f5 r0 :: f5 r1 :: f5 r2 :: .res .u8 1 5 :: t.map f5) (.res .u8 a 3) (.res .u8 b 3)) (TT R3_1 3)) = true
      rw [step3_1_1]
      exact lp4_1 (r0 :: r1 :: r2 :: 1 :: t) (by simp) h2 hr a b ha hb _
    · show isB (body4 E2 cy2 [] 399 (loop2 395) exit2 fin2 L (V2 3 1 (t.length + 4) (f5 r0 :: f5 r1 :: f5 r2 :: .res .u8 2 5 :: t.map f5) (.res .u8 a 3) (.res .u8 b 3)) (TT R3_1 3)) = true
      rw [step3_1_2]
      exact lp4_2 (r0 :: r1 :: r2 :: 2 :: t) (by simp) h2 hr a b ha hb _
    · show isB (body4 E2 cy2 [] 399 (loop2 395) exit2 fin2 L (V2 3 1 (t.length + 4) (f5 r0 :: f5 r1 :: f5 r2 :: .res .u8 3 5 :: t.map f5) (.res .u8 a 3) (.res .u8 b 3)) (TT R3_1 3)) = true
      rw [step3_1_3]
      exact lp4_3 (r0 :: r1 :: r2 :: 3 :: t) (by simp) h2 hr a b ha hb _
    · show isB (body4 E2 cy2 [] 399 (loop2 395) exit2 fin2 L (V2 3 1 (t.length + 4) (f5 r0 :: f5 r1 :: f5 r2 :: .res .u8 4 5 :: t.map f5) (.res .u8 a 3) (.res .u8 b 3)) (TT R3_1 3)) = true
      rw [step3_1_4]
      exact lp4_3 (r0 :: r1 :: r2 :: 4 :: t) (by simp) h2 hr a b ha hb _
    · omega
theorem lp3_2 (rs : List Nat) (h1 : 3 ≤ rs.length) (h2 : rs.length ≤ 20) (hr : ∀ r ∈ rs, r < 5) (a b : Nat) (ha : a < 3) (hb : b < 3) (L : List AV) : isB (loop2 396 L (V2 3 2 rs.length (rs.map f5) (.res .u8 a 3) (.res .u8 b 3)) (TT R3_2 3)) = true := by
  rw [show loop2 396 = body4 E2 cy2 [] 399 (loop2 395) exit2 fin2 from loop2_succ 395]
  rcases Nat.eq_or_lt_of_le h1 with h | h
  · rw [← h]
    rcases a with _ | _ | _ | a
    · rcases b with _ | _ | _ | b
      · exact exit3_2_0_0 _ _ _
      · exact exit3_2_0_1 _ _ _
      · exact exit3_2_0_2 _ _ _
      · omega
    · rcases b with _ | _ | _ | b
      · exact exit3_2_1_0 _ _ _
      · exact exit3_2_1_1 _ _ _
      · exact exit3_2_1_2 _ _ _
      · omega
    · rcases b with _ | _ | _ | b
      · exact exit3_2_2_0 _ _ _
      · exact exit3_2_2_1 _ _ _
      · exact exit3_2_2_2 _ _ _
      · omega
    · omega
  · obtain ⟨r0, r1, r2, r3, t, rfl⟩ := un3 h
    have hk : r3 < 5 := hr r3 (by simp)
    rcases r3 with _ | _ | _ | _ | _ | r3
    · show isB (body4 E2 cy2 [] 399 (loop2 395) exit2 fin2 L (V2 3 2 (t.length + 4) (f5 r0 :: f5 r1 :: f5 r2 :: .res .u8 0 5 :: t.map f5) (.res .u8 a 3) (.res .u8 b 3)) (TT R3_2 3)) = true
      rw [step3_2_0]
      exact lp4_1 (r0 :: r1 :: r2 :: 0 :: t) (by simp) h2 hr a b ha hb _
    · show isB (body4 E2 cy2 [] 399 (loop2 395) exit2 fin2 L (V2 3 2 (t.length + 4) (f5 r0 :: f5 r1 :: f5 r2 :: .res .u8 1 5 :: t.map f5) (.res .u8 a 3) (.res .u8 b 3)) (TT R3_2 3)) = true
      rw [step3_2_1]
      exact lp4_1 (r0 :: r1 :: r2 :: 1 :: t) (by simp) h2 hr a b ha hb _
    · show isB (body4 E2 cy2 [] 399 (loop2 395) exit2 fin2 L (V2 3 2 (t.length + 4) (f5 r0 :: f5 r1 :: f5 r2 :: .res .u8 2 5 :: t.map f5) (.res .u8 a 3) (.res .u8 b 3)) (TT R3_2 3)) = true
      rw [step3_2_2]
      exact lp4_2 (r0 :: r1 :: r2 :: 2 :: t) (by simp) h2 hr a b ha hb _
    · show isB (body4 E2 cy2 [] 399 (loop2 395) exit2 fin2 L (V2 3 2 (t.length + 4) (f5 r0 :: f5 r1 :: f5 r2 :: .res .u8 3 5 :: t.map f5) (.res .u8 a 3) (.res .u8 b 3)) (TT R3_2 3)) = true
      rw [step3_2_3]
      exact lp4_3 (r0 :: r1 :: r2 :: 3 :: t) (by simp) h2 hr a b ha hb _
    · show isB (body4 E2 cy2 [] 399 (loop2 395) exit2 fin2 L (V2 3 2 (t.length + 4) (f5 r0 :: f5 r1 :: f5 r2 :: .res .u8 4 5 :: t.map f5) (.res .u8 a 3) (.res .u8 b 3)) (TT R3_2 3)) = true
      rw [step3_2_4]
      exact lp4_3 (r0 :: r1 :: r2 :: 4 :: t) (by simp) h2 hr a b ha hb _
    · omega
theorem lp3_3 (rs : List Nat) (h1 : 3 ≤ rs.length) (h2 : rs.length ≤ 20) (hr : ∀ r ∈ rs, r < 5) (a b : Nat) (ha : a < 3) (hb : b < 3) (L : List AV) : isB (loop2 396 L (V2 3 3 rs.length (rs.map f5) (.res .u8 a 3) (.res .u8 b 3)) (TT R3_3 3)) = true := by
  rw [show loop2 396 = body4 E2 cy2 [] 399 (loop2 395) exit2 fin2 from loop2_succ 395]
  rcases Nat.eq_or_lt_of_le h1 with h | h
  · rw [← h]
    rcases a with _ | _ | _ | a
    · rcases b with _ | _ | _ | b
      · exact exit3_3_0_0 _ _ _
      · exact exit3_3_0_1 _ _ _
      · exact exit3_3_0_2 _ _ _
      · omega
    · rcases b with _ | _ | _ | b
      · exact exit3_3_1_0 _ _ _
      · exact exit3_3_1_1 _ _ _
      · exact exit3_3_1_2 _ _ _
      · omega
    · rcases b with _ | _ | _ | b
      · exact exit3_3_2_0 _ _ _
      · exact exit3_3_2_1 _ _ _
      · exact exit3_3_2_2 _ _ _
      · omega
    · omega
  · obtain ⟨r0, r1, r2, r3, t, rfl⟩ := un3 h
    have hk : r3 < 5 := hr r3 (by simp)
    rcases r3 with _ | _ | _ | _ | _ | r3
    · show isB (body4 E2 cy2 [] 399 (loop2 395) exit2 fin2 L (V2 3 3 (t.length + 4) (f5 r0 :: f5 r1 :: f5 r2 :: .res .u8 0 5 :: t.map f5) (.res .u8 a 3) (.res .u8 b 3)) (TT R3_3 3)) = true
      rw [step3_3_0]
      exact lp4_1 (r0 :: r1 :: r2 :: 0 :: t) (by simp) h2 hr a b ha hb _
    · show isB (body4 E2 cy2 [] 399 (loop2 395) exit2 fin2 L (V2 3 3 (t.length + 4) (f5 r0 :: f5 r1 :: f5 r2 :: .res .u8 1 5 :: t.map f5) (.res .u8 a 3) (.res .u8 b 3)) (TT R3_3 3)) = true
      rw [step3_3_1]
      exact lp4_1 (r0 :: r1 :: r2 :: 1 :: t) (by simp) h2 hr a b ha hb _
    · show isB (body4 E2 cy2 [] 399 (loop2 395) exit2 fin2 L (V2 3 3 (t.length + 4) (f5 r0 :: f5 r1 :: f5 r2 :: .res .u8 2 5 :: t.map f5) (.res .u8 a 3) (.res .u8 b 3)) (TT R3_3 3)) = true
      rw [step3_3_2]
      exact lp4_2 (r0 :: r1 :: r2 :: 2 :: t) (by simp) h2 hr a b ha hb _
    · show isB (body4 E2 cy2 [] 399 (loop2 395) exit2 fin2 L (V2 3 3 (t.length + 4) (f5 r0 :: f5 r1 :: f5 r2 :: .res .u8 3 5 :: t.map f5) (.res .u8 a 3) (.res .u8 b 3)) (TT R3_3 3)) = true
      rw [step3_3_3]
      exact lp4_3 (r0 :: r1 :: r2 :: 3 :: t) (by simp) h2 hr a b ha hb _
    · show isB (body4 E2 cy2 [] 399 (loop2 395) exit2 fin2 L (V2 3 3 (t.length + 4) (f5 r0 :: f5 r1 :: f5 r2 :: .res .u8 4 5 :: t.map f5) (.res .u8 a 3) (.res .u8 b 3)) (TT R3_3 3)) = true
      rw [step3_3_4]
      exact lp4_3 (r0 :: r1 :: r2 :: 4 :: t) (by simp) h2 hr a b ha hb _
    · omega
theorem lp2_1 (rs : List Nat) (h1 : 2 ≤ rs.length) (h2 : rs.length ≤ 20) (hr : ∀ r ∈ rs, r < 5) (a b : Nat) (ha : a < 3) (hb : b < 3) (L : List AV) : isB (loop2 397 L (V2 2 1 rs.length (rs.map f5) (.res .u8 a 3) (.res .u8 b 3)) (TT R2_1 2)) = true := by
  rw [show loop2 397 = body4 E2 cy2 [] 399 (loop2 396) exit2 fin2 from loop2_succ 396]
  rcases Nat.eq_or_lt_of_le h1 with h | h
  · rw [← h]
    rcases a with _ | _ | _ | a
    · rcases b with _ | _ | _ | b
      · exact exit2_1_0_0 _ _ _
      · exact exit2_1_0_1 _ _ _
      · exact exit2_1_0_2 _ _ _
      · omega
    · rcases b with _ | _ | _ | b
      · exact exit2_1_1_0 _ _ _
      · exact exit2_1_1_1 _ _ _
      · exact exit2_1_1_2 _ _ _
      · omega
    · rcases b with _ | _ | _ | b
      · exact exit2_1_2_0 _ _ _
      · exact exit2_1_2_1 _ _ _
      · exact exit2_1_2_2 _ _ _
      · omega
    · omega
  · obtain ⟨r0, r1, r2, t, rfl⟩ := un2 h
    have hk : r2 < 5 := hr r2 (by simp)
    rcases r2 with _ | _ | _ | _ | _ | r2
    · show isB (body4 E2 cy2 [] 399 (loop2 396) exit2 fin2 L (V2 2 1 (t.length + 3) (f5 r0 :: f5 r1 :: .res .u8 0 5 :: t.map f5) (.res .u8 a 3) (.res .u8 b 3)) (TT R2_1 2)) = true
      rw [step2_1_0]
      exact lp3_1 (r0 :: r1 :: 0 :: t) (by simp) h2 hr a b ha hb _
    · show isB (body4 E2 cy2 [] 399 (loop2 396) exit2 fin2 L (V2 2 1 (t.length + 3) (f5 r0 :: f5 r1 :: .res .u8 1 5 :: t.map f5) (.res .u8 a 3) (.res .u8 b 3)) (TT R2_1 2)) = true
      rw [step2_1_1]
      exact lp3_1 (r0 :: r1 :: 1 :: t) (by simp) h2 hr a b ha hb _
    · show isB (body4 E2 cy2 [] 399 (loop2 396) exit2 fin2 L (V2 2 1 (t.length + 3) (f5 r0 :: f5 r1 :: .res .u8 2 5 :: t.map f5) (.res .u8 a 3) (.res .u8 b 3)) (TT R2_1 2)) = true
      rw [step2_1_2]
      exact lp3_2 (r0 :: r1 :: 2 :: t) (by simp) h2 hr a b ha hb _
    · show isB (body4 E2 cy2 [] 399 (loop2 396) exit2 fin2 L (V2 2 1 (t.length + 3) (f5 r0 :: f5 r1 :: .res .u8 3 5 :: t.map f5) (.res .u8 a 3) (.res .u8 b 3)) (TT R2_1 2)) = true
      rw [step2_1_3]
      exact lp3_3 (r0 :: r1 :: 3 :: t) (by simp) h2 hr a b ha hb _
    · show isB (body4 E2 cy2 [] 399 (loop2 396) exit2 fin2 L (V2 2 1 (t.length + 3) (f5 r0 :: f5 r1 :: .res .u8 4 5 :: t.map f5) (.res .u8 a 3) (.res .u8 b 3)) (TT R2_1 2)) = true
      rw [step2_1_4]
      exact lp3_3 (r0 :: r1 :: 4 :: t) (by simp) h2 hr a b ha hb _
    · omega
theorem lp2_2 (rs : List Nat) (h1 : 2 ≤ rs.length) (h2 : rs.length ≤ 20) (hr : ∀ r ∈ rs, r < 5) (a b : Nat) (ha : a < 3) (hb : b < 3) (L : List AV) : isB (loop2 397 L (V2 2 2 rs.length (rs.map f5) (.res .u8 a 3) (.res .u8 b 3)) (TT R2_2 2)) = true := by
  rw [show loop2 397 = body4 E2 cy2 [] 399 (loop2 396) exit2 fin2 from loop2_succ 396]
  rcases Nat.eq_or_lt_of_le h1 with h | h
  · rw [← h]
    rcases a with _ | _ | _ | a
    · rcases b with _ | _ | _ | b
      · exact exit2_2_0_0 _ _ _
      · exact exit2_2_0_1 _ _ _
      · exact exit2_2_0_2 _ _ _
      · omega
    · rcases b with _ | _ | _ | b
      · exact exit2_2_1_0 _ _ _
      · exact exit2_2_1_1 _ _ _
      · exact exit2_2_1_2 _ _ _
      · omega
    · rcases b with _ | _ | _ | b
      · exact exit2_2_2_0 _ _ _
      · exact exit2_2_2_1 _ _ _
      · exact exit2_2_2_2 _ _ _
      · omega
    · omega
  · obtain ⟨r0, r1, r2, t, rfl⟩ := un2 h
    have hk : r2 < 5 := hr r2 (by simp)
    rcases r2 with _ | _ | _ | _ | _ | r2
    · show isB (body4 E2 cy2 [] 399 (loop2 396) exit2 fin2 L (V2 2 2 (t.length + 3) (f5 r0 :: f5 r1 :: .res .u8 0 5 :: t.map f5) (.res .u8 a 3) (.res .u8 b 3)) (TT R2_2 2)) = true
      rw [step2_2_0]
      exact lp3_1 (r0 :: r1 :: 0 :: t) (by simp) h2 hr a b ha hb _
    · show isB (body4 E2 cy2 [] 399 (loop2 396) exit2 fin2 L (V2 2 2 (t.length + 3) (f5 r0 :: f5 r1 :: .res .u8 1 5 :: t.map f5) (.res .u8 a 3) (.res .u8 b 3)) (TT R2_2 2)) = true
      rw [step2_2_1]
      exact lp3_1 (r0 :: r1 :: 1 :: t) (by simp) h2 hr a b ha hb _
    · show isB (body4 E2 cy2 [] 399 (loop2 396) exit2 fin2 L (V2 2 2 (t.length + 3) (f5 r0 :: f5 r1 :: .res .u8 2 5 :: t.map f5) (.res .u8 a 3) (.res .u8 b 3)) (TT R2_2 2)) = true
      rw [step2_2_2]
      exact lp3_2 (r0 :: r1 :: 2 :: t) (by simp) h2 hr a b ha hb _
    · show isB (body4 E2 cy2 [] 399 (loop2 396) exit2 fin2 L (V2 2 2 (t.length + 3) (f5 r0 :: f5 r1 :: .res .u8 3 5 :: t.map f5) (.res .u8 a 3) (.res .u8 b 3)) (TT R2_2 2)) = true
      rw [step2_2_3]
      exact lp3_3 (r0 :: r1 :: 3 :: t) (by simp) h2 hr a b ha hb _
    · show isB (body4 E2 cy2 [] 399 (loop2 396) exit2 fin2 L (V2 2 2 (t.length + 3) (f5 r0 :: f5 r1 :: .res .u8 4 5 :: t.map f5) (.res .u8 a 3) (.res .u8 b 3)) (TT R2_2 2)) = true
      rw [step2_2_4]
      exact lp3_3 (r0 :: r1 :: 4 :: t) (by simp) h2 hr a b ha hb _
    · omega
theorem lp2_3 (rs : List Nat) (h1 : 2 ≤ rs.length) (h2 : rs.length ≤ 20) (hr : ∀ r ∈ rs, r < 5) (a b : Nat) (ha : a < 3) (hb : b < 3) (L : List AV) : isB (loop2 397 L (V2 2 3 rs.length (rs.map f5) (.res .u8 a 3) (.res .u8 b 3)) (TT R2_3 2)) = true := by
  rw [show loop2 397 = body4 E2 cy2 [] 399 (loop2 396) exit2 fin2 from loop2_succ 396]
  rcases Nat.eq_or_lt_of_le h1 with h | h
  · rw [← h]
    rcases a with _ | _ | _ | a
    · rcases b with _ | _ | _ | b
      · exact exit2_3_0_0 _ _ _
      · exact exit2_3_0_1 _ _ _
      · exact exit2_3_0_2 _ _ _
      · omega
    · rcases b with _ | _ | _ | b
      · exact exit2_3_1_0 _ _ _
      · exact exit2_3_1_1 _ _ _
      · exact exit2_3_1_2 _ _ _
      · omega
    · rcases b with _ | _ | _ | b
      · exact exit2_3_2_0 _ _ _
      · exact exit2_3_2_1 _ _ _
      · exact exit2_3_2_2 _ _ _
      · omega
    · omega
  · obtain ⟨r0, r1, r2, t, rfl⟩ := un2 h
    have hk : r2 < 5 := hr r2 (by simp)
    rcases r2 with _ | _ | _ | _ | _ | r2
    · show isB (body4 E2 cy2 [] 399 (loop2 396) exit2 fin2 L (V2 2 3 (t.length + 3) (f5 r0 :: f5 r1 :: .res .u8 0 5 :: t.map f5) (.res .u8 a 3) (.res .u8 b 3)) (TT R2_3 2)) = true
      rw [step2_3_0]
      exact lp3_1 (r0 :: r1 :: 0 :: t) (by simp) h2 hr a b ha hb _
    · show isB (body4 E2 cy2 [] 399 (loop2 396) exit2 fin2 L (V2 2 3 (t.length + 3) (f5 r0 :: f5 r1 :: .res .u8 1 5 :: t.map f5) (.res .u8 a 3) (.res .u8 b 3)) (TT R2_3 2)) = true
      rw [step2_3_1]
      exact lp3_1 (r0 :: r1 :: 1 :: t) (by simp) h2 hr a b ha hb _
    · show isB (body4 E2 cy2 [] 399 (loop2 396) exit2 fin2 L (V2 2 3 (t.length + 3) (f5 r0 :: f5 r1 :: .res .u8 2 5 :: t.map f5) (.res .u8 a 3) (.res .u8 b 3)) (TT R2_3 2)) = true
      rw [step2_3_2]
      exact lp3_2 (r0 :: r1 :: 2 :: t) (by simp) h2 hr a b ha hb _
    · show isB (body4 E2 cy2 [] 399 (loop2 396) exit2 fin2 L (V2 2 3 (t.length + 3) (f5 r0 :: f5 r1 :: .res .u8 3 5 :: t.map f5) (.res .u8 a 3) (.res .u8 b 3)) (TT R2_3 2)) = true
      rw [step2_3_3]
      exact lp3_3 (r0 :: r1 :: 3 :: t) (by simp) h2 hr a b ha hb _
    · show isB (body4 E2 cy2 [] 399 (loop2 396) exit2 fin2 L (V2 2 3 (t.length + 3) (f5 r0 :: f5 r1 :: .res .u8 4 5 :: t.map f5) (.res .u8 a 3) (.res .u8 b 3)) (TT R2_3 2)) = true
      rw [step2_3_4]
      exact lp3_3 (r0 :: r1 :: 4 :: t) (by simp) h2 hr a b ha hb _
    · omega
theorem lp1_1 (rs : List Nat) (h1 : 1 ≤ rs.length) (h2 : rs.length ≤ 20) (hr : ∀ r ∈ rs, r < 5) (a b : Nat) (ha : a < 3) (hb : b < 3) (L : List AV) : isB (loop2 398 L (V2 1 1 rs.length (rs.map f5) (.res .u8 a 3) (.res .u8 b 3)) (TT R1_1 1)) = true := by
  rw [show loop2 398 = body4 E2 cy2 [] 399 (loop2 397) exit2 fin2 from loop2_succ 397]
  rcases Nat.eq_or_lt_of_le h1 with h | h
  · rw [← h]
    rcases a with _ | _ | _ | a
    · rcases b with _ | _ | _ | b
      · exact exit1_1_0_0 _ _ _
      · exact exit1_1_0_1 _ _ _
      · exact exit1_1_0_2 _ _ _
      · omega
    · rcases b with _ | _ | _ | b
      · exact exit1_1_1_0 _ _ _
      · exact exit1_1_1_1 _ _ _
      · exact exit1_1_1_2 _ _ _
      · omega
    · rcases b with _ | _ | _ | b
      · exact exit1_1_2_0 _ _ _
      · exact exit1_1_2_1 _ _ _
      · exact exit1_1_2_2 _ _ _
      · omega
    · omega
  · obtain ⟨r0, r1, t, rfl⟩ := un1 h
    have hk : r1 < 5 := hr r1 (by simp)
    rcases r1 with _ | _ | _ | _ | _ | r1
    · show isB (body4 E2 cy2 [] 399 (loop2 397) exit2 fin2 L (V2 1 1 (t.length + 2) (f5 r0 :: .res .u8 0 5 :: t.map f5) (.res .u8 a 3) (.res .u8 b 3)) (TT R1_1 1)) = true
      rw [step1_1_0]
      exact lp2_1 (r0 :: 0 :: t) (by simp) h2 hr a b ha hb _
    · show isB (body4 E2 cy2 [] 399 (loop2 397) exit2 fin2 L (V2 1 1 (t.length + 2) (f5 r0 :: .res .u8 1 5 :: t.map f5) (.res .u8 a 3) (.res .u8 b 3)) (TT R1_1 1)) = true
      rw [step1_1_1]
      exact lp2_1 (r0 :: 1 :: t) (by simp) h2 hr a b ha hb _
    · show isB (body4 E2 cy2 [] 399 (loop2 397) exit2 fin2 L (V2 1 1 (t.length + 2) (f5 r0 :: .res .u8 2 5 :: t.map f5) (.res .u8 a 3) (.res .u8 b 3)) (TT R1_1 1)) = true
      rw [step1_1_2]
      exact lp2_2 (r0 :: 2 :: t) (by simp) h2 hr a b ha hb _
    · show isB (body4 E2 cy2 [] 399 (loop2 397) exit2 fin2 L (V2 1 1 (t.length + 2) (f5 r0 :: .res .u8 3 5 :: t.map f5) (.res .u8 a 3) (.res .u8 b 3)) (TT R1_1 1)) = true
      rw [step1_1_3]
      exact lp2_3 (r0 :: 3 :: t) (by simp) h2 hr a b ha hb _
    · show isB (body4 E2 cy2 [] 399 (loop2 397) exit2 fin2 L (V2 1 1 (t.length + 2) (f5 r0 :: .res .u8 4 5 :: t.map f5) (.res .u8 a 3) (.res .u8 b 3)) (TT R1_1 1)) = true
      rw [step1_1_4]
      exact lp2_3 (r0 :: 4 :: t) (by simp) h2 hr a b ha hb _
    · omega
theorem lp1_2 (rs : List Nat) (h1 : 1 ≤ rs.length) (h2 : rs.length ≤ 20) (hr : ∀ r ∈ rs, r < 5) (a b : Nat) (ha : a < 3) (hb : b < 3) (L : List AV) : isB (loop2 398 L (V2 1 2 rs.length (rs.map f5) (.res .u8 a 3) (.res .u8 b 3)) (TT R1_2 1)) = true := by
  rw [show loop2 398 = body4 E2 cy2 [] 399 (loop2 397) exit2 fin2 from loop2_succ 397]
  rcases Nat.eq_or_lt_of_le h1 with h | h
  · rw [← h]
    rcases a with _ | _ | _ | a
    · rcases b with _ | _ | _ | b
      · exact exit1_2_0_0 _ _ _
      · exact exit1_2_0_1 _ _ _
      · exact exit1_2_0_2 _ _ _
      · omega
    · rcases b with _ | _ | _ | b
      · exact exit1_2_1_0 _ _ _
      · exact exit1_2_1_1 _ _ _
      · exact exit1_2_1_2 _ _ _
      · omega
    · rcases b with _ | _ | _ | b
      · exact exit1_2_2_0 _ _ _
      · exact exit1_2_2_1 _ _ _
      · exact exit1_2_2_2 _ _ _
      · omega
    · omega
  · obtain ⟨r0, r1, t, rfl⟩ := un1 h
    have hk : r1 < 5 := hr r1 (by simp)
    rcases r1 with _ | _ | _ | _ | _ | r1
    · show isB (body4 E2 cy2 [] 399 (loop2 397) exit2 fin2 L (V2 1 2 (t.length + 2) (f5 r0 :: .res .u8 0 5 :: t.map f5) (.res .u8 a 3) (.res .u8 b 3)) (TT R1_2 1)) = true
      rw [step1_2_0]
      exact lp2_1 (r0 :: 0 :: t) (by simp) h2 hr a b ha hb _
    · show isB (body4 E2 cy2 [] 399 (loop2 397) exit2 fin2 L (V2 1 2 (t.length + 2) (f5 r0 :: .res .u8 1 5 :: t.map f5) (.res .u8 a 3) (.res .u8 b 3)) (TT R1_2 1)) = true
      rw [step1_2_1]
      exact lp2_1 (r0 :: 1 :: t) (by simp) h2 hr a b ha hb _
    · show isB (body4 E2 cy2 [] 399 (loop2 397) exit2 fin2 L (V2 1 2 (t.length + 2) (f5 r0 :: .res .u8 2 5 :: t.map f5) (.res .u8 a 3) (.res .u8 b 3)) (TT R1_2 1)) = true
      rw [step1_2_2]
      exact lp2_2 (r0 :: 2 :: t) (by simp) h2 hr a b ha hb _
    · show isB (body4 E2 cy2 [] 399 (loop2 397) exit2 fin2 L (V2 1 2 (t.length + 2) (f5 r0 :: .res .u8 3 5 :: t.map f5) (.res .u8 a 3) (.res .u8 b 3)) (TT R1_2 1)) = true
      rw [step1_2_3]
      exact lp2_3 (r0 :: 3 :: t) (by simp) h2 hr a b ha hb _
    · show isB (body4 E2 cy2 [] 399 (loop2 397) exit2 fin2 L (V2 1 2 (t.length + 2) (f5 r0 :: .res .u8 4 5 :: t.map f5) (.res .u8 a 3) (.res .u8 b 3)) (TT R1_2 1)) = true
      rw [step1_2_4]
      exact lp2_3 (r0 :: 4 :: t) (by simp) h2 hr a b ha hb _
    · omega
theorem lp1_3 (rs : List Nat) (h1 : 1 ≤ rs.length) (h2 : rs.length ≤ 20) (hr : ∀ r ∈ rs, r < 5) (a b : Nat) (ha : a < 3) (hb : b < 3) (L : List AV) : isB (loop2 398 L (V2 1 3 rs.length (rs.map f5) (.res .u8 a 3) (.res .u8 b 3)) (TT R1_3 1)) = true := by
  rw [show loop2 398 = body4 E2 cy2 [] 399 (loop2 397) exit2 fin2 from loop2_succ 397]
  rcases Nat.eq_or_lt_of_le h1 with h | h
  · rw [← h]
    rcases a with _ | _ | _ | a
    · rcases b with _ | _ | _ | b
      · exact exit1_3_0_0 _ _ _
      · exact exit1_3_0_1 _ _ _
      · exact exit1_3_0_2 _ _ _
      · omega
    · rcases b with _ | _ | _ | b
      · exact exit1_3_1_0 _ _ _
      · exact exit1_3_1_1 _ _ _
      · exact exit1_3_1_2 _ _ _
      · omega
    · rcases b with _ | _ | _ | b
      · exact exit1_3_2_0 _ _ _
      · exact exit1_3_2_1 _ _ _
      · exact exit1_3_2_2 _ _ _
      · omega
    · omega
  · obtain ⟨r0, r1, t, rfl⟩ := un1 h
    have hk : r1 < 5 := hr r1 (by simp)
    rcases r1 with _ | _ | _ | _ | _ | r1
    · show isB (body4 E2 cy2 [] 399 (loop2 397) exit2 fin2 L (V2 1 3 (t.length + 2) (f5 r0 :: .res .u8 0 5 :: t.map f5) (.res .u8 a 3) (.res .u8 b 3)) (TT R1_3 1)) = true
      rw [step1_3_0]
      exact lp2_1 (r0 :: 0 :: t) (by simp) h2 hr a b ha hb _
    · show isB (body4 E2 cy2 [] 399 (loop2 397) exit2 fin2 L (V2 1 3 (t.length + 2) (f5 r0 :: .res .u8 1 5 :: t.map f5) (.res .u8 a 3) (.res .u8 b 3)) (TT R1_3 1)) = true
      rw [step1_3_1]
      exact lp2_1 (r0 :: 1 :: t) (by simp) h2 hr a b ha hb _
    · show isB (body4 E2 cy2 [] 399 (loop2 397) exit2 fin2 L (V2 1 3 (t.length + 2) (f5 r0 :: .res .u8 2 5 :: t.map f5) (.res .u8 a 3) (.res .u8 b 3)) (TT R1_3 1)) = true
      rw [step1_3_2]
      exact lp2_2 (r0 :: 2 :: t) (by simp) h2 hr a b ha hb _
    · show isB (body4 E2 cy2 [] 399 (loop2 397) exit2 fin2 L (V2 1 3 (t.length + 2) (f5 r0 :: .res .u8 3 5 :: t.map f5) (.res .u8 a 3) (.res .u8 b 3)) (TT R1_3 1)) = true
      rw [step1_3_3]
      exact lp2_3 (r0 :: 3 :: t) (by simp) h2 hr a b ha hb _
    · show isB (body4 E2 cy2 [] 399 (loop2 397) exit2 fin2 L (V2 1 3 (t.length + 2) (f5 r0 :: .res .u8 4 5 :: t.map f5) (.res .u8 a 3) (.res .u8 b 3)) (TT R1_3 1)) = true
      rw [step1_3_4]
      exact lp2_3 (r0 :: 4 :: t) (by simp) h2 hr a b ha hb _
    · omega
theorem lp0_0 (rs : List Nat) (h1 : 0 ≤ rs.length) (h2 : rs.length ≤ 20) (hr : ∀ r ∈ rs, r < 5) (a b : Nat) (ha : a < 3) (hb : b < 3) (L : List AV) : isB (loop2 399 L (V2 0 2 rs.length (rs.map f5) (.res .u8 a 3) (.res .u8 b 3)) (TT R0_0 0)) = true := by
  rw [show loop2 399 = body4 E2 cy2 [] 399 (loop2 398) exit2 fin2 from loop2_succ 398]
  rcases Nat.eq_or_lt_of_le h1 with h | h
  · rw [← h]
    rcases a with _ | _ | _ | a
    · rcases b with _ | _ | _ | b
      · exact exit0_0_0_0 _ _ _
      · exact exit0_0_0_1 _ _ _
      · exact exit0_0_0_2 _ _ _
      · omega
    · rcases b with _ | _ | _ | b
      · exact exit0_0_1_0 _ _ _
      · exact exit0_0_1_1 _ _ _
      · exact exit0_0_1_2 _ _ _
      · omega
    · rcases b with _ | _ | _ | b
      · exact exit0_0_2_0 _ _ _
      · exact exit0_0_2_1 _ _ _
      · exact exit0_0_2_2 _ _ _
      · omega
    · omega
  · obtain ⟨r0, t, rfl⟩ := un0 h
    have hk : r0 < 5 := hr r0 (by simp)
    rcases r0 with _ | _ | _ | _ | _ | r0
    · show isB (body4 E2 cy2 [] 399 (loop2 398) exit2 fin2 L (V2 0 2 (t.length + 1) (.res .u8 0 5 :: t.map f5) (.res .u8 a 3) (.res .u8 b 3)) (TT R0_0 0)) = true
      rw [step0_0_0]
      exact lp1_1 (0 :: t) (by simp) h2 hr a b ha hb _
    · show isB (body4 E2 cy2 [] 399 (loop2 398) exit2 fin2 L (V2 0 2 (t.length + 1) (.res .u8 1 5 :: t.map f5) (.res .u8 a 3) (.res .u8 b 3)) (TT R0_0 0)) = true
      rw [step0_0_1]
      exact lp1_1 (1 :: t) (by simp) h2 hr a b ha hb _
    · show isB (body4 E2 cy2 [] 399 (loop2 398) exit2 fin2 L (V2 0 2 (t.length + 1) (.res .u8 2 5 :: t.map f5) (.res .u8 a 3) (.res .u8 b 3)) (TT R0_0 0)) = true
      rw [step0_0_2]
      exact lp1_2 (2 :: t) (by simp) h2 hr a b ha hb _
    · show isB (body4 E2 cy2 [] 399 (loop2 398) exit2 fin2 L (V2 0 2 (t.length + 1) (.res .u8 3 5 :: t.map f5) (.res .u8 a 3) (.res .u8 b 3)) (TT R0_0 0)) = true
      rw [step0_0_3]
      exact lp1_3 (3 :: t) (by simp) h2 hr a b ha hb _
    · show isB (body4 E2 cy2 [] 399 (loop2 398) exit2 fin2 L (V2 0 2 (t.length + 1) (.res .u8 4 5 :: t.map f5) (.res .u8 a 3) (.res .u8 b 3)) (TT R0_0 0)) = true
      rw [step0_0_4]
      exact lp1_3 (4 :: t) (by simp) h2 hr a b ha hb _
    · omega
theorem start_all (n : Nat) (h : n ≤ 20) (cells : List AV) (a b : AV) (K : KB) (kx : Nat → KB) (kr : KB) : pre4 E2 cy2 [] 399 K kx kr [] [.sl n cells false, .undef, .undef, a, b, .undef, .undef, .undef, .undef] .nil = K [] (V2 0 2 n cells a b) (TT R0_0 0) := by
  rcases n with _ | _ | _ | _ | _ | _ | _ | _ | _ | _ | _ | _ | _ | _ | _ | _ | _ | _ | _ | _ | _ | n
  · exact start0 _ _ _ _ _ _
  · exact start1 _ _ _ _ _ _
  · exact start2 _ _ _ _ _ _
  · exact start3 _ _ _ _ _ _
  · exact start4 _ _ _ _ _ _
  · exact start5 _ _ _ _ _ _
  · exact start6 _ _ _ _ _ _
  · exact start7 _ _ _ _ _ _
  · exact start8 _ _ _ _ _ _
  · exact start9 _ _ _ _ _ _
  · exact start10 _ _ _ _ _ _
  · exact start11 _ _ _ _ _ _
  · exact start12 _ _ _ _ _ _
  · exact start13 _ _ _ _ _ _
  · exact start14 _ _ _ _ _ _
  · exact start15 _ _ _ _ _ _
  · exact start16 _ _ _ _ _ _
  · exact start17 _ _ _ _ _ _
  · exact start18 _ _ _ _ _ _
  · exact start19 _ _ _ _ _ _
  · exact start20 _ _ _ _ _ _
  · omega

theorem body_eq (n : Nat) (cells : List AV) (a b : AV) : bodyZ E2 cy2 [] 399 (G4 E2) [.sl n cells false, a, b] .nil = (G4 E2).z cy2 [] 399 fin2 kx2 fin2 [] [.sl n cells false, .undef, .undef, a, b, .undef, .undef, .undef, .undef] .nil := by kernel_rfl
theorem vc_body (rs : List Nat) (hr : ∀ r ∈ rs, r < 5) (a b : Nat) (ha : a < 3) (hb : b < 3) : isB (bodyZ E2 cy2 [] 399 (G4 E2) [.sl rs.length (rs.map f5) false, .res .u8 a 3, .res .u8 b 3] .nil) = true := by
  rw [body_eq, whole]
  rcases Nat.lt_or_ge 20 rs.length with h | h
  · obtain ⟨d, hd⟩ : ∃ d, rs.length = d + 21 := ⟨rs.length - 21, by omega⟩
    rw [hd]
    exact start_big _ _ _ _ _ _
  · rw [start_all _ h]
    exact lp0_0 rs (Nat.zero_le _) h hr a b ha hb _
theorem callz_eq (args : List AV) : callZ E2 (GE E2) (LZ E2) 400 [] (.func 4) args .nil = callPure E2 cy2 399 (G4 E2) args .nil := by kernel_rfl
theorem pure_eq (n : Nat) (cells : List AV) (a b : Nat) : callPure E2 cy2 399 (G4 E2) [.sl n cells false, .res .u8 a 3, .res .u8 b 3] .nil = ansB (bodyZ E2 cy2 [] 399 (G4 E2) [.sl n cells false, .res .u8 a 3, .res .u8 b 3] .nil) (fun r H2 => fzZ none H2 fzDeep r fun r' _ => ifR (flat r') (some (r', .nil, ⟨[] ++ [], [], false⟩)) (markZ .nil [] fun H => some (r', H, ⟨[] ++ [], [], false⟩))) := by kernel_rfl
theorem ansB_true (H : TH) : isT (ansB (some (.bool true, H)) (fun r H2 => fzZ none H2 fzDeep r fun r' _ => ifR (flat r') (some (r', .nil, ⟨[] ++ [], [], false⟩)) (markZ .nil [] fun H => some (r', H, ⟨[] ++ [], [], false⟩)))) = true := by kernel_rfl
theorem vc_call (rs : List Nat) (hr : ∀ r ∈ rs, r < 5) (a b : Nat) (ha : a < 3) (hb : b < 3) : ∃ H acc, callA E2 400 (.func 4) [.sl rs.length (rs.map f5) false, .res .u8 a 3, .res .u8 b 3] [] = some (.bool true, H, acc) := by
  have h : isT (callZ E2 (GE E2) (LZ E2) 400 [] (.func 4) [.sl rs.length (rs.map f5) false, .res .u8 a 3, .res .u8 b 3] .nil) = true := by
    rw [callz_eq, pure_eq]
    obtain ⟨H, hB⟩ := isB_ok (vc_body rs hr a b ha hb)
    rw [hB]
    exact ansB_true H
  obtain ⟨H, acc, h⟩ := isT_ok h
  obtain ⟨H1, h⟩ := z_ok rfl rfl nl2 hnp2 h
  exact ⟨H1, acc, h⟩

theorem nonneg8 {a : Int} (h : (Lit.int .u8 a).wf = true) : 0 ≤ a := by
  have h1 : IntKind.u8.min = 0 := rfl
  simp [Lit.wf] at h
  omega


/-- The walk: over a slice of bytes, nil or not. -/
theorem the_walk (v : Value) (zs : List Int) (x y : Int) (wz : ∀ z ∈ zs, (Lit.int .u8 z).wf = true) (wx : (Lit.int .u8 x).wf = true) (wy : (Lit.int .u8 y).wf = true) (w : World)
    (hv : (v = .slice none 0 0 ∧ zs = []) ∨ ∃ a c, v = .slice (some a) zs.length c ∧ zs.length ≤ c ∧ (zs = [] ∨ a.spot = none) ∧ ∀ i (h : i < zs.length), w.cell? ⟨a.block, a.off + i, none⟩ = some (.int .u8 zs[i])) :
    Calls Try.prog 4 #[v, .int .u8 x, .int .u8 y] w fun e w' => e = .returned (.bool true) ∧ Go.Px.GrownO w w' := by
  obtain ⟨rs, hrs⟩ : ∃ rs, rs = zs.map fun z => z.toNat % 5 := ⟨_, rfl⟩
  have hlen : rs.length = zs.length := by rw [hrs]; simp
  obtain ⟨H, acc, h⟩ := vc_call rs (fun r hr => by rw [hrs] at hr; obtain ⟨z, _, rfl⟩ := List.mem_map.1 hr; exact Nat.mod_lt _ (by decide)) (x.toNat % 3) (y.toNat % 3) (Nat.mod_lt _ (by decide)) (Nat.mod_lt _ (by decide))
  have hxy : ∀ (S : Sett), RepL m0 S w false [.int .u8 x, .int .u8 y] [.res .u8 (x.toNat % 3) 3, .res .u8 (y.toNat % 3) 3] := fun S => .cons _ _ _ _ _ (.res _ _ _ _ _ (nonneg8 wx) rfl) (.cons _ _ _ _ _ (.res _ _ _ _ _ (nonneg8 wy) rfl) (.nil _))
  rcases hv with ⟨rfl, rfl⟩ | ⟨a, c, rfl, hc, hsp, hcell⟩
  · have : rs = [] := by rw [hrs]; rfl
    subst this
    exact pure_grown env2 fr2 ok2 mixed h (S := fun _ _ => False) (fun _ _ h => h.elim) (.cons _ _ _ _ _ (.nilsl _ _) (hxy _))
  · refine pure_grown env2 fr2 ok2 mixed h (S := fun b j => b = a.block ∧ a.off ≤ j ∧ j < a.off + zs.length) (fun b j hj => ?_) (.cons _ _ _ _ _ ?_ (hxy _))
    · obtain ⟨rfl, h1, h2⟩ := hj
      obtain ⟨d, rfl⟩ := Nat.exists_eq_add_of_le h1
      rw [hcell d (by omega)]; rfl
    · rw [← hlen]
      refine .sl _ _ _ _ _ _ (by omega) (fun h => by cases h) ?_
      rcases hsp with h0 | h0
      · have : rs = [] := by rw [hrs, h0]; rfl
        subst this; exact .nil _
      · obtain ⟨ab, ao, asp⟩ := a
        simp only at h0; subst h0
        refine Row.of_get fun i y hy => ?_
        rw [hrs] at hy
        simp only [List.map_map, List.getElem?_map, Option.map_eq_some_iff, Function.comp] at hy
        obtain ⟨z, hz, rfl⟩ := hy
        obtain ⟨hi, rfl⟩ := List.getElem?_eq_some_iff.1 hz
        exact ⟨⟨rfl, Nat.le_add_right _ _, by simp only; omega⟩, _, hcell i hi, .res _ _ _ _ _ (nonneg8 (wz _ (List.getElem_mem hi))) rfl, rfl⟩

end Go.Proofs.PxV1
