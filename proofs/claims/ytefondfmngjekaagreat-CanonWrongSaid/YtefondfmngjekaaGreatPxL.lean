/- A region's order does not count. -/
import Derived.Test.YtefondfmngjekaaGreatPxK
set_option linter.unusedVariables false
set_option linter.unusedSimpArgs false
namespace Go.Px
open Go

/-- A row of steps, each with its accesses. -/
def RunL (F : Nat → St → Option (St × Acc)) (A : Nat → Acc) : List Nat → St → St → Prop
  | [], s, s' => s = s'
  | i :: l, s, s' => ∃ s1, F i s = some (s1, A i) ∧ RunL F A l s1 s'

section
variable {F : Nat → St → Option (St × Acc)} {A : Nat → Acc}

theorem RunL.append : ∀ {l l' : List Nat} {s s' : St}, RunL F A (l ++ l') s s' ↔ ∃ s1, RunL F A l s s1 ∧ RunL F A l' s1 s'
  | [], l', s, s' => ⟨fun h => ⟨s, rfl, h⟩, fun ⟨_, h, k⟩ => by cases h; exact k⟩
  | i :: l, l', s, s' => ⟨fun ⟨s1, h, k⟩ => let ⟨s2, a, b⟩ := RunL.append.1 k; ⟨s2, ⟨s1, h, a⟩, b⟩, fun ⟨s2, ⟨s1, h, a⟩, b⟩ => ⟨s1, h, RunL.append.2 ⟨s2, a, b⟩⟩⟩

theorem RunL.front {dst : Nat → Option Nat} {lk : Nat → List Nat} (hF : ∀ i, Framed (dst i) (lk i) (F i)) {n : Nat} : ∀ {l : List Nat} {s s' : St},
    (∀ j ∈ l, Sep (dst j) (lk j) (dst n) (lk n) ∧ (A j).meets (A n) = false) → RunL F A (l ++ [n]) s s' → RunL F A (n :: l) s s'
  | [], s, s', _, h => h
  | j :: l, s, s', hj, h => by
    obtain ⟨s1, h1, h2⟩ := h
    obtain ⟨s2, h3, h4⟩ := RunL.front hF (l := l) (fun k hk => hj k (List.mem_cons_of_mem _ hk)) h2
    obtain ⟨hs, hm⟩ := hj j (by simp)
    obtain ⟨s1', a, b⟩ := (hF j).comm (hF n) hs h1 h3 hm
    exact ⟨s1', a, s2, b, h4⟩

/-- ANY ORDER THAT KEEPS WHAT IS BOUND DOES AS THE TEXT's. -/
theorem reorder {dst : Nat → Option Nat} {lk : Nat → List Nat} {B : Nat → Nat → Prop} (hF : ∀ i, Framed (dst i) (lk i) (F i)) : ∀ (n : Nat) (l : List Nat) (s s' : St), RunL F A (List.range n) s s' → l.Perm (List.range n) →
    l.Pairwise (fun a b => ¬ B a b) → (∀ i j, j < i → i < n → ¬ B i j → Sep (dst j) (lk j) (dst i) (lk i) ∧ (A j).meets (A i) = false) → RunL F A l s s'
  | 0, l, s, s', h, hp, _, _ => by
    have : l = [] := by simpa using hp
    subst this; exact h
  | n + 1, l, s, s', h, hp, hw, ha => by
    have hn : n ∈ l := hp.mem_iff.2 (by simp)
    obtain ⟨l1, l2, rfl⟩ := List.append_of_mem hn
    rw [List.range_succ] at h hp
    obtain ⟨sm, h1, s1, h2, h3⟩ := RunL.append.1 h
    cases h3
    have hp' : (l1 ++ l2).Perm (List.range n) := by
      have h1 : (n :: (l1 ++ l2)).Perm (n :: List.range n) := (List.perm_middle.symm.trans hp).trans (List.perm_append_singleton n (List.range n))
      exact h1.cons_inv
    rw [List.pairwise_append] at hw
    obtain ⟨w1, w2, w3⟩ := hw
    rw [List.pairwise_cons] at w2
    have hw' : (l1 ++ l2).Pairwise (fun a b => ¬ B a b) := by
      rw [List.pairwise_append]
      exact ⟨w1, w2.2, fun a ha b hb => w3 a ha b (List.mem_cons_of_mem _ hb)⟩
    have ih := reorder hF n (l1 ++ l2) s sm h1 hp' hw' (fun i j hji hi => ha i j hji (by omega))
    obtain ⟨s2, k1, k2⟩ := RunL.append.1 ih
    refine RunL.append.2 ⟨s2, k1, RunL.front hF (fun j hj => ?_) (RunL.append.2 ⟨sm, k2, _, h2, rfl⟩)⟩
    have hjn : j < n := by
      have : j ∈ List.range n := hp'.mem_iff.1 (List.mem_append_right _ hj)
      simpa using this
    exact ha n j hjn (by omega) (w2.1 j hj)
end

/-! ### which orders there are -/
def Bef (ops : List Oper) (a b : Nat) : Prop := ((beforeA ops).getD a 0).testBit b = true

theorem befStep_eq (acc : List Nat) (o : Oper) : befStep acc o = acc ++ [o.after.toList.foldl (fun m e => if Region.binds .any e then Nat.lor m (Nat.lor (Nat.pow 2 e.on) (acc.getD e.on 0)) else m) 0] := by
  unfold befStep; rw [fS_eq]

theorem foldl_bits (acc : List Nat) (b : Nat) : ∀ (l : List Edge) (m : Nat), (l.foldl (fun m e => if Region.binds .any e then Nat.lor m (Nat.lor (Nat.pow 2 e.on) (acc.getD e.on 0)) else m) m).testBit b = true →
    m.testBit b = true ∨ ∃ e ∈ l, Region.binds .any e = true ∧ (e.on = b ∨ (acc.getD e.on 0).testBit b = true)
  | [], m, h => .inl h
  | e :: l, m, h => by
    rw [List.foldl_cons] at h
    rcases foldl_bits acc b l _ h with h1 | ⟨e', he, h1, h2⟩
    · by_cases hb : Region.binds .any e = true
      · rw [if_pos hb] at h1
        have h1 : (m ||| ((2 ^ e.on) ||| (acc.getD e.on 0))).testBit b = true := h1
        rw [Nat.testBit_or, Nat.testBit_or, Nat.testBit_two_pow] at h1
        simp only [Bool.or_eq_true, decide_eq_true_eq] at h1
        rcases h1 with h1 | h1 | h1
        · exact .inl h1
        · exact .inr ⟨e, by simp, hb, .inl h1⟩
        · exact .inr ⟨e, by simp, hb, .inr h1⟩
      · rw [if_neg hb] at h1; exact .inl h1
    · exact .inr ⟨e', List.mem_cons_of_mem _ he, h1, h2⟩

theorem befFold : ∀ (ops : List Oper) (acc : List Nat), ∃ more, ops.foldl befStep acc = acc ++ more ∧ more.length = ops.length ∧
    ∀ a b o, ops[a]? = some o → ((acc ++ more).getD (acc.length + a) 0).testBit b = true → ∃ e ∈ o.after.toList, Region.binds .any e = true ∧ (e.on = b ∨ ((acc ++ more).getD e.on 0).testBit b = true)
  | [], acc => ⟨[], by simp, rfl, fun a b o h => by simp at h⟩
  | o :: ops, acc => by
    rw [List.foldl_cons, befStep_eq]
    obtain ⟨more, h1, h2, h3⟩ := befFold ops (acc ++ [o.after.toList.foldl (fun m e => if Region.binds .any e then Nat.lor m (Nat.lor (Nat.pow 2 e.on) (acc.getD e.on 0)) else m) 0])
    refine ⟨(o.after.toList.foldl (fun m e => if Region.binds .any e then Nat.lor m (Nat.lor (Nat.pow 2 e.on) (acc.getD e.on 0)) else m) 0) :: more, by rw [h1]; simp, by simp [h2], fun a b q hq ht => ?_⟩
    cases a with
    | zero =>
      simp at hq; subst hq
      have hgz : ∀ (x : Nat), (acc ++ x :: more).getD (acc.length + 0) 0 = x := fun x => by simp [List.getD_eq_getElem?_getD]
      rw [hgz] at ht
      rcases foldl_bits acc b _ _ ht with h | ⟨e, he, hb, h⟩
      · simp at h
      · refine ⟨e, he, hb, h.imp id fun h => ?_⟩
        by_cases hl : e.on < acc.length
        · rw [List.getD_eq_getElem?_getD, List.getElem?_append_left hl, ← List.getD_eq_getElem?_getD]; exact h
        · rw [List.getD_eq_getElem?_getD, List.getElem?_eq_none (by omega)] at h
          simp at h
    | succ a =>
      have := h3 a b q (by simpa using hq)
      simp only [List.append_assoc, List.singleton_append, List.length_append, List.length_singleton] at this
      exact this (by rw [show acc.length + 1 + a = acc.length + (a + 1) by omega]; exact ht)

theorem bef_spec {ops : List Oper} {a b : Nat} (h : Bef ops a b) : ∃ o, ops[a]? = some o ∧ ∃ e ∈ o.after.toList, Region.binds .any e = true ∧ (e.on = b ∨ Bef ops e.on b) := by
  obtain ⟨more, h1, h2, h3⟩ := befFold ops []
  have hb : beforeA ops = more := by unfold beforeA; rw [h1]; rfl
  unfold Bef at h ⊢
  rw [hb] at h ⊢
  cases ho : ops[a]? with
  | none =>
    rw [List.getD_eq_getElem?_getD, List.getElem?_eq_none (by rw [h2]; exact List.getElem?_eq_none_iff.1 ho)] at h
    simp at h
  | some o => exact ⟨o, rfl, by simpa using h3 a b o ho (by simpa using h)⟩

theorem mem_unl {n : Nat} {listed : Array Bool} {i : Nat} : i ∈ (List.range n).filter (fun i => !listed.getD i true) ↔ i < n ∧ listed.getD i true = false := by simp

theorem nodup_filter {α : Type} {l : List α} (h : l.Nodup) (p : α → Bool) : (l.filter p).Nodup := List.Pairwise.sublist List.filter_sublist h

theorem getD_set {listed : Array Bool} {i k : Nat} (hi : i < listed.size) : (listed.setIfInBounds i true).getD k true = if k = i then true else listed.getD k true := by
  simp only [Array.getD_eq_getD_getElem?, Array.getElem?_setIfInBounds]
  by_cases h : i = k
  · subst h; simp [hi]
  · have h' : ¬ k = i := fun e => h e.symm
    simp [h, h']

theorem lin_ok {ops : Array Oper} (hback : ∀ (i : Nat) (o : Oper), ops[i]? = some o → ∀ e ∈ o.after.toList, Region.binds .any e = true → e.on < i) : ∀ (fuel t : Nat) (listed : Array Bool), listed.size = ops.size →
    ((List.range ops.size).filter (fun i => !listed.getD i true)).length ≤ fuel → (∀ a, listed.getD a false = true → ∀ b, Bef ops.toList a b → listed.getD b false = true) →
    let l := Region.linearise.go .any ops fuel t listed []
    l.Nodup ∧ (∀ i, i ∈ l ↔ i < ops.size ∧ listed.getD i true = false) ∧ l.Pairwise (fun a b => ¬ Bef ops.toList a b) := by
  intro fuel
  induction fuel with
  | zero =>
    intro t listed hsz hl hcl
    have hnil : (List.range ops.size).filter (fun i => !listed.getD i true) = [] := by
      cases h : (List.range ops.size).filter (fun i => !listed.getD i true) with
      | nil => rfl
      | cons x l => rw [h] at hl; simp at hl
    simp only [Region.linearise.go, List.reverse_nil]
    refine ⟨List.Pairwise.nil, fun i => ?_, List.Pairwise.nil⟩
    rw [← mem_unl, hnil]
  | succ fuel ih =>
    intro t listed hsz hl hcl
    have hlt : ∀ i, listed.getD i true = false → i < ops.size := fun i h => by
      rcases Nat.lt_or_ge i listed.size with q | q
      · omega
      · rw [Array.getD_eq_getD_getElem?, Array.getElem?_eq_none q] at h; simp at h
    have hft : ∀ i, listed.getD i false = true ↔ (i < ops.size ∧ listed.getD i true = true) := fun i => by
      rcases Nat.lt_or_ge i listed.size with q | q
      · simp [Array.getD_eq_getD_getElem?, q]; omega
      · simp [Array.getD_eq_getD_getElem?, Array.getElem?_eq_none q]; omega
    -- some operation is ready
    have hready : ∀ i, listed.getD i true = false → ∃ j, j ∈ Region.ready .any ops listed := by
      intro i
      induction i using Nat.strongRecOn with
      | _ i ihs =>
        intro hi
        have hio := hlt i hi
        by_cases hall : ∀ e ∈ ops[i].after.toList, Region.binds .any e = true → listed.getD e.on false = true
        · refine ⟨i, ?_⟩
          unfold Region.ready
          simp only [List.mem_filter, List.mem_range]
          refine ⟨hio, ?_⟩
          rw [hi, Array.getElem?_eq_getElem hio]
          simp only [Bool.not_false, Bool.true_and, Option.map_some, Option.getD_some]
          rw [← Array.all_toList, List.all_eq_true]
          intro e he
          by_cases hb : Region.binds .any e = true
          · simp [hb, hall e he hb]
          · simp [hb]
        · simp only [Classical.not_forall] at hall
          obtain ⟨e, he, hb, hn⟩ := hall
          have hlt2 := hback i _ (Array.getElem?_eq_getElem hio) e he hb
          refine ihs e.on hlt2 ?_
          cases hq : listed.getD e.on true with
          | false => rfl
          | true => exact absurd ((hft e.on).2 ⟨by omega, hq⟩) hn
    simp only [Region.linearise.go]
    change (let l := (match (Region.ready .any ops listed)[t % (Region.ready .any ops listed).length]? with
      | some i => Region.linearise.go .any ops fuel (t / (Region.ready .any ops listed).length) (listed.setIfInBounds i true) [i]
      | none => [].reverse); l.Nodup ∧ (∀ i, i ∈ l ↔ i < ops.size ∧ listed.getD i true = false) ∧ l.Pairwise (fun a b => ¬ Bef ops.toList a b))
    cases hi : (Region.ready .any ops listed)[t % (Region.ready .any ops listed).length]? with
    | none =>
      have hnil : Region.ready .any ops listed = [] := by
        cases hr : Region.ready .any ops listed with
        | nil => rfl
        | cons x xs =>
          rw [hr] at hi
          have hlt : t % (x :: xs).length < (x :: xs).length := Nat.mod_lt _ (by simp)
          simp at hi
          simp at hlt
          omega
      simp only [List.reverse_nil]
      refine ⟨List.Pairwise.nil, fun i => ⟨fun h => (by cases h), fun h => ?_⟩, List.Pairwise.nil⟩
      obtain ⟨j, hj⟩ := hready i h.2
      rw [hnil] at hj; cases hj
    | some i =>
      have him := List.mem_of_getElem? hi
      obtain ⟨hun, o, ho, hall⟩ := mem_ready.1 him
      have hio : i < ops.size := hlt i hun
      have hcl' : ∀ b, Bef ops.toList i b → listed.getD b false = true := fun b hb => by
        obtain ⟨o', ho', e, he, hbd, h⟩ := bef_spec hb
        have : o' = o := by
          rw [Array.getElem?_toList, ho] at ho'; exact (Option.some.inj ho').symm
        subst this
        have hon := hall e (by simpa using he) hbd
        rcases h with h | h
        · rw [← h]; exact hon
        · exact hcl _ hon _ h
      have hset : ∀ k d, (listed.setIfInBounds i true).getD k d = if k = i then true else listed.getD k d := fun k d => by
        simp only [Array.getD_eq_getD_getElem?, Array.getElem?_setIfInBounds]
        by_cases h : i = k
        · subst h; simp [hsz, hio]
        · have h' : ¬ k = i := fun e => h e.symm
          simp [h, h']
      have hmem : ∀ k, k ∈ (List.range ops.size).filter (fun k => !(listed.setIfInBounds i true).getD k true) ↔ k ≠ i ∧ k ∈ (List.range ops.size).filter (fun k => !listed.getD k true) := fun k => by
        rw [mem_unl, mem_unl, hset]
        by_cases h : k = i <;> simp [h]
      have hperm : (i :: (List.range ops.size).filter (fun k => !(listed.setIfInBounds i true).getD k true)).Perm ((List.range ops.size).filter (fun k => !listed.getD k true)) := by
        rw [List.perm_ext_iff_of_nodup]
        · intro k
          rw [List.mem_cons, hmem]
          constructor
          · rintro (rfl | h)
            · rw [mem_unl]; exact ⟨hio, hun⟩
            · exact h.2
          · intro h
            by_cases hk : k = i
            · exact .inl hk
            · exact .inr ⟨hk, h⟩
        · rw [List.nodup_cons]
          exact ⟨fun h => ((hmem i).1 h).1 rfl, nodup_filter List.nodup_range _⟩
        · exact nodup_filter List.nodup_range _
      have hlen := hperm.length_eq
      simp only [List.length_cons] at hlen
      have := ih (t / (Region.ready .any ops listed).length) (listed.setIfInBounds i true) (by simpa using hsz) (by omega) (fun a ha b hb => by
        rw [hset] at ha ⊢
        by_cases hbi : b = i
        · simp [hbi]
        · rw [if_neg hbi]
          by_cases hai : a = i
          · subst hai; exact hcl' b hb
          · rw [if_neg hai] at ha; exact hcl a ha b hb)
      obtain ⟨g1, g2, g3⟩ := this
      simp only []
      rw [linearise_go_acc, List.reverse_singleton, List.singleton_append]
      refine ⟨?_, fun k => ?_, ?_⟩
      · rw [List.nodup_cons]
        refine ⟨fun h => ?_, g1⟩
        have := (g2 i).1 h
        rw [hset] at this
        simp at this
      · rw [List.mem_cons, g2, hset]
        by_cases hk : k = i
        · subst hk; simp [hio, hun]
        · simp [hk]
      · rw [List.pairwise_cons]
        refine ⟨fun b hb hB => ?_, g3⟩
        have h1 := (g2 b).1 hb
        rw [hset] at h1
        have h2 := (hft b).1 (hcl' b hB)
        by_cases hk : b = i
        · simp [hk] at h1
        · rw [if_neg hk, h2.2] at h1
          simp at h1

theorem schedule_ok {ops : Array Oper} (hback : ∀ (i : Nat) (o : Oper), ops[i]? = some o → ∀ e ∈ o.after.toList, Region.binds .any e = true → e.on < i) (t : Nat) :
    (Region.schedule true ops t).Perm (List.range ops.size) ∧ (Region.schedule true ops t).Pairwise (fun a b => ¬ Bef ops.toList a b) := by
  have hr : ∀ (i : Nat), i < ops.size → (Array.replicate ops.size false).getD i true = false := fun i h => by simp [Array.getD_eq_getD_getElem?, h]
  have hr2 : ∀ (i : Nat), (Array.replicate ops.size false).getD i false = false := fun i => by
    rcases Nat.lt_or_ge i ops.size with h | h
    · simp [Array.getD_eq_getD_getElem?, h]
    · simp [Array.getD_eq_getD_getElem?, h]
  obtain ⟨g1, g2, g3⟩ := lin_ok hback ops.size t (Array.replicate ops.size false) (by simp) (Nat.le_trans (List.length_filter_le _ _) (by simp)) (fun a ha => by rw [hr2] at ha; cases ha)
  have : Region.schedule true ops t = Region.linearise.go .any ops ops.size t (Array.replicate ops.size false) [] := by simp [Region.schedule, Region.linearise]
  rw [this]
  refine ⟨?_, g3⟩
  rw [List.perm_ext_iff_of_nodup g1 List.nodup_range]
  intro i
  rw [g2, List.mem_range]
  exact ⟨fun h => h.1, fun h => ⟨h, hr i h⟩⟩
end Go.Px
