/- Regions. -/
import Derived.Test.YtefondfmngjekaaGreatPxO
set_option linter.unusedVariables false
set_option linter.unusedSimpArgs false
namespace Go.Px
open Go

section
variable {P : Program} {E : Env} {base : Nat} {m : Mu} {S : Sett} {w : World} {F : Fence} {n : Nat}

theorem runOps_seq {call : CallT} {ops : List Oper} : ∀ (rest : List Oper) (i : Nat) {st st' : St}, ops.drop i = rest → runOps E call ops rest st = some st' → RunS (stepAt E call ops (fun _ => none)) (List.range' i rest.length) st st'
  | [], i, st, st', _, h => by simpa [runOps, RunS] using h
  | o :: rest, i, st, st', hd, h => by
    simp only [runOps, Option.bind_eq_bind] at h
    cases h1 : runOpG E call ops none o st with
    | none => simp [h1] at h
    | some q =>
      obtain ⟨s1, acc⟩ := q
      simp only [h1, Option.bind_some] at h
      have ho : ops[i]? = some o := by
        have := congrArg (fun l => l[0]?) hd
        simpa using this
      have hd' : ops.drop (i + 1) = rest := by rw [← List.drop_drop, hd]; rfl
      simp only [List.length_cons, List.range'_succ]
      exact ⟨s1, acc, by simp [stepAt, ho, h1], runOps_seq rest (i + 1) hd' h⟩

theorem runDraw_seq {call : CallT} {ops : List Oper} {n0 : Nat} : ∀ (rest : List Oper) (i : Nat) {st st' : St} {accs accs' : List Acc}, ops.drop i = rest → accs.length = i → runDraw E call ops n0 rest i st accs = some (st', accs') →
    accs'.length = i + rest.length ∧ (∀ j, j < i → accs'.getD j Acc.none = accs.getD j Acc.none) ∧ RunL (stepAt E call ops (slotA n0 ops)) (fun j => accs'.getD j Acc.none) (List.range' i rest.length) st st'
  | [], i, st, st', accs, accs', _, hl, h => by
    simp only [runDraw] at h
    simp at h; obtain ⟨rfl, rfl⟩ := h
    exact ⟨by simp [hl], fun _ _ => rfl, rfl⟩
  | o :: rest, i, st, st', accs, accs', hd, hl, h => by
    simp only [runDraw, Option.bind_eq_bind] at h
    cases h1 : runOpG E call ops (slotA n0 ops i) o st with
    | none => simp [h1] at h
    | some q =>
      obtain ⟨s1, acc⟩ := q
      simp only [h1, Option.bind_some] at h
      have ho : ops[i]? = some o := by
        have := congrArg (fun l => l[0]?) hd
        simpa using this
      have hd' : ops.drop (i + 1) = rest := by rw [← List.drop_drop, hd]; rfl
      obtain ⟨g1, g2, g3⟩ := runDraw_seq rest (i + 1) hd' (by simp [hl]) h
      refine ⟨by simp at g1 ⊢; omega, fun j hj => ?_, ?_⟩
      · rw [g2 j (by omega)]
        simp only [List.getD_eq_getElem?_getD]
        rw [List.getElem?_append_left (by omega)]
      · simp only [List.length_cons, List.range'_succ]
        refine ⟨s1, ?_, g3⟩
        have : accs'.getD i Acc.none = acc := by
          rw [g2 i (by omega)]
          simp only [List.getD_eq_getElem?_getD]
          rw [List.getElem?_append_right (by omega)]
          simp [hl]
        show stepAt E call ops _ i st = some (s1, accs'.getD i Acc.none)
        rw [this]
        simp [stepAt, ho, h1]

theorem rank_succ {ops : List Oper} {i : Nat} {o : Oper} (h : ops[i]? = some o) : rankA ops (i + 1) = rankA ops i + if mayLay o.op then 1 else 0 := by
  unfold rankA
  rw [List.take_add_one, h, List.filter_append, List.length_append]
  congr 1
  by_cases hm : mayLay o.op = true <;> simp [hm]
theorem rank_mono {ops : List Oper} : ∀ (d i : Nat), rankA ops i ≤ rankA ops (i + d)
  | 0, i => Nat.le_refl _
  | d + 1, i => by
    refine Nat.le_trans (rank_mono d i) ?_
    rw [← Nat.add_assoc]
    cases h : ops[i + d]? with
    | none =>
      unfold rankA
      rw [List.take_of_length_le (by rw [List.getElem?_eq_none_iff] at h; omega), List.take_of_length_le (by rw [List.getElem?_eq_none_iff] at h; omega)]
      exact Nat.le_refl _
    | some o => rw [rank_succ h]; omega
theorem slotA_some {n0 : Nat} {ops : List Oper} {i nm : Nat} (h : slotA n0 ops i = some nm) : ∃ o, ops[i]? = some o ∧ mayLay o.op = true ∧ nm = n0 + rankA ops i := by
  unfold slotA at h
  split at h
  · rename_i o ho
    split at h
    · rename_i hm; cases h; exact ⟨o, ho, hm, rfl⟩
    · cases h
  · cases h
theorem rank_lt {ops : List Oper} {i j : Nat} {o : Oper} (h : ops[i]? = some o) (hm : mayLay o.op = true) (hij : i < j) : rankA ops i < rankA ops j := by
  have h1 := rank_succ h
  rw [if_pos hm] at h1
  have h2 := rank_mono (ops := ops) (j - (i + 1)) (i + 1)
  rw [show i + 1 + (j - (i + 1)) = j by omega] at h2
  omega
theorem slotA_inj {n0 : Nat} {ops : List Oper} (i j nm : Nat) (h1 : slotA n0 ops i = some nm) (h2 : slotA n0 ops j = some nm) : i = j := by
  obtain ⟨o1, a1, a2, a3⟩ := slotA_some h1
  obtain ⟨o2, b1, b2, b3⟩ := slotA_some h2
  rcases Nat.lt_trichotomy i j with h | h | h
  · have := rank_lt a1 a2 h; omega
  · exact h
  · have := rank_lt b1 b2 h; omega
theorem slotA_lt {n0 : Nat} {ops : List Oper} {i nm : Nat} (h : slotA n0 ops i = some nm) : n0 ≤ nm ∧ nm < n0 + rankA ops ops.length := by
  obtain ⟨o1, a1, a2, a3⟩ := slotA_some h
  have := rank_lt a1 a2 (List.getElem?_eq_some_iff.1 a1).1
  omega

theorem hitO_false {d : Option Nat} {l : List Nat} (h : hitO d l = false) : ∀ x, d = some x → x ∉ l := by
  intro x hx hm
  subst hx
  have : hitO (some x) l = true := by
    simp only [hitO, List.any_eq_true]
    exact ⟨x, hm, by simp⟩
  rw [h] at this; cases this

theorem framed_none {d : Option Nat} {l : List Nat} : Framed d l (fun _ => none) := fun _ _ _ _ h => by cases h

/-- Names behind all are kept for a region's new rows. -/
theorem pad_step {H : Heap} (hR : Rel P base m S H w) (k : Nat) : Step P base m S H w m S (H ++ List.replicate k .dead) w := by
  have hold : ∀ (nm : Nat) (o : AO), (H ++ List.replicate k .dead)[nm]? = some o → H[nm]? = some o ∨ o = .dead := fun nm o h => by
    rcases Nat.lt_or_ge nm H.length with hl | hl
    · rw [List.getElem?_append_left hl] at h; exact .inl h
    · rw [List.getElem?_append_right hl] at h
      have := List.mem_of_getElem? h
      exact .inr (List.eq_of_mem_replicate this)
  have hlive : ∀ nm, live (H ++ List.replicate k .dead) nm → live H nm := fun nm ⟨o, h, hne⟩ => by
    rcases hold nm o h with h | h
    · exact ⟨o, h, hne⟩
    · exact absurd h hne
  refine ⟨⟨hR.size, fun nm p h => by have := hR.dom nm p h; simp; omega, fun nm o h => ?_, fun nm nm' b o o' h1 h2 => hR.inj nm nm' b o o' (hlive nm h1) (hlive nm' h2), hR.sett⟩, Ext.refl _ _ _ _, fun nm b o hl e _ => ⟨nm, o, hlive nm hl, e⟩, by simp, fun _ _ h => .inl h⟩
  rcases hold nm o h with h | h
  · exact hR.obj nm o h
  · subst h; trivial

theorem all_range {n : Nat} {p : Nat → Bool} (h : (List.range n).all p = true) : ∀ i, i < n → p i = true := fun i hi => List.all_eq_true.1 h i (List.mem_range.2 hi)

/-- A REGION. -/
theorem regionSim (hE : EnvOk P E) (hPf : PrimFr E) (hP : PrimOk P E) {call : CallT} (hCf : CallFr call) (hC : CallSim P call) (hF : WideF F) (hmix : P.follows .mixedOrders = true) {id : Nat} {ops : Array Oper} {draw : Bool} {st st' : St}
    (h : runRegion E call ops.toList draw st = some st') {Q : Exit → Act → World → Prop} {a : Act} (hR : Rel P base m S st.H w) (hT : RepL m S w false a.tmps.toList st.tm)
    (hK : ∀ a' w' m' S', Step P base m S st.H w m' S' st'.H w' → Gaps none m st.H m' st'.H → RepL m' S' w' false a'.tmps.toList st'.tm → a'.defers = a.defers → Q .normal a' w') :
    (Code.region id ops draw).wpIn F n P Q a w := by
  unfold runRegion at h
  cases draw with
  | false =>
    simp only [Bool.not_false, if_true] at h
    have hs := runOps_seq ops.toList 0 rfl h
    rw [← List.range_eq_range', Array.length_toList] at hs
    refine wpIn_region (seqSim hE hP hC hF (sl := fun _ => none) (fun i j nm e => by cases e) _ hs List.nodup_range (fun i _ => ⟨fun nm e => by cases e⟩) hR hT fun a' w' m' S' h1 h2 h3 h4 => hK a' w' m' S' h1 (fun nm hlt _ hm => h2 nm hlt (fun _ _ e => by cases e) hm) h3 h4)
  | true =>
    simp only [Bool.not_true, Bool.false_eq_true, if_false, Option.bind_eq_bind] at h
    cases hd : runDraw E call ops.toList st.H.length ops.toList 0 { st with H := st.H ++ List.replicate (rankA ops.toList ops.toList.length) .dead } [] with
    | none => rw [hd] at h; cases h
    | some q =>
      obtain ⟨s1, accs⟩ := q
      rw [hd] at h
      simp only [Option.bind_some] at h
      split at h
      · rename_i hc
        simp at h; subst h
        rw [Bool.and_eq_true] at hc
        obtain ⟨hok, hap⟩ := hc
        obtain ⟨g1, _, g3⟩ := runDraw_seq ops.toList 0 rfl rfl hd
        rw [← List.range_eq_range', Array.length_toList] at g3
        simp only [Array.length_toList, Nat.zero_add] at g1
        -- the region's own rules
        have hrow : ∀ i o, ops.toList[i]? = some o → (∀ e ∈ o.after.toList, Region.binds .any e = true → e.on < i) ∧ ∀ j q, j < i → ops.toList[j]? = some q → ¬ Bef ops.toList i j → sepA ops.toList o q = true := by
          intro i o ho
          have hi : i < ops.toList.length := (List.getElem?_eq_some_iff.1 ho).1
          have h1 := all_range hok i hi
          simp only [ho, Bool.and_eq_true] at h1
          refine ⟨fun e he hb => ?_, fun j q hj hq hn => ?_⟩
          · have := List.all_eq_true.1 h1.1 e he
            simpa [hb] using this
          · have := all_range h1.2 j hj
            simp only [hq, Bool.or_eq_true] at this
            exact this.resolve_left hn
        have hback : ∀ (i : Nat) (o : Oper), ops[i]? = some o → ∀ e ∈ o.after.toList, Region.binds .any e = true → e.on < i := fun i o ho => (hrow i o (by rw [Array.getElem?_toList]; exact ho)).1
        refine wpIn_region_draw fun t => ?_
        rw [hmix]
        obtain ⟨sp, sw⟩ := schedule_ok hback t
        let dst : Nat → Option Nat := fun i => (ops.toList[i]?).bind (·.dst)
        let lk : Nat → List Nat := fun i => match ops.toList[i]? with
          | some o => looksL ops.toList o
          | none => []
        have hdst : ∀ i o, ops.toList[i]? = some o → dst i = o.dst := fun i o ho => by
          show (ops.toList[i]?).bind _ = _
          rw [ho]; rfl
        have hlk : ∀ i o, ops.toList[i]? = some o → lk i = looksL ops.toList o := fun i o ho => by
          show (match ops.toList[i]? with
            | some o => looksL ops.toList o
            | none => []) = _
          rw [ho]
        have hat : ∀ i o, ops.toList[i]? = some o → stepAt E call ops.toList (slotA st.H.length ops.toList) i = runOpG E call ops.toList (slotA st.H.length ops.toList i) o := fun i o ho => by
          funext s
          unfold stepAt
          rw [ho]
        have hfr : ∀ i, Framed (dst i) (lk i) (stepAt E call ops.toList (slotA st.H.length ops.toList) i) := by
          intro i
          cases ho : ops.toList[i]? with
          | none =>
            have : stepAt E call ops.toList (slotA st.H.length ops.toList) i = fun _ => none := by funext s; unfold stepAt; rw [ho]
            rw [this]; exact framed_none
          | some o =>
            rw [hat i o ho, hdst i o ho, hlk i o ho]
            cases hsl : slotA st.H.length ops.toList i with
            | some nm => exact runOpG_framed hPf hCf ops.toList nm o
            | none =>
              have hm : mayLay o.op = false := by
                unfold slotA at hsl
                rw [ho] at hsl
                simp only at hsl
                split at hsl
                · cases hsl
                · rename_i h; simpa using h
              rw [runOpG_nolay hm (some 0)]
              exact runOpG_framed hPf hCf ops.toList 0 o
        have hre := reorder hfr ops.size (Region.schedule true ops t) _ _ g3 sp sw (fun i j hji hi hn => by
          have hio : ops.toList[i]? = some ops[i] := by simp [hi]
          have hjo : ops.toList[j]? = some ops[j] := by simp [show j < ops.size by omega]
          have hsep := (hrow i _ hio).2 j _ hji hjo hn
          unfold sepA at hsep
          simp only [Bool.and_eq_true, Bool.not_eq_true'] at hsep
          obtain ⟨⟨s1, s2⟩, s3⟩ := hsep
          refine ⟨⟨?_, ?_, ?_⟩, ?_⟩
          · intro x hx
            rw [hdst j _ hjo] at hx
            rw [hlk i _ hio]
            exact hitO_false s2 x hx
          · intro x hx
            rw [hdst i _ hio] at hx
            rw [hlk j _ hjo]
            exact hitO_false s1 x hx
          · intro x hx hy
            rw [hdst j _ hjo] at hx
            rw [hdst i _ hio] at hy
            have := hitO_false s3 x hy
            rw [hx] at this; simp at this
          · have h1 := all_range hap i (by rw [g1]; exact hi)
            have h2 := all_range h1 j hji
            simp only [Bool.or_eq_true, Bool.not_eq_true'] at h2
            exact h2.resolve_right hn)
        have hpad := pad_step hR (rankA ops.toList ops.toList.length)
        have hnd : (Region.schedule true ops t).Nodup := sp.nodup_iff.2 List.nodup_range
        have hdrew : Step P base m S (st.H ++ List.replicate (rankA ops.toList ops.toList.length) .dead) w m S (st.H ++ List.replicate (rankA ops.toList ops.toList.length) .dead) { w with drawn := w.drawn + 1 } := by
          have hh : ∀ (b : Nat), ({ w with drawn := w.drawn + 1 } : World).heap[b]? = w.heap[b]? := fun _ => rfl
          have hb : ∀ nm o, ObjIn P base m S w nm o → ObjIn P base m S { w with drawn := w.drawn + 1 } nm o := fun nm o ho => ho.keep (fun _ _ h => h) (fun _ _ h => h) (fun _ _ _ => rfl) (fun _ _ _ h => h) (fun _ _ _ => ⟨rfl, fun _ h => h⟩)
          exact ⟨⟨hpad.rel.size, hpad.rel.dom, fun nm o ho => hb nm o (hpad.rel.obj nm o ho), hpad.rel.inj, hpad.rel.sett⟩, ⟨fun _ _ h => h, fun _ _ h => h, fun _ _ _ => rfl, fun _ _ _ h => h, fun _ _ _ => rfl, Nat.le_refl _, rfl, rfl, rfl, fun _ r h => ⟨r, h⟩, fun _ => rfl⟩, fun nm b o hl e _ => ⟨nm, o, hl, e⟩, Nat.le_refl _, fun _ _ h => .inl h⟩
        refine seqSim hE hP hC hF (sl := slotA st.H.length ops.toList) slotA_inj _ hre.toS hnd (fun i hi => ⟨fun nm e => ?_⟩) hdrew.rel ((hT.ext hpad.ext).ext hdrew.ext) ?_
        · obtain ⟨l1, l2⟩ := slotA_lt e
          try rw [Array.length_toList] at l2
          refine ⟨?_, ?_⟩
          · rw [List.getElem?_append_right l1]
            rw [List.getElem?_replicate, if_pos (by omega)]
          · cases hm : m nm with
            | none => rfl
            | some p => exact absurd (hR.dom _ _ hm) (by omega)
        · intro a' w' m' S' h1 h2 h3 h4
          refine hK a' w' m' S' (hpad.trans (hdrew.trans h1)) (fun nm hlt _ hm => ?_) h3 h4
          obtain ⟨x1, x2⟩ := h2 nm (by simp; omega) (fun i _ e => by have := (slotA_lt e).1; omega) hm
          exact ⟨x1, fun hdead => x2 (by simp only; rw [List.getElem?_append_left hlt]; exact hdead)⟩
      · cases h
end
end Go.Px
