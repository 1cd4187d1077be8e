/- Numbers of which only the residue counts. -/
import Derived.Test.YtnpphcbfainkbaaPxK
set_option linter.unusedVariables false
set_option linter.unusedSimpArgs false
namespace Go.Px
open Go

/-- Temporaries of which only the residue counts: each with its modulus. -/
abbrev Taint := List (Nat × Nat)
def Taint.at (T : Taint) (t : Nat) : Option Nat := (T.find? fun p => Nat.beq p.1 t).map (·.2)

/-- The same, or two numbers of one residue. -/
def RelV (M : Nat) (x y : AV) : Prop := x = y ∨ ∃ k a b, x = .int k a ∧ y = .int k b ∧ 0 ≤ a ∧ 0 ≤ b ∧ a % (M : Int) = b % (M : Int)

def RelT (T : Taint) (tm tm1 : List AV) : Prop := tm.length = tm1.length ∧ ∀ t, match T.at t with
  | none => tm1.getD t .undef = tm.getD t .undef
  | some M => RelV M (tm.getD t .undef) (tm1.getD t .undef)

theorem RelT.put {T : Taint} {tm tm1 : List AV} (h : RelT T tm tm1) (d : Option Nat) {v v1 : AV} (hv : ∀ t, d = some t → match T.at t with
    | none => v1 = v
    | some M => RelV M v v1) : RelT T (putT tm d v) (putT tm1 d v1) := by
  cases d with
  | none => exact h
  | some d =>
    refine ⟨by simp [putT, h.1], fun t => ?_⟩
    have h1 := h.2 t
    simp only [putT, List.getD_eq_getElem?_getD, List.getElem?_set] at h1 ⊢
    by_cases hd : d = t
    · subst hd
      have h2 := hv d rfl
      by_cases hl : d < tm.length
      · simp only [hl, if_true, h.1 ▸ hl, Option.getD_some]
        exact h2
      · have hl1 : ¬ d < tm1.length := h.1 ▸ hl
        simp only [hl, hl1, if_true, if_false, Option.getD_none]
        revert h1 h2
        cases T.at d with
        | none => intro _ _; simp
        | some M => intro _ _; simp; exact .inl rfl
    · simp only [hd, if_false]
      exact h1

def looksFree (T : Taint) (l : List Nat) : Bool := l.all fun t => (T.at t).isNone

theorem looksFree_ok {T : Taint} {l : List Nat} (h : looksFree T l = true) {tm tm1 : List AV} (hT : RelT T tm tm1) : AgreeT l tm tm1 := fun t ht => by
  have h1 := List.all_eq_true.1 h t ht
  have h2 := hT.2 t
  cases hq : T.at t with
  | none => rw [hq] at h2; exact h2
  | some M => rw [hq] at h1; simp at h1

def guardFree (T : Taint) (ops : List Oper) (o : Oper) : Bool := match o.guard with
  | some (g, _) => looksFree T ((ops[g]?).bind (·.dst)).toList
  | none => true

/-- An operation that asks for the residue alone. -/
def okOp (T : Taint) (ops : List Oper) (o : Oper) : Bool :=
  looksFree T (looksL ops o) || (guardFree T ops o && match o.op with
    | .move (.tmp t) => match T.at t with
      | some M => match o.dst with
        | some d => T.at d == some M
        | none => true
      | none => false
    | .binOp .rem _ (.tmp t) (.const (.int _ c)) _ => match T.at t with
      | some M => decide (0 < c) && decide (c ∣ (M : Int))
      | none => false
    | _ => false)

section
variable {E : Env} {call : CallT} {ops : List Oper} {T : Taint}

theorem applyEff_cong {sl : Option Nat} {o : Oper} {tm : List AV} {H : Heap} {acc acc' : Acc} {st' : St} : ∀ {eff : Eff}, applyEff call sl o ⟨tm, H⟩ acc eff = some (st', acc') →
    ∃ v, st'.tm = putT tm o.dst v ∧ ∀ tm1, applyEff call sl o ⟨tm1, H⟩ acc eff = some (⟨putT tm1 o.dst v, st'.H⟩, acc')
  | .val v, h => by
    have hval : ∀ (tm1 : List AV), applyEff call sl o ⟨tm1, H⟩ acc (.val v) = some (⟨putT tm1 o.dst v, H⟩, acc) := fun tm1 => by
      simp only [applyEff]
      cases lightOp o.op <;> simp [fW_eq, fV_eq, fS_eq]
    rw [hval] at h
    simp at h; obtain ⟨rfl, rfl⟩ := h
    exact ⟨v, rfl, hval⟩
  | .new ob f, h => by
    simp [applyEff, fO_eq, fV_eq, done, fS_eq] at h ⊢
    obtain ⟨rfl, rfl⟩ := h
    exact ⟨_, rfl, fun _ => ⟨⟨rfl, rfl⟩, rfl⟩⟩
  | .put nm ob v, h => by
    simp [applyEff, fO_eq, fV_eq, done, fS_eq] at h ⊢
    obtain ⟨rfl, rfl⟩ := h
    exact ⟨_, rfl, fun _ => ⟨⟨rfl, rfl⟩, rfl⟩⟩
  | .app nm ob n sz, h => by
    simp [applyEff, fO_eq, fV_eq, done, fS_eq] at h ⊢
    obtain ⟨rfl, rfl⟩ := h
    exact ⟨_, rfl, fun _ => ⟨⟨rfl, rfl⟩, rfl⟩⟩
  | .call t args, h => by
    simp only [applyEff, fS_eq] at h ⊢
    cases hc : call t args H with
    | none => simp [hc] at h
    | some q =>
      obtain ⟨r, H', ac⟩ := q
      simp [hc, fV_eq, done, fS_eq] at h ⊢
      obtain ⟨rfl, rfl⟩ := h
      exact ⟨_, rfl, fun _ => ⟨⟨rfl, rfl⟩, rfl⟩⟩

theorem runOpG_cong {sl : Option Nat} {o : Oper} {tm tm1 : List AV} {H : Heap} {st' : St} {acc : Acc} (hA : AgreeT (looksL ops o) tm tm1) (h : runOpG E call ops sl o ⟨tm, H⟩ = some (st', acc)) :
    ∃ v, st'.tm = putT tm o.dst v ∧ runOpG E call ops sl o ⟨tm1, H⟩ = some (⟨putT tm1 o.dst v, st'.H⟩, acc) := by
  have hops : ∀ x ∈ o.op.operands, opA tm1 x = opA tm x := fun x hx => opA_congr hA x fun t ht => by
    subst ht
    unfold looksL
    rw [List.mem_append]
    left
    rw [List.mem_filterMap]
    exact ⟨.tmp t, by simpa using hx, rfl⟩
  unfold runOpG at h ⊢
  simp only [wantedA_congr hA] at h ⊢
  cases hw : wantedA ops tm o with
  | none => simp [hw] at h
  | some b =>
    cases b with
    | false =>
      simp only [hw, fS_eq] at h ⊢
      simp at h; obtain ⟨rfl, rfl⟩ := h
      exact ⟨.tup [], rfl, rfl⟩
    | true =>
      simp only [hw] at h ⊢
      unfold runOp at h ⊢
      simp only [evalOp_congr hops] at h ⊢
      cases he : evalOp E tm H o with
      | none => simp [he] at h
      | some q =>
        simp only [he] at h ⊢
        cases hp : primEff E H q with
        | none => simp [hp] at h
        | some q2 =>
          obtain ⟨ef, ac⟩ := q2
          simp only [hp] at h ⊢
          obtain ⟨v, h1, h2⟩ := applyEff_cong h
          exact ⟨v, h1, h2 tm1⟩

theorem rem_res {k : IntKind} {a b c : Int} {M : Nat} (ha : 0 ≤ a) (hb : 0 ≤ b) (hc : c ∣ (M : Int)) (h : a % (M : Int) = b % (M : Int)) : intBin .rem k a c = intBin .rem k b c := by
  unfold intBin
  have : a.tmod c = b.tmod c := by
    rw [Int.tmod_eq_emod_of_nonneg ha, Int.tmod_eq_emod_of_nonneg hb]
    rw [← Int.emod_emod_of_dvd a hc, ← Int.emod_emod_of_dvd b hc, h]
  simp [this]

theorem wanted_free {o : Oper} {tm tm1 : List AV} (hT : RelT T tm tm1) (hg : guardFree T ops o = true) : wantedA ops tm1 o = wantedA ops tm o := by
  unfold wantedA
  unfold guardFree at hg
  cases hgd : o.guard with
  | none => rfl
  | some q =>
    obtain ⟨j, want⟩ := q
    simp only [hgd] at hg ⊢
    cases hd : (ops[j]?).bind (·.dst) with
    | none => rfl
    | some d =>
      rw [hd] at hg
      simp only
      rw [looksFree_ok hg hT d (by simp)]

theorem runOp_val {sl : Option Nat} {o : Oper} {tm : List AV} {H : Heap} {v : AV} (h : evalOp E tm H o = some (.val v, Acc.none)) : runOp E call sl o ⟨tm, H⟩ = some (⟨putT tm o.dst v, H⟩, Acc.none) := by
  unfold runOp
  simp only [h, primEff, applyEff]
  cases lightOp o.op <;> simp [fW_eq, fV_eq, fS_eq]

theorem opT {sl : Option Nat} {o : Oper} (hok : okOp T ops o = true) {tm tm1 : List AV} {H : Heap} {st' : St} {acc : Acc} (hT : RelT T tm tm1) (h : runOpG E call ops sl o ⟨tm, H⟩ = some (st', acc)) :
    ∃ tm1', runOpG E call ops sl o ⟨tm1, H⟩ = some (⟨tm1', st'.H⟩, acc) ∧ RelT T st'.tm tm1' := by
  have hsame : ∀ v t, (match T.at t with
    | none => v = v
    | some M => RelV M v v) := fun v t => by
    cases T.at t with
    | none => rfl
    | some M => exact .inl rfl
  unfold okOp at hok
  rw [Bool.or_eq_true] at hok
  rcases hok with hok | hok
  · obtain ⟨v, h1, h2⟩ := runOpG_cong (looksFree_ok hok hT) h
    exact ⟨_, h2, by rw [h1]; exact hT.put o.dst (fun t _ => hsame v t)⟩
  · rw [Bool.and_eq_true] at hok
    obtain ⟨hg, hok⟩ := hok
    have hwg := wanted_free hT hg
    unfold runOpG at h ⊢
    simp only [hwg] at h ⊢
    cases hw : wantedA ops tm o with
    | none => simp [hw] at h
    | some b =>
      cases b with
      | false =>
        simp only [hw, fS_eq] at h ⊢
        simp at h; obtain ⟨rfl, rfl⟩ := h
        exact ⟨_, rfl, hT.put o.dst (fun t _ => hsame _ t)⟩
      | true =>
        simp only [hw] at h ⊢
        split at hok
        · rename_i t hop
          cases hq : T.at t with
          | none => simp [hq] at hok
          | some M =>
            simp only [hq] at hok
            have he : ∀ tm2 : List AV, evalOp E tm2 H o = some (.val (tm2.getD t .undef), Acc.none) := fun tm2 => by unfold evalOp; simp [hop, opA]
            rw [runOp_val (he tm)] at h
            rw [runOp_val (he tm1)]
            simp at h; obtain ⟨rfl, rfl⟩ := h
            refine ⟨_, rfl, hT.put o.dst (fun d hd => ?_)⟩
            rw [hd] at hok
            simp at hok
            have hr := hT.2 t
            rw [hq] at hr
            rw [hok]
            exact hr
        · rename_i ty t k c ty2 hop
          cases hq : T.at t with
          | none => simp [hq] at hok
          | some M =>
            simp only [hq, Bool.and_eq_true, decide_eq_true_eq] at hok
            have hr := hT.2 t
            rw [hq] at hr
            have he : ∀ tm2 : List AV, evalOp E tm2 H o = (binA E .rem ty (.tmp t) (.const (.int k c)) (tm2.getD t .undef) (.int k c)).map fun x => (Eff.val x, Acc.none) := fun tm2 => by unfold evalOp; simp [hop, opA, ofVal]
            have hee : evalOp E tm1 H o = evalOp E tm H o := by
              rw [he, he]
              rcases hr with hr | ⟨k', a, b, h1, h2, h3, h4, h5⟩
              · rw [hr]
              · rw [h1, h2]
                simp only [binA]
                by_cases hk : k' = k
                · subst hk; simp only [if_true]; rw [rem_res h3 h4 hok.2 h5]
                · simp [hk]
            cases hb : binA E .rem ty (.tmp t) (.const (.int k c)) (tm.getD t .undef) (.int k c) with
            | none =>
              unfold runOp at h
              rw [he, hb] at h
              simp at h
            | some v =>
              have h1 : evalOp E tm H o = some (.val v, Acc.none) := by rw [he, hb]; rfl
              rw [runOp_val h1] at h
              rw [runOp_val (hee.trans h1)]
              simp at h; obtain ⟨rfl, rfl⟩ := h
              exact ⟨_, rfl, hT.put o.dst (fun t _ => hsame _ t)⟩
        · simp at hok

theorem opsT : ∀ (rest : List Oper), rest.all (okOp T ops) = true → ∀ {tm tm1 : List AV} {H : Heap} {st' : St}, RelT T tm tm1 → runOps E call ops rest ⟨tm, H⟩ = some st' → ∃ tm1', runOps E call ops rest ⟨tm1, H⟩ = some ⟨tm1', st'.H⟩ ∧ RelT T st'.tm tm1'
  | [], _, tm, tm1, H, st', hT, h => by simp [runOps] at h; subst h; exact ⟨tm1, rfl, hT⟩
  | o :: rest, hok, tm, tm1, H, st', hT, h => by
    simp only [List.all_cons, Bool.and_eq_true] at hok
    simp only [runOps, Option.bind_eq_bind] at h ⊢
    cases h1 : runOpG E call ops none o ⟨tm, H⟩ with
    | none => simp [h1] at h
    | some q =>
      obtain ⟨s1, acc⟩ := q
      simp only [h1, Option.bind_some] at h
      obtain ⟨tm2, g1, g2⟩ := opT hok.1 hT h1
      obtain ⟨tm3, g3, g4⟩ := opsT rest hok.2 (H := s1.H) g2 h
      exact ⟨tm3, by rw [g1]; exact g3, g4⟩

theorem drawT {n0 : Nat} : ∀ (rest : List Oper) (i : Nat), rest.all (okOp T ops) = true → ∀ {tm tm1 : List AV} {H : Heap} {st' : St} {accs accs' : List Acc}, RelT T tm tm1 → runDraw E call ops n0 rest i ⟨tm, H⟩ accs = some (st', accs') → ∃ tm1', runDraw E call ops n0 rest i ⟨tm1, H⟩ accs = some (⟨tm1', st'.H⟩, accs') ∧ RelT T st'.tm tm1'
  | [], i, _, tm, tm1, H, st', accs, accs', hT, h => by simp [runDraw] at h; obtain ⟨rfl, rfl⟩ := h; exact ⟨tm1, rfl, hT⟩
  | o :: rest, i, hok, tm, tm1, H, st', accs, accs', hT, h => by
    simp only [List.all_cons, Bool.and_eq_true] at hok
    simp only [runDraw, Option.bind_eq_bind] at h ⊢
    cases h1 : runOpG E call ops (some (n0 + i)) o ⟨tm, H⟩ with
    | none => simp [h1] at h
    | some q =>
      obtain ⟨s1, acc⟩ := q
      simp only [h1, Option.bind_some] at h
      obtain ⟨tm2, g1, g2⟩ := opT hok.1 hT h1
      obtain ⟨tm3, g3, g4⟩ := drawT rest (i + 1) hok.2 (H := s1.H) g2 h
      exact ⟨tm3, by rw [g1]; exact g3, g4⟩

/-- Code that asks for the residues alone. -/
def okC (T : Taint) : Code → Bool
  | .skip | .label _ | .exit _ | .ret => true
  | .region _ ops _ => ops.toList.all (okOp T ops.toList)
  | .seq a b => okC T a && okC T b
  | .cond c a b => (match c with
    | .tmp t => (T.at t).isNone
    | _ => true) && okC T a && okC T b
  | .block _ b => okC T b
  | .loop b => okC T b
  | _ => false

theorem regionT {ops : List Oper} (hok : ops.all (okOp T ops) = true) {draw : Bool} {tm tm1 : List AV} {H : Heap} {st' : St} (hT : RelT T tm tm1) (h : runRegion E call ops draw ⟨tm, H⟩ = some st') : ∃ tm1', runRegion E call ops draw ⟨tm1, H⟩ = some ⟨tm1', st'.H⟩ ∧ RelT T st'.tm tm1' := by
  unfold runRegion at h ⊢
  cases draw with
  | false => simp only [Bool.not_false, if_true] at h ⊢; exact opsT ops hok hT h
  | true =>
    simp only [Bool.not_true, Bool.false_eq_true, if_false, Option.bind_eq_bind] at h ⊢
    cases hd : runDraw E call ops H.length ops 0 ⟨tm, H ++ List.replicate ops.length .dead⟩ [] with
    | none => rw [hd] at h; cases h
    | some q =>
      obtain ⟨s1, accs⟩ := q
      rw [hd] at h
      obtain ⟨tm2, g1, g2⟩ := drawT ops 0 hok hT hd
      rw [g1]
      simp only [Option.bind_some] at h ⊢
      split at h
      · rename_i hc
        simp at h; subst h
        exact ⟨tm2, by rw [if_pos hc]; rfl, g2⟩
      · cases h

theorem loopT {f : St → Option (AExit × St)} (hf : ∀ {tm tm1 : List AV} {H : Heap} {e : AExit} {st' : St}, RelT T tm tm1 → f ⟨tm, H⟩ = some (e, st') → ∃ tm1', f ⟨tm1, H⟩ = some (e, ⟨tm1', st'.H⟩) ∧ RelT T st'.tm tm1') :
    ∀ (k : Nat) {tm tm1 : List AV} {H : Heap} {e : AExit} {st' : St}, RelT T tm tm1 → loopN f k ⟨tm, H⟩ = some (e, st') → ∃ tm1', loopN f k ⟨tm1, H⟩ = some (e, ⟨tm1', st'.H⟩) ∧ RelT T st'.tm tm1'
  | 0, tm, tm1, H, e, st', _, h => by simp [loopN] at h
  | k + 1, tm, tm1, H, e, st', hT, h => by
    simp only [loopN, Option.bind_eq_bind] at h ⊢
    cases h1 : f ⟨tm, H⟩ with
    | none => simp [h1] at h
    | some q =>
      obtain ⟨e1, s1⟩ := q
      simp only [h1, Option.bind_some] at h
      obtain ⟨tm2, g1, g2⟩ := hf hT h1
      rw [g1]
      simp only [Option.bind_some]
      cases e1 with
      | normal => exact loopT hf k (H := s1.H) g2 h
      | exit i => simp at h ⊢; obtain ⟨rfl, rfl⟩ := h; exact ⟨tm2, by simp, g2⟩
      | ret => simp at h ⊢; obtain ⟨rfl, rfl⟩ := h; exact ⟨tm2, by simp, g2⟩

theorem codeT {k : Nat} : ∀ (c : Code), okC T c = true → ∀ {tm tm1 : List AV} {H : Heap} {e : AExit} {st' : St}, RelT T tm tm1 → evalC E call k c ⟨tm, H⟩ = some (e, st') → ∃ tm1', evalC E call k c ⟨tm1, H⟩ = some (e, ⟨tm1', st'.H⟩) ∧ RelT T st'.tm tm1' := by
  intro c
  induction c with
  | skip => intro _ tm tm1 H e st' hT h; simp [evalC] at h ⊢; obtain ⟨rfl, rfl⟩ := h; exact ⟨tm1, by simp, hT⟩
  | label l => intro _ tm tm1 H e st' hT h; simp [evalC] at h ⊢; obtain ⟨rfl, rfl⟩ := h; exact ⟨tm1, by simp, hT⟩
  | exit i => intro _ tm tm1 H e st' hT h; simp [evalC] at h ⊢; obtain ⟨rfl, rfl⟩ := h; exact ⟨tm1, by simp, hT⟩
  | ret => intro _ tm tm1 H e st' hT h; simp [evalC] at h ⊢; obtain ⟨rfl, rfl⟩ := h; exact ⟨tm1, by simp, hT⟩
  | region id ops draw =>
    intro hok tm tm1 H e st' hT h
    simp only [evalC] at h ⊢
    cases hr : runRegion E call ops.toList draw ⟨tm, H⟩ with
    | none => simp [hr] at h
    | some s1 =>
      simp [hr] at h; obtain ⟨rfl, rfl⟩ := h
      obtain ⟨tm2, g1, g2⟩ := regionT hok hT hr
      exact ⟨tm2, by rw [g1]; rfl, g2⟩
  | seq x y ihx ihy =>
    intro hok tm tm1 H e st' hT h
    simp only [okC, Bool.and_eq_true] at hok
    simp only [evalC, Option.bind_eq_bind] at h ⊢
    cases h1 : evalC E call k x ⟨tm, H⟩ with
    | none => simp [h1] at h
    | some q =>
      obtain ⟨e1, s1⟩ := q
      simp only [h1, Option.bind_some] at h
      obtain ⟨tm2, g1, g2⟩ := ihx hok.1 hT h1
      rw [g1]
      simp only [Option.bind_some]
      cases e1 with
      | normal => exact ihy hok.2 (H := s1.H) g2 h
      | exit i => simp at h ⊢; obtain ⟨rfl, rfl⟩ := h; exact ⟨tm2, by simp, g2⟩
      | ret => simp at h ⊢; obtain ⟨rfl, rfl⟩ := h; exact ⟨tm2, by simp, g2⟩
  | cond c x y ihx ihy =>
    intro hok tm tm1 H e st' hT h
    simp only [okC, Bool.and_eq_true] at hok
    have hc : opA tm1 c = opA tm c := by
      cases c with
      | tmp t =>
        have h1 := hT.2 t
        have h2 := hok.1.1
        simp only at h2
        cases hq : T.at t with
        | none => rw [hq] at h1; exact h1
        | some M => rw [hq] at h2; simp at h2
      | _ => rfl
    simp only [evalC, hc] at h ⊢
    split at h
    · exact ihx hok.1.2 hT h
    · exact ihy hok.2 hT h
    · cases h
  | block id b ih =>
    intro hok tm tm1 H e st' hT h
    simp only [okC] at hok
    simp only [evalC, Option.bind_eq_bind] at h ⊢
    cases h1 : evalC E call k b ⟨tm, H⟩ with
    | none => simp [h1] at h
    | some q =>
      obtain ⟨e1, s1⟩ := q
      simp only [h1, Option.bind_some] at h
      obtain ⟨tm2, g1, g2⟩ := ih hok hT h1
      rw [g1]
      simp only [Option.bind_some]
      cases e1 with
      | normal => simp at h ⊢; obtain ⟨rfl, rfl⟩ := h; exact ⟨tm2, by simp, g2⟩
      | exit i =>
        simp only at h ⊢
        by_cases hi : i = id
        · rw [if_pos hi] at h ⊢; simp at h ⊢; obtain ⟨rfl, rfl⟩ := h; exact ⟨tm2, by simp, g2⟩
        · rw [if_neg hi] at h ⊢; simp at h ⊢; obtain ⟨rfl, rfl⟩ := h; exact ⟨tm2, by simp, g2⟩
      | ret => simp at h ⊢; obtain ⟨rfl, rfl⟩ := h; exact ⟨tm2, by simp, g2⟩
  | loop b ih =>
    intro hok tm tm1 H e st' hT h
    simp only [okC] at hok
    simp only [evalC] at h ⊢
    exact loopT (fun hT h => ih hok hT h) k hT h
  | _ => intro hok; simp [okC] at hok

def isIntV : AV → Bool
  | .int _ _ => true
  | _ => false

theorem fzL_ints : ∀ (l : List AV) (k : Nat), l.all isIntV = true → fzL (fz E [] (k + 1)) l = some (l, [])
  | [], _, _ => rfl
  | v :: l, k, h => by
    simp only [List.all_cons, Bool.and_eq_true] at h
    have ih := fzL_ints l k h.2
    cases v with
    | int kk n =>
      have h1 : fz E [] (k + 1) (.int kk n) = some (.int kk n, []) := rfl
      simp only [fzL, h1, ih]
      rfl
    | _ => simp [isIntV] at h

def okRes (T : Taint) (rs : List ResultVar) : Bool := rs.all fun r => match r with
  | .tmp t => (T.at t).isNone
  | _ => false

/-- A FUNCTION OF NUMBERS OF WHICH THE RESIDUES COUNT. -/
theorem callT {k f : Nat} {fn : Func} {body : Code} (hf : E.fn f = some fn) (hp : E.pure f = true) (hb : fn.body = some body) (hok : okC T body = true) (hr : okRes T fn.results.toList = true) {args args1 : List AV} (hi : args.all isIntV = true) (hi1 : args1.all isIntV = true)
    (hT : RelT T (args ++ List.replicate (fn.ntmps - args.length) .undef) (args1 ++ List.replicate (fn.ntmps - args1.length) .undef)) {r : AV} {H' : Heap} {acc : Acc} (h : callA E k (.func f) args [] = some (r, H', acc)) : callA E k (.func f) args1 [] = some (r, H', acc) := by
  cases k with
  | zero => simp [callA] at h
  | succ k =>
    simp only [callA, hf, hp, Option.bind_eq_bind, Option.bind_some, if_true, fL_eq, fzDeep, fzL_ints _ 59 hi, fzL_ints _ 59 hi1] at h ⊢
    have hrb : ∀ q, runBody E (callA E k) k fn args [] = some q → runBody E (callA E k) k fn args1 [] = some q := by
      intro q hq
      unfold runBody at hq ⊢
      simp only [hb, Option.bind_eq_bind, Option.bind_some] at hq ⊢
      cases he : evalC E (callA E k) k body ⟨args ++ List.replicate (fn.ntmps - args.length) .undef, []⟩ with
      | none => simp [he] at hq
      | some q2 =>
        obtain ⟨e, st⟩ := q2
        simp only [he, Option.bind_some] at hq
        obtain ⟨tm1, g1, g2⟩ := codeT body hok hT he
        rw [g1]
        simp only [Option.bind_some]
        have hres : ∀ (l : List ResultVar), okRes T l = true → l.mapM (resultA E ⟨tm1, st.H⟩) = l.mapM (resultA E st) := by
          intro l
          induction l with
          | nil => intro _; rfl
          | cons v l ih =>
            intro hl
            simp only [okRes, List.all_cons, Bool.and_eq_true] at hl
            simp only [List.mapM_cons]
            rw [ih hl.2]
            congr 1
            cases v with
            | tmp t =>
              have h1 := g2.2 t
              have h2 := hl.1
              simp only at h2
              cases hq : T.at t with
              | none => rw [hq] at h1; simp only at h1; simp only [resultA, h1]
              | some M => rw [hq] at h2; simp at h2
            | cell a t => simp at hl
        rw [hres _ hr]
        exact hq
    cases hq : runBody E (callA E k) k fn args [] with
    | none => rw [hq] at h; simp at h
    | some q =>
      rw [hq] at h
      rw [hrb q hq]
      exact h
end
end Go.Px
