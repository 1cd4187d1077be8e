/- An operation is a framed step; a region's order does not count. -/
import Derived.Test.YtefondfmngjekaaGreatPxJ
import Derived.OrdersIn
set_option linter.unusedVariables false
set_option linter.unusedSimpArgs false
namespace Go.Px
open Go

/-- What is asked of the functions whose effect is told. -/
structure PrimFr (E : Env) : Prop where
  fr : ∀ f args p, E.prim f args = some p → ∀ H eff acc, p H = some (eff, acc) → EffWf eff acc ∧ (∀ t a, eff ≠ .call t a) ∧ ∀ H1, Agree acc H H1 → p H1 = some (eff, acc)

def CallFr (call : CallT) : Prop := ∀ t args H r H' acc, call t args H = some (r, H', acc) → acc.all = false →
  ∃ T, TrOk acc T ∧ H' = H.mapIdx T ∧ ∀ H1, Agree acc H H1 → call t args H1 = some (r, H1.mapIdx T, acc)

section
variable {E : Env}

theorem opA_congr {l : List Nat} {tm tm1 : List AV} (h : AgreeT l tm tm1) (x : Operand) (hx : ∀ t, x = .tmp t → t ∈ l) : opA tm1 x = opA tm x := by
  cases x with
  | tmp t => exact h t (hx t rfl)
  | _ => rfl

theorem evalOp_congr {tm tm1 : List AV} {H : Heap} {o : Oper} (h : ∀ x ∈ o.op.operands, opA tm1 x = opA tm x) : evalOp E tm1 H o = evalOp E tm H o := by
  have hl : ∀ (l : List Operand), (∀ x ∈ l, opA tm1 x = opA tm x) → l.map (opA tm1) = l.map (opA tm) := fun l hl => List.map_congr_left hl
  have hp : ∀ (l : List (Nat × Operand)), (∀ p ∈ l, opA tm1 p.2 = opA tm p.2) → (l.map fun (i, x) => (i, opA tm1 x)) = (l.map fun (i, x) => (i, opA tm x)) := fun l hl => List.map_congr_left fun p hp => by
    obtain ⟨i, x⟩ := p
    simp only [hl _ hp]
  unfold evalOp
  cases hop : o.op <;> rw [hop] at h <;> simp only [Op.operands] at h <;> try rfl
  case makeFunc f fs cs =>
    cases f <;> simp only
    rw [hl cs.toList (fun x hx => h x (by simp at hx ⊢; exact .inr hx))]
  case build t ps => simp only; rw [hp ps.toList (fun p hpp => h p.2 (by simp at hpp ⊢; exact ⟨p.1, hpp⟩))]
  case buildSlice t n ps => simp only; rw [hp ps.toList (fun p hpp => h p.2 (by simp at hpp ⊢; exact ⟨p.1, hpp⟩))]
  case makeMap t r => cases r <;> rfl
  case slice t x lo hi mx =>
    have h1 : ∀ (y : Option Operand), (∀ z, y = some z → opA tm1 z = opA tm z) → y.map (opA tm1) = y.map (opA tm) := fun y hy => by
      cases y with
      | none => rfl
      | some z => simp [hy z rfl]
    simp only
    rw [h x (by simp), h1 lo (fun z hz => h z (by subst hz; simp)), h1 hi (fun z hz => h z (by subst hz; simp)), h1 mx (fun z hz => h z (by subst hz; simp))]
  case call c =>
    have ha : ∀ x ∈ c.args.toList, opA tm1 x = opA tm x := fun x hx => h x (by simp [Call.operands]; right; simpa using hx)
    simp only [hl _ ha]
    cases hc : c.callee with
    | value f =>
      have hf : opA tm1 f = opA tm f := h f (by simp [Call.operands, hc])
      have : calleeA tm1 f = calleeA tm f := by
        unfold calleeA
        cases f <;> simp only [hf]
      simp only [this]
    | invoke r n => rfl
    | builtin b =>
      cases b <;> simp only
      · cases h1 : c.argTypes.toList with
        | nil => rfl
        | cons t l =>
          cases l with
          | nil => rfl
          | cons t2 l =>
            cases l with
            | cons _ _ => rfl
            | nil =>
              cases h2 : c.args.toList with
              | nil => rfl
              | cons s m =>
                cases m with
                | nil => rfl
                | cons x m =>
                  cases m with
                  | cons _ _ => rfl
                  | nil => simp only; rw [ha s (by simp [h2]), ha x (by simp [h2])]
      · cases h1 : c.argTypes.toList with
        | nil => rfl
        | cons t l =>
          cases l with
          | cons _ _ => rfl
          | nil =>
            cases h2 : c.args.toList with
            | nil => rfl
            | cons s m =>
              cases m with
              | cons _ _ => rfl
              | nil => simp only; rw [ha s (by simp [h2])]
  all_goals simp_all

theorem wantedA_congr {ops : List Oper} {o : Oper} {tm tm1 : List AV} (h : AgreeT (looksL ops o) tm tm1) : wantedA ops tm1 o = wantedA ops tm o := by
  unfold wantedA
  cases hg : o.guard with
  | none => rfl
  | some q =>
    obtain ⟨j, want⟩ := q
    simp only
    cases hd : (ops[j]?).bind (·.dst) with
    | none => rfl
    | some d => simp only; rw [h d (by simp [looksL, hg, hd])]

theorem TrOk.id (acc : Acc) : TrOk acc (fun _ x => x) := fun j _ => .inl fun _ => rfl
theorem map_id' (H : Heap) : H.mapIdx (fun _ x => x) = H := mapIdx_id fun _ _ => rfl

theorem Agree.add {acc : Acc} {sl : Nat} {H H1 : Heap} (h : Agree (acc.add (some sl)) H H1) : Agree acc H H1 := ⟨h.1, fun nm hn => h.2 nm (by simp [Acc.add, hn])⟩

/-- AN OPERATION IS A FRAMED STEP. -/
theorem runOpG_framed (hE : PrimFr E) {call : CallT} (hC : CallFr call) (ops : List Oper) (sl : Nat) (o : Oper) : Framed o.dst (looksL ops o) (runOpG E call ops (some sl) o) := by
  have happ : ∀ {tm : List AV} {H : Heap} {eff : Eff} {acc acc' : Acc} {st' : St}, EffWf eff acc → applyEff call (some sl) o ⟨tm, H⟩ acc eff = some (st', acc') →
      (acc'.all = false → ∃ v T, TrOk acc' T ∧ st' = ⟨putT tm o.dst v, H.mapIdx T⟩ ∧ ∀ (tm1 : List AV) (H1 : Heap), Agree acc' H H1 → Agree acc H H1 ∧ applyEff call (some sl) o ⟨tm1, H1⟩ acc eff = some (⟨putT tm1 o.dst v, H1.mapIdx T⟩, acc')) ∧
      (∃ v, st'.tm = putT tm o.dst v ∧ ∀ tm1, applyEff call (some sl) o ⟨tm1, H⟩ acc eff = some (⟨putT tm1 o.dst v, st'.H⟩, acc')) := by
    intro tm H eff acc acc' st' hw h
    cases eff with
    | val v =>
      have hval : ∀ (tm1 : List AV) (H1 : Heap), applyEff call (some sl) o ⟨tm1, H1⟩ acc (.val v) = some (⟨putT tm1 o.dst v, H1⟩, acc) := fun tm1 H1 => by
        simp only [applyEff]
        cases lightOp o.op <;> simp [fW_eq, fV_eq, fS_eq]
      simp only [hval] at h ⊢
      simp at h; obtain ⟨rfl, rfl⟩ := h
      exact ⟨fun _ => ⟨v, fun _ x => x, TrOk.id _, by rw [map_id'], fun tm1 H1 ha => ⟨ha, by rw [map_id']⟩⟩, v, rfl, fun _ => rfl⟩
    | new ob f =>
      simp only [applyEff, fO_eq, fV_eq, done, fS_eq, layNew] at h ⊢
      simp at h; obtain ⟨rfl, rfl⟩ := h
      refine ⟨fun _ => ⟨f sl, fun j x => if j = sl then ob else x, fun j hj => .inl fun x => ?_, by rw [← set_mapIdx], fun tm1 H1 ha => ⟨ha.add, by rw [← set_mapIdx]⟩⟩, f sl, rfl, fun _ => rfl⟩
      show (if j = sl then ob else x) = x
      rw [if_neg]; intro e; subst e; simp [Acc.add] at hj
    | put nm ob v =>
      simp only [applyEff, fO_eq, fV_eq, done, fS_eq] at h ⊢
      simp at h; obtain ⟨rfl, rfl⟩ := h
      refine ⟨fun _ => ⟨v, fun j x => if j = nm then ob else x, fun j hj => .inl fun x => ?_, by rw [← set_mapIdx], fun tm1 H1 ha => ⟨ha, by rw [← set_mapIdx]⟩⟩, v, rfl, fun _ => rfl⟩
      show (if j = nm then ob else x) = x
      rw [if_neg]; intro e; subst e; exact hj hw.2
    | app nm ob n sz =>
      simp only [applyEff, fO_eq, fV_eq, done, fS_eq, layNew] at h ⊢
      simp at h; obtain ⟨rfl, rfl⟩ := h
      refine ⟨fun _ => ⟨.own sl 0 n sz, fun j x => if j = sl then ob else if j = nm then .dead else x, fun j hj => .inl fun x => ?_, by rw [set_mapIdx, set_mapIdx, mapIdx_mapIdx'], fun tm1 H1 ha => ⟨ha.add, by rw [set_mapIdx, set_mapIdx, mapIdx_mapIdx']⟩⟩, .own sl 0 n sz, rfl, fun _ => rfl⟩
      simp [Acc.add] at hj
      have hw2 : nm ∈ acc.wr := hw.2
      show (if j = sl then ob else if j = nm then AO.dead else x) = x
      rw [if_neg hj.1, if_neg]; intro e; subst e; exact hj.2 hw2
    | call t args =>
      have hacn : acc = Acc.none := hw.2
      simp only [applyEff, fS_eq] at h ⊢
      cases hc : call t args H with
      | none => simp [hc] at h
      | some q =>
        obtain ⟨r, H', ac⟩ := q
        simp only [hc, fV_eq, done, fS_eq] at h ⊢
        simp at h; obtain ⟨rfl, rfl⟩ := h
        refine ⟨fun hal => ?_, r, rfl, fun _ => rfl⟩
        obtain ⟨T, t1, rfl, t3⟩ := hC _ _ _ _ _ _ hc hal
        exact ⟨r, T, t1, rfl, fun tm1 H1 ha => ⟨by rw [hacn]; exact Agree.none, by simp [t3 H1 ha]⟩⟩
  intro tm H st' acc h
  have hops : ∀ {tm1 : List AV}, AgreeT (looksL ops o) tm tm1 → ∀ x ∈ o.op.operands, opA tm1 x = opA tm x := fun {tm1} hA x hx => opA_congr hA x fun t ht => by
    subst ht
    unfold looksL
    rw [List.mem_append]
    left
    rw [List.mem_filterMap]
    exact ⟨.tmp t, by simpa using hx, rfl⟩
  unfold runOpG at h ⊢
  simp only at h
  cases hw : wantedA ops tm o with
  | none => simp [hw] at h
  | some b =>
    cases b with
    | false =>
      simp only [hw, fS_eq] at h
      simp at h; obtain ⟨rfl, rfl⟩ := h
      refine ⟨fun _ => ⟨.tup [], fun _ x => x, TrOk.id _, by rw [map_id'], fun tm1 H1 hA ha => ?_⟩, .tup [], rfl, fun tm1 hA => ?_⟩
      · simp [wantedA_congr hA, hw, fS_eq, map_id']
      · simp [wantedA_congr hA, hw, fS_eq]
    | true =>
      simp only [hw] at h
      unfold runOp at h
      simp only at h
      cases he : evalOp E tm H o with
      | none => simp [he] at h
      | some q =>
        obtain ⟨eff, ac⟩ := q
        obtain ⟨f1, f2⟩ := evalOp_fr he
        simp only [he] at h
        cases hp : primEff E H (eff, ac) with
        | none => simp [hp] at h
        | some q2 =>
          obtain ⟨ef2, ac2⟩ := q2
          simp only [hp] at h
          have hpf : EffWf ef2 ac2 ∧ ∀ H1, Agree ac2 H H1 → Agree ac H H1 ∧ primEff E H1 (eff, ac) = some (ef2, ac2) := by
            unfold primEff at hp ⊢
            cases eff with
            | call t args =>
              have hacn : ac = Acc.none := f1.2
              cases t with
              | func f =>
                simp only [fS_eq] at hp ⊢
                cases hpr : E.prim f args with
                | none =>
                  simp [hpr] at hp ⊢; obtain ⟨rfl, rfl⟩ := hp
                  exact ⟨f1, fun H1 ha => ⟨ha, rfl, rfl⟩⟩
                | some p =>
                  simp only [hpr] at hp ⊢
                  obtain ⟨g1, g2, g3⟩ := hE.fr f args p hpr _ _ _ hp
                  exact ⟨g1, fun H1 ha => ⟨by rw [hacn]; exact Agree.none, g3 H1 ha⟩⟩
              | yield l =>
                simp at hp ⊢; obtain ⟨rfl, rfl⟩ := hp
                exact ⟨f1, fun H1 ha => ⟨ha, rfl, rfl⟩⟩
            | _ =>
              simp at hp ⊢; obtain ⟨rfl, rfl⟩ := hp
              exact ⟨f1, fun H1 ha => ⟨ha, rfl, rfl⟩⟩
          obtain ⟨p1, p3⟩ := hpf
          obtain ⟨a1, a2⟩ := happ p1 h
          refine ⟨fun hal => ?_, ?_⟩
          · obtain ⟨v, T, t1, t2, t3⟩ := a1 hal
            refine ⟨v, T, t1, t2, fun tm1 H1 hA ha => ?_⟩
            obtain ⟨g1, g2⟩ := t3 tm1 H1 ha
            simp only [wantedA_congr hA, hw]
            unfold runOp
            simp only [evalOp_congr (hops hA)]
            obtain ⟨k1, k2⟩ := p3 H1 g1
            simp only [f2 k1, k2, g2]
          · obtain ⟨v, t1, t2⟩ := a2
            refine ⟨v, t1, fun tm1 hA => ?_⟩
            simp only [wantedA_congr hA, hw]
            unfold runOp
            simp only [evalOp_congr (hops hA), he, hp, t2 tm1]

theorem evalOp_nolay {tm : List AV} {H : Heap} {o : Oper} {eff : Eff} {acc : Acc} (h : evalOp E tm H o = some (eff, acc)) (hm : mayLay o.op = false) : (∃ v, eff = .val v) ∨ ∃ nm ob v, eff = .put nm ob v := by
  have hv : ∀ {x : Option AV}, (x.map fun x => (Eff.val x, Acc.none)) = some (eff, acc) → (∃ v, eff = .val v) ∨ ∃ nm ob v, eff = .put nm ob v := fun hx => by
    simp only [Option.map_eq_some_iff] at hx
    obtain ⟨y, _, he⟩ := hx
    cases he; exact .inl ⟨_, rfl⟩
  have hva : ∀ {x : Option (AV × Acc)}, (x.map fun (x, a) => (Eff.val x, a)) = some (eff, acc) → (∃ v, eff = .val v) ∨ ∃ nm ob v, eff = .put nm ob v := fun hx => by
    simp only [Option.map_eq_some_iff] at hx
    obtain ⟨y, _, he⟩ := hx
    cases he; exact .inl ⟨_, rfl⟩
  have hext : ∀ {k : XK} {xs : List AV}, laysX k = false → extA E H k xs = some (eff, acc) → (∃ v, eff = .val v) ∨ ∃ nm ob v, eff = .put nm ob v := fun hk h => by
    rcases extA_shape h with h | ⟨nm, ob, v, h, _⟩ | ⟨h, _⟩
    · exact .inl h
    · exact .inr ⟨nm, ob, v, h⟩
    · rw [hk] at h; cases h
  unfold evalOp at h
  cases hop : o.op <;> simp only [hop] at h hm <;> try (simp only [mayLay] at hm; cases hm; done)
  all_goals try (cases h; done)
  all_goals try (exact hv h)
  all_goals try (exact hva h)
  case pick c a b => split at h; exact hv h; cases h
  case store t a x =>
    unfold storeA at h
    cases hi : E.ty t with
    | none => simp [hi] at h
    | some i =>
      simp only [hi, Option.bind_eq_bind, Option.bind_some] at h
      split at h
      · split at h
        · split at h
          · simp at h; obtain ⟨rfl, _⟩ := h; exact .inr ⟨_, _, _, rfl⟩
          · cases h
        · cases h
      · cases h
  case nilCheck x => split at h <;> first | exact hv (x := some _) h | cases h
  case convert s d x =>
    unfold convA at h
    simp only [Option.bind_eq_bind, Option.bind_eq_some_iff] at h
    obtain ⟨i, _, j, _, h⟩ := h
    split at h
    · simp at h; obtain ⟨rfl, _⟩ := h; exact .inl ⟨_, rfl⟩
    · simp at h; obtain ⟨rfl, _⟩ := h; exact .inl ⟨_, rfl⟩
    · obtain ⟨⟨_, l, rfl⟩, _⟩ := bstrA_fr h; exact .inl ⟨_, rfl⟩
    · obtain ⟨⟨_, l, rfl⟩, _⟩ := bstrA_fr h; exact .inl ⟨_, rfl⟩
    · cases h
  case makeInterface t x =>
    simp only [Option.bind_eq_some_iff] at h
    obtain ⟨i, _, h⟩ := h
    split at h
    · cases h
    · exact hv (x := some _) h
  case makeFunc f fs cs =>
    cases f <;> simp only at h <;> try (cases h; done)
    split at h
    · exact hv (x := some _) h
    · cases h
  case mapUpdate t x i y =>
    unfold updateA at h
    simp only [Option.bind_eq_some_iff] at h
    obtain ⟨ti, _, h⟩ := h
    split at h
    · simp only [Option.bind_eq_some_iff] at h
      obtain ⟨ki, _, h⟩ := h
      split at h
      · split at h
        · split at h
          · split at h
            · split at h
              · cases h; exact .inr ⟨_, _, _, rfl⟩
              · cases h; exact .inr ⟨_, _, _, rfl⟩
              · cases h
            · cases h
          · cases h
        · cases h
      · cases h
    · cases h
  case extract x i => split at h; exact hv h; cases h
  case next | entry | mapEntry | entryStore => exact hext rfl h
  case call c =>
    cases hc : c.callee with
    | value f => simp [mayLay, hc] at hm
    | invoke r n => simp [mayLay, hc] at hm
    | builtin b =>
      rw [hc] at h
      have hbx : (match c.argTypes.toList with
          | t :: _ => (builtinX b t).bind fun k => extA E H k (c.args.toList.map (opA tm))
          | [] => Option.none) = some (eff, acc) → (∃ v, eff = .val v) ∨ ∃ nm ob v, eff = .put nm ob v := fun h => by
        split at h
        · simp only [Option.bind_eq_some_iff] at h
          obtain ⟨k, hk, h⟩ := h
          refine hext ?_ h
          unfold builtinX at hk
          split at hk <;> cases hk <;> rfl
        · cases h
      cases b <;> simp only at h <;> try (exact hbx h)
      case append => simp [mayLay, hc] at hm
      case len =>
        split at h
        · exact hva h
        · cases h
      case max => exact hv h
      case min => exact hv h

/-- What lays nothing needs no name. -/
theorem runOpG_nolay {call : CallT} {ops : List Oper} {o : Oper} (hm : mayLay o.op = false) (sl : Option Nat) : runOpG E call ops none o = runOpG E call ops sl o := by
  funext st
  unfold runOpG
  cases wantedA ops st.tm o with
  | none => rfl
  | some b =>
    cases b with
    | false => rfl
    | true =>
      simp only
      unfold runOp
      cases he : evalOp E st.tm st.H o with
      | none => rfl
      | some x =>
        obtain ⟨eff, acc⟩ := x
        rcases evalOp_nolay he hm with ⟨v, rfl⟩ | ⟨nm, ob, v, rfl⟩
        · simp only [primEff]; rfl
        · simp only [primEff]; rfl
end
end Go.Px
