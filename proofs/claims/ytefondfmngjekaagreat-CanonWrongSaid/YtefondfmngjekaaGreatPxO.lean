/- Operations, rows of operations, regions: the machine does what the abstract machine reckons. -/
import Derived.Test.YtefondfmngjekaaGreatPxH
import Derived.Test.YtefondfmngjekaaGreatPxL
import Derived.Test.YtefondfmngjekaaGreatPxN
set_option linter.unusedVariables false
set_option linter.unusedSimpArgs false
namespace Go.Px
open Go

/-- What an effect makes of the heap; its value. -/
def effTo (sl : Option Nat) (H : Heap) : Eff → Option (Heap × AV)
  | .val x => some (H, x)
  | .new o f => some ((layNew sl H o).2, f (layNew sl H o).1)
  | .put nm o x => some (H.set nm o, x)
  | .app nm o n sz => some ((layNew sl (H.set nm .dead) o).2, .own (layNew sl (H.set nm .dead) o).1 0 n sz)
  | .call _ _ => none

/-- What a call comes back with. -/
def Back (P : Program) (base : Nat) (sl : Option Nat) (m : Mu) (S : Sett) (H : Heap) (w : World) (H' : Heap) (x : AV) (e : Ending) (w' : World) : Prop :=
  ∃ v' m' S', e = .returned v' ∧ Step P base m S H w m' S' H' w' ∧ Gaps sl m H m' H' ∧ Rep m' S' w' false v' x

/-- The calls of the abstract machine are the machine's. -/
structure CallSim (P : Program) (call : CallT) : Prop where
  fn : ∀ f args H r H' acc, call (.func f) args H = some (r, H', acc) → ∀ base m S w (args' : Array Value), Rel P base m S H w → RepL m S w false args'.toList args →
    (callFunc f args').run P w = .ok (.enter f args') w ∧ ∀ n, CallsIn Fence.wide n P f args' w (Back P base none m S H w H' r)
  yd : ∀ l args H r H' acc, call (.yield l) args H = some (r, H', acc) → ∀ base m S w (args' : Array Value) b, Rel P base m S H w → RepL m S w false args'.toList args → m l = some (b, 0) →
    ∃ g tmps asg body, (Instr.yield b args').run P w = .ok (.round b g tmps asg body) w ∧ ∀ n, RoundIn Fence.wide n P b g tmps asg body w (Back P base none m S H w H' r)

/-- The functions whose effect is told do as they are told. -/
def PrimOk (P : Program) (E : Env) : Prop :=
  ∀ f args p, E.prim f args = some p → ∀ H eff acc, p H = some (eff, acc) → ∀ base sl m S w (args' : Array Value), Rel P base m S H w → SlotOk m H sl → RepL m S w false args'.toList args →
    ∃ H' x, effTo sl H eff = some (H', x) ∧ (((callFunc f args').run P w = .ok (.enter f args') w ∧ ∀ n, CallsIn Fence.wide n P f args' w (Back P base sl m S H w H' x)) ∨ (∃ v', (callFunc f args').run P w = .ok (.value v') w ∧ H' = H ∧ Rep m S w false v' x))

/-- The fences that are used here. -/
structure WideF (F : Fence) : Prop where
  calls : ∀ n P f args w R, CallsIn Fence.wide n P f args w R → CallsIn F n P f args w R
  rounds : ∀ n P l f tmps asg body w R, RoundIn Fence.wide n P l f tmps asg body w R → RoundIn F n P l f tmps asg body w R
  fn : ∀ f, F.fn f
  depth : F.depth = none

theorem wideF_wide : WideF Fence.wide := ⟨fun _ _ _ _ _ _ h => h, fun _ _ _ _ _ _ _ _ _ h => h, fun _ => trivial, rfl⟩
theorem wideF_round (l : Nat) : WideF (Fence.wide.inRound l) := ⟨fun _ _ _ _ _ _ h => h, fun _ _ _ _ _ _ _ _ _ h => h, fun _ => trivial, rfl⟩

section
variable {P : Program} {E : Env} {base : Nat} {m : Mu} {S : Sett} {w : World} {F : Fence} {n : Nat}

theorem Gaps.none_to {sl : Option Nat} {m : Mu} {H : Heap} {m' : Mu} {H' : Heap} (h : Gaps none m H m' H') : Gaps sl m H m' H' := fun nm hl _ hm => h nm hl (by simp) hm

theorem put_rep {m : Mu} {S : Sett} {w : World} {a : Act} {tm : List AV} (h : RepL m S w false a.tmps.toList tm) (d : Option Tmp) {v' : Value} {x : AV} (hv : Rep m S w false v' x) : RepL m S w false (a.put d v').tmps.toList (putT tm d x) := by
  cases d with
  | none => exact h
  | some d =>
    simp only [Act.put, putT, Array.toList_setIfInBounds]
    exact h.set d hv

theorem put_defers (a : Act) (d : Option Tmp) (v : Value) : (a.put d v).defers = a.defers := by cases d <;> rfl

/-- How it goes on behind an operation. -/
def Goes (P : Program) (base : Nat) (sl : Option Nat) (m : Mu) (S : Sett) (st st' : St) (w : World) (a : Act) (o : Oper) (K : Act → World → Prop) : Prop :=
  ∀ v' w' m' S', Step P base m S st.H w m' S' st'.H w' → Gaps sl m st.H m' st'.H → RepL m' S' w' false (a.put o.dst v').tmps.toList st'.tm → K (a.put o.dst v') w'

theorem yielded_ok {ops : Array Oper} {a : Act} {tm : List AV} {o : Oper} {b : Bool} (hT : RepL m S w false a.tmps.toList tm) (h : wantedA ops.toList tm o = some b) : Region.wanted o (yielded ops a.tmps) = b := by
  unfold wantedA at h
  unfold Region.wanted
  cases hg : o.guard with
  | none => simp [hg] at h; subst h; rfl
  | some q =>
    obtain ⟨j, want⟩ := q
    simp only [hg] at h ⊢
    rw [Array.getElem?_toList] at h
    cases hd : (ops[j]?).bind (·.dst) with
    | none => simp [hd] at h
    | some d =>
      simp only [hd] at h
      unfold yielded
      simp only [hd, Option.bind_some]
      have hr := hT.getD d
      split at h
      · rename_i c hc
        rw [hc] at hr
        have hv := rep_bool hr
        simp at h; subst h
        have : a.tmps[d]? = some (.bool c) := by
          rw [List.getD_eq_getElem?_getD, Array.getElem?_toList] at hv
          cases hx : a.tmps[d]? with
          | none => rw [hx] at hv; simp [Go.undef] at hv
          | some x => rw [hx] at hv; simp at hv; rw [hv]
        rw [this]
        cases c <;> cases want <;> rfl
      · rename_i vs hc
        rw [hc] at hr
        obtain ⟨cs, hv, _⟩ := rep_tup hr
        simp at h; subst h
        rw [List.getD_eq_getElem?_getD, Array.getElem?_toList] at hv
        cases hx : a.tmps[d]? with
        | none => rfl
        | some x => rw [hx] at hv; simp at hv; subst hv; rfl
      · cases h

/-- ONE OPERATION OF A REGION. -/
theorem opSim (hE : EnvOk P E) (hP : PrimOk P E) {call : CallT} (hC : CallSim P call) (hF : WideF F) {ops : Array Oper} {sl : Option Nat} {o : Oper} {st st' : St} {acc : Acc} (h : runOpG E call ops.toList sl o st = some (st', acc))
    {a : Act} {K : Act → World → Prop} {Q : Exit → Act → World → Prop} (hR : Rel P base m S st.H w) (hT : RepL m S w false a.tmps.toList st.tm) (hs : SlotOk m st.H sl) (hK : Goes P base sl m S st st' w a o K) :
    if Region.wanted o (yielded ops a.tmps) then o.wpIn F n P a w K Q else (∀ f, o.about P w a.eval = some f → F.fn f) ∧ K (a.put o.dst Go.undef) w := by
  unfold runOpG at h
  cases hw : wantedA ops.toList st.tm o with
  | none => simp [hw] at h
  | some b =>
    rw [yielded_ok hT hw]
    cases b with
    | false =>
      simp only [hw, fS_eq] at h
      simp at h; obtain ⟨rfl, rfl⟩ := h
      exact ⟨fun f _ => hF.fn f, hK Go.undef w m S (Step.refl hR) (Gaps.refl _ _ _) (put_rep hT o.dst (.tup false [] [] (.nil _)))⟩
    | true =>
      simp only [hw] at h
      simp only [if_true]
      unfold runOp at h
      cases he : evalOp E st.tm st.H o with
      | none => simp [he] at h
      | some q =>
        obtain ⟨eff, ac⟩ := q
        simp only [he] at h
        have hnd : ∀ c, o.op ≠ .defer c := fun c hc => by unfold evalOp at he; simp [hc] at he
        have hok := evalOp_ok hE hR hs hT he
        refine ⟨fun f _ => hF.fn f, ?_⟩
        rw [Oper.semAt_eq _ _ _ hnd]
        -- what an operation does that is no call
        have hplain : ∀ {eff : Eff} {ac acc : Acc} {H' : Heap} {x : AV}, effTo sl st.H eff = some (H', x) → applyEff call sl o st ac eff = some (st', acc) → st'.H = H' ∧ st'.tm = putT st.tm o.dst x := by
          intro eff ac acc H' x h1 h2
          cases eff with
          | val v =>
            simp only [effTo] at h1; cases h1
            simp only [applyEff] at h2
            cases hl : lightOp o.op <;> simp [hl, fW_eq, fV_eq, fS_eq] at h2 <;> obtain ⟨rfl, _⟩ := h2 <;> exact ⟨rfl, rfl⟩
          | new ob f =>
            simp only [effTo] at h1; cases h1
            simp [applyEff, fO_eq, fV_eq, done, fS_eq] at h2
            obtain ⟨rfl, _⟩ := h2; exact ⟨rfl, rfl⟩
          | put nm ob v =>
            simp only [effTo] at h1; cases h1
            simp [applyEff, fO_eq, fV_eq, done, fS_eq] at h2
            obtain ⟨rfl, _⟩ := h2; exact ⟨rfl, rfl⟩
          | app nm ob k sz =>
            simp only [effTo] at h1; cases h1
            simp [applyEff, fO_eq, fV_eq, done, fS_eq] at h2
            obtain ⟨rfl, _⟩ := h2; exact ⟨rfl, rfl⟩
          | call t args => simp [effTo] at h1
        have hback : ∀ {H' : Heap} {x : AV} {sl' : Option Nat}, (∀ {m' : Mu}, Gaps sl' m st.H m' H' → Gaps sl m st.H m' H') → st'.H = H' → st'.tm = putT st.tm o.dst x → ∀ v' w' m' S', Step P base m S st.H w m' S' H' w' → Gaps sl' m st.H m' H' → Rep m' S' w' false v' x → K (a.put o.dst v') w' := by
          intro H' x sl' hg h1 h2 v' w' m' S' h3 h4 h5
          subst h1
          exact hK v' w' m' S' h3 (hg h4) (by rw [h2]; exact put_rep (hT.ext h3.ext) o.dst h5)
        have hout : ∀ {eff : Eff} {ac acc : Acc} {H' : Heap} {x : AV}, effTo sl st.H eff = some (H', x) → applyEff call sl o st ac eff = some (st', acc) → OutN P base sl m S st.H w ((execOp a.eval o).run P w) H' x → o.uponIn F n P a K Q ((execOp a.eval o).run P w) := by
          intro eff ac acc H' x h1 h2 ⟨nx, v', w', m', S', r1, r2, r3, r4, r5⟩
          obtain ⟨g1, g2⟩ := hplain h1 h2
          rw [r1]
          rcases r2 with rfl | ⟨rfl, rfl⟩
          · exact hback (fun h => h) g1 g2 _ _ _ _ r3 r4 r5
          · exact hback (fun h => h) g1 g2 _ _ _ _ r3 r4 r5
        have hdep : F.depth.isSome = true → 1 ≤ n := fun h => by rw [hF.depth] at h; cases h
        cases eff with
        | val x => simp only [primEff] at h; exact hout (eff := .val x) rfl h hok
        | new ob f => simp only [primEff] at h; exact hout (eff := .new ob f) rfl h hok
        | put nm ob x => simp only [primEff] at h; exact hout (eff := .put nm ob x) rfl h hok
        | app nm ob k sz => simp only [primEff] at h; exact hout (eff := .app nm ob k sz) rfl h hok
        | call t args =>
          -- a call that is run
          have hcall : ∀ {ac acc : Acc}, applyEff call sl o st ac (.call t args) = some (st', acc) → o.uponIn F n P a K Q ((execOp a.eval o).run P w) := by
            intro ac acc h
            simp only [applyEff, fS_eq] at h
            cases hc : call t args st.H with
            | none => simp [hc] at h
            | some q =>
              obtain ⟨r, H', ac'⟩ := q
              simp [hc, fV_eq, done, fS_eq] at h
              obtain ⟨rfl, _⟩ := h
              cases t with
              | func f =>
                obtain ⟨args', r1, r2⟩ := hok
                obtain ⟨g1, g2⟩ := hC.fn f args st.H r H' ac' hc base m S w args' hR r2
                rw [r1, g1]
                refine ⟨hdep, (hF.calls _ _ _ _ _ _ (g2 (n - 1))).mono fun e w' hb => ?_⟩
                obtain ⟨v', m', S', rfl, b1, b2, b3⟩ := hb
                exact hback (fun h => h.none_to) rfl rfl v' w' m' S' b1 b2 b3
              | yield l =>
                obtain ⟨args', b, hm, r1, r2⟩ := hok
                obtain ⟨g, tmps, asg, body, g1, g2⟩ := hC.yd l args st.H r H' ac' hc base m S w args' b hR r2 hm
                rw [r1, g1]
                refine ⟨hdep, (hF.rounds _ _ _ _ _ _ _ _ _ (g2 (n - 1))).mono fun e w' hb => ?_⟩
                obtain ⟨v', m', S', rfl, b1, b2, b3⟩ := hb
                exact hback (fun h => h.none_to) rfl rfl v' w' m' S' b1 b2 b3
          cases t with
          | yield l => simp only [primEff] at h; exact hcall h
          | func f =>
            simp only [primEff, fS_eq] at h
            cases hp : E.prim f args with
            | none => simp only [hp] at h; exact hcall h
            | some p =>
              simp only [hp] at h
              cases hpe : p st.H with
              | none => simp [hpe] at h
              | some q =>
                obtain ⟨ef2, ac2⟩ := q
                simp only [hpe] at h
                obtain ⟨args', r1, r2⟩ := hok
                obtain ⟨H', x, e1, e2⟩ := hP f args p hp st.H ef2 ac2 hpe base sl m S w args' hR hs r2
                obtain ⟨k1, k2⟩ := hplain e1 h
                rcases e2 with ⟨g1, e2⟩ | ⟨v', g1, rfl, g3⟩
                case inr =>
                  rw [r1, g1]
                  exact hback (sl' := sl) (fun h => h) k1 k2 v' w m S (Step.refl hR) (Gaps.refl _ _ _) g3
                rw [r1, g1]
                refine ⟨hdep, (hF.calls _ _ _ _ _ _ (e2 (n - 1))).mono fun e w' hb => ?_⟩
                obtain ⟨v', m', S', rfl, b1, b2, b3⟩ := hb
                exact hback (fun h => h) k1 k2 v' w' m' S' b1 b2 b3

/-! ### rows of operations -/
def stepAt (E : Env) (call : CallT) (ops : List Oper) (sl : Nat → Option Nat) (i : Nat) (st : St) : Option (St × Acc) :=
  match ops[i]? with
  | some o => runOpG E call ops (sl i) o st
  | none => none

def RunS (F : Nat → St → Option (St × Acc)) : List Nat → St → St → Prop
  | [], s, s' => s = s'
  | i :: l, s, s' => ∃ s1 acc, F i s = some (s1, acc) ∧ RunS F l s1 s'

theorem RunL.toS {F : Nat → St → Option (St × Acc)} {A : Nat → Acc} : ∀ {l : List Nat} {s s' : St}, RunL F A l s s' → RunS F l s s'
  | [], _, _, h => h
  | _ :: _, _, _, ⟨s1, h, k⟩ => ⟨s1, _, h, k.toS⟩

theorem Gaps.trans' {m m' m'' : Mu} {H H' H'' : Heap} {sl : Option Nat} (h : Gaps sl m H m' H') (k : Gaps none m' H' m'' H'') (hl : H.length ≤ H'.length) : Gaps sl m H m'' H'' := fun nm hlt hne hm => by
  obtain ⟨a, b⟩ := h nm hlt hne hm
  obtain ⟨c, d⟩ := k nm (by omega) (by simp) a
  exact ⟨c, fun hd => d (b hd)⟩

theorem seqSim (hE : EnvOk P E) (hP : PrimOk P E) {call : CallT} (hC : CallSim P call) (hF : WideF F) {ops : Array Oper} {sl : Nat → Option Nat} (hsl : ∀ i j nm, sl i = some nm → sl j = some nm → i = j) {Q : Exit → Act → World → Prop} : ∀ (l : List Nat) {st st' : St} {m : Mu} {S : Sett} {w : World} {a : Act},
    RunS (stepAt E call ops.toList sl) l st st' → l.Nodup → (∀ i ∈ l, SlotOk m st.H (sl i)) → Rel P base m S st.H w → RepL m S w false a.tmps.toList st.tm →
    (∀ a' w' m' S', Step P base m S st.H w m' S' st'.H w' → (∀ nm, nm < st.H.length → (∀ i ∈ l, sl i ≠ some nm) → m nm = none → m' nm = none ∧ (st.H[nm]? = some .dead → st'.H[nm]? = some .dead)) → RepL m' S' w' false a'.tmps.toList st'.tm → a'.defers = a.defers → Q .normal a' w') →
    wpOpsIn F n P ops Q l a w
  | [], st, st', m, S, w, a, h, _, _, hR, hT, hK => by
    cases h
    exact hK a w m S (Step.refl hR) (fun nm _ _ hm => ⟨hm, fun h => h⟩) hT rfl
  | i :: l, st, st', m, S, w, a, h, hnd, hs, hR, hT, hK => by
    obtain ⟨s1, acc, h1, h2⟩ := h
    unfold stepAt at h1
    cases ho : ops.toList[i]? with
    | none => simp [ho] at h1
    | some o =>
      simp only [ho] at h1
      rw [Array.getElem?_toList] at ho
      simp only [wpOpsIn, ho]
      rw [List.nodup_cons] at hnd
      refine opSim hE hP hC hF h1 hR hT (hs i (by simp)) ?_
      intro v' w' m' S' hst hg hT'
      refine seqSim hE hP hC hF hsl l h2 hnd.2 (fun j hj => ?_) hst.rel hT' ?_
      · refine ⟨fun nm hnm => ?_⟩
        obtain ⟨d1, d2⟩ := (hs j (List.mem_cons_of_mem _ hj)).free nm hnm
        have hlt : nm < st.H.length := (List.getElem?_eq_some_iff.1 d1).1
        have hne : some nm ≠ sl i := fun e => by
          have : i = j := hsl i j nm e.symm hnm
          subst this
          exact hnd.1 hj
        obtain ⟨x1, x2⟩ := hg nm hlt hne d2
        exact ⟨x2 d1, x1⟩
      · intro a'' w'' m'' S'' hst2 hg2 hT2 hd2
        refine hK a'' w'' m'' S'' (hst.trans hst2) (fun nm hlt hne hm => ?_) hT2 (by rw [hd2, put_defers])
        obtain ⟨x1, x2⟩ := hg nm hlt (fun e => hne i (by simp) e.symm) hm
        obtain ⟨y1, y2⟩ := hg2 nm (Nat.lt_of_lt_of_le hlt hst.len) (fun j hj => hne j (List.mem_cons_of_mem _ hj)) x1
        exact ⟨y1, fun h => y2 (x2 h)⟩
end
end Go.Px
