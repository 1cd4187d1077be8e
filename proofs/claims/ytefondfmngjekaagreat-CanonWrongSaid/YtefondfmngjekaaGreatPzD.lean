/- Functions and calls in one breath. -/
import Derived.Test.YtefondfmngjekaaGreatPzC
set_option linter.unusedVariables false
set_option linter.unusedSimpArgs false
namespace Go.Px
open Go

/-! ### freezing -/
section fz
variable {β : Type}
noncomputable def catZ (a : List Nat) : List Nat → (List Nat → β) → β :=
  @List.rec Nat (fun _ => List Nat → (List Nat → β) → β) (fun b c => c b) (fun x _ ih b c => ih b fun l => c (x :: l)) a
theorem catZ_eq : ∀ (a b : List Nat) (c : List Nat → β), catZ a b c = c (a ++ b)
  | [], _, _ => rfl
  | x :: a, b, c => by
    show catZ a b (fun l => c (x :: l)) = _
    rw [catZ_eq a b]; rfl

noncomputable def fzLZ (f : AV → (AV → List Nat → β) → β) (l : List AV) : (List AV → List Nat → β) → β :=
  @List.rec AV (fun _ => (List AV → List Nat → β) → β) (fun c => c [] []) (fun x _ ih c => f x fun y ns => ih fun ys ms => catZ ns ms fun q => c (y :: ys) q) l

noncomputable def consB (l : List AV) (n s : β) : β := @List.rec AV (fun _ => β) n (fun _ _ _ => s) l
theorem consB_eq (l : List AV) (n s : β) : consB l n s = if 0 < l.length then s else n := by cases l <;> simp [consB]

noncomputable def fzStep (d : β) (H : TH) (ih : AV → (AV → List Nat → β) → β) (v : AV) (c : AV → List Nat → β) : β :=
  AV.casesOn (motive_1 := fun _ => β) v d (fun _ => c v []) (fun _ _ => c v []) (fun _ => c v []) (fun _ _ _ => c v [])
    (fun nm off n sz => rowT d H nm fun cs => fzLZ ih cs fun l ns => takeZ (Nat.add off (Nat.mul n sz)) d l fun l => dropZ l off fun l => c (.sl n l false) (nm :: ns))
    (fun cs => fzLZ ih cs fun l ns => c (.agg l) ns) (fun cs => fzLZ ih cs fun l ns => c (.tup l) ns) (fun f cs => fzLZ ih cs fun l ns => c (.clo f l) ns) (fun _ => d)
    (c v []) (c v []) (fun t x => ih x fun x ns => c (.iface t x) ns) (fun _ => c v [])
    (fun nm off => rowT d H nm fun cs => fzLZ ih cs fun l ns => dropZ l off fun l => consB l d (c (.ref l) (nm :: ns)))
    (c v []) (fun _ => d) (c v []) (fun _ _ _ => c v [])

noncomputable def fzZ (d : β) (H : TH) (k : Nat) : AV → (AV → List Nat → β) → β :=
  @Nat.rec (fun _ => AV → (AV → List Nat → β) → β) (fun _ _ => d) (fun _ ih => fzStep d H ih) k

theorem fzL_length {f : AV → Option (AV × List Nat)} : ∀ {l r : List AV} {ns : List Nat}, fzL f l = some (r, ns) → r.length = l.length
  | [], r, ns, h => by simp [fzL] at h; rw [← h.1]
  | x :: l, r, ns, h => by
    simp only [fzL, Option.bind_eq_bind] at h
    cases hx : f x with
    | none => simp [hx] at h
    | some q =>
      obtain ⟨y, ms⟩ := q
      cases hl : fzL f l with
      | none => simp [hx, hl] at h
      | some q2 =>
        obtain ⟨ys, ms2⟩ := q2
        simp [hx, hl] at h
        obtain ⟨rfl, _⟩ := h
        simp [fzL_length hl]

theorem fzLZ_eq {d : β} {f : AV → (AV → List Nat → β) → β} {g : AV → Option (AV × List Nat)} (hf : ∀ v c, f v c = match g v with
    | some (x, ns) => c x ns
    | none => d) : ∀ (l : List AV) (c : List AV → List Nat → β), fzLZ f l c = match fzL g l with
    | some (x, ns) => c x ns
    | none => d
  | [], c => rfl
  | x :: l, c => by
    show f x (fun y ns => fzLZ f l fun ys ms => catZ ns ms fun q => c (y :: ys) q) = _
    rw [hf]
    simp only [fzL, Option.bind_eq_bind]
    cases hx : g x with
    | none => rfl
    | some q =>
      obtain ⟨y, ns⟩ := q
      simp only [Option.bind_some]
      rw [fzLZ_eq hf l]
      cases hl : fzL g l with
      | none => rfl
      | some q2 => obtain ⟨ys, ms⟩ := q2; simp [catZ_eq]

theorem fzZ_eq (E : Env) (d : β) (H : TH) : ∀ (k : Nat) (v : AV) (c : AV → List Nat → β), fzZ d H k v c = match fzG E H.get k v with
    | some (x, ns) => c x ns
    | none => d
  | 0, v, c => rfl
  | k + 1, v, c => by
    have hL := fun l c => fzLZ_eq (d := d) (f := fzZ d H k) (g := fzG E H.get k) (fun v c => fzZ_eq E d H k v c) l c
    show fzStep d H (fzZ d H k) v c = _
    cases v with
    | own nm off n sz =>
      simp only [fzG, fzStep, rowT_eq]
      cases hr : H.get nm with
      | none => rfl
      | some o =>
        cases o with
        | row e cs fr =>
          simp only [hL]
          cases hl : fzL (fzG E H.get k) cs with
          | none => simp
          | some q =>
            obtain ⟨l, ns⟩ := q
            have := fzL_length hl
            simp only [takeZ_eq, dropZ_eq, Nat.add_eq, Nat.mul_eq, Option.bind_eq_bind]
            by_cases hc : off + n * sz ≤ cs.length
            · rw [if_pos (by omega), if_pos hc]
              simp [List.drop_take, Nat.add_sub_cancel_left]
            · rw [if_neg (by omega), if_neg hc]
        | _ => rfl
    | loc nm off =>
      simp only [fzG, fzStep, rowT_eq]
      cases hr : H.get nm with
      | none => rfl
      | some o =>
        cases o with
        | row e cs fr =>
          simp only [hL]
          cases hl : fzL (fzG E H.get k) cs with
          | none => simp
          | some q =>
            obtain ⟨l, ns⟩ := q
            have := fzL_length hl
            simp only [dropZ_eq, consB_eq, List.length_drop, Option.bind_eq_bind]
            by_cases hc : off < cs.length
            · rw [if_pos (by omega), if_pos hc]; simp
            · rw [if_neg (by omega), if_neg hc]
        | _ => rfl
    | agg cs =>
      simp only [fzG, fzStep, hL, Option.bind_eq_bind]
      cases fzL (fzG E H.get k) cs with
      | none => rfl
      | some q => rfl
    | tup cs =>
      simp only [fzG, fzStep, hL, Option.bind_eq_bind]
      cases fzL (fzG E H.get k) cs with
      | none => rfl
      | some q => rfl
    | clo f cs =>
      simp only [fzG, fzStep, hL, Option.bind_eq_bind]
      cases fzL (fzG E H.get k) cs with
      | none => rfl
      | some q => rfl
    | iface t x =>
      simp only [fzG, fzStep, fzZ_eq E d H k, Option.bind_eq_bind]
      cases fzG E H.get k x with
      | none => rfl
      | some q => rfl
    | _ => rfl
end fz

/-! ### functions -/
structure ZFn where
  n : Nat
  vs : List Nat
  z : CallYT → YE → Nat → CZ
  res : List FR

noncomputable def initZ (ts : List Nat) : List AV → (List AV → Ans) → Ans :=
  @List.rec Nat (fun _ => List AV → (List AV → Ans) → Ans) (fun _ c => c []) (fun t _ ih args c => nthZ args t fun v => ih args fun l => c (v :: l)) ts
theorem initZ_eq : ∀ (ts : List Nat) (args : List AV) (c : List AV → Ans), initZ ts args c = c (ts.map fun t => args.getD t .undef)
  | [], _, _ => rfl
  | t :: ts, args, c => by
    show nthZ args t (fun v => initZ ts args fun l => c (v :: l)) = _
    rw [nthZ_eq, initZ_eq ts args]; rfl

noncomputable def finZ (E : Env) (res : List FR) : KB := fun _ V H => match res with
  | [.tmp o] => gZ o [] V fun x => some (x, H)
  | res => match resT E V H res with
    | some rs => some (resOf rs, H)
    | none => none
theorem finZ_eq (E : Env) (res : List FR) (L V : List AV) (H : TH) : finZ E res L V H = match resT E V H res with
    | some rs => some (resOf rs, H)
    | none => none := by
  unfold finZ
  split
  · simp [gZ_eq, resT, resOf]
  · rfl

/-- No more than so many. -/
noncomputable def leZ (l : List AV) : Nat → Ans → Ans :=
  @List.rec AV (fun _ => Nat → Ans → Ans) (fun _ c => c) (fun _ _ ih n c => @Nat.rec (fun _ => Ans) none (fun n _ => ih n c) n) l
theorem leZ_eq : ∀ (l : List AV) (n : Nat) (c : Ans), leZ l n c = if l.length ≤ n then c else none
  | [], n, c => by
    show c = _
    simp
  | _ :: l, 0, c => by
    show none = _
    simp
  | _ :: l, n + 1, c => by
    show leZ l n c = _
    rw [leZ_eq l n c]; simp

noncomputable def bodyZ (E : Env) (cy : CallYT) (Y : YE) (k : Nat) (zf : ZFn) (args : List AV) (H : TH) : Ans :=
  leZ args zf.n (initZ zf.vs args fun V => zf.z cy Y k (finZ E zf.res) (fun _ _ _ _ => none) (finZ E zf.res) [] V H)

/-- A function in one breath is the function. -/
structure ZOk (E : Env) (np : Nat → Bool) (ff : FFn) (zf : ZFn) : Prop where
  n : zf.n = ff.n
  vs : zf.vs = ff.vs
  res : zf.res = ff.res
  z : ∀ cy Y k, zf.z cy Y k = zOf E np cy Y k ff.body

theorem bodyZ_ok {E : Env} {np : Nat → Bool} (hnp : ∀ f, np f = true → ∀ as, E.prim f as = none) {ff : FFn} {zf : ZFn} (h : ZOk E np ff zf) (cy : CallYT) (Y : YE) (k : Nat) (args : List AV) (H : TH) : bodyZ E cy Y k zf args H = runBodyT E cy Y k ff args H := by
  unfold bodyZ runBodyT
  rw [leZ_eq, initZ_eq, initK_eq, h.n, h.vs, h.res, h.z, zOf_ok hnp]
  split
  · rcases evalT E cy Y k ff.body ⟨[], _, H⟩ with _ | ⟨_ | i | _, s⟩
    · rfl
    · simp only [goOn, finZ_eq]; rfl
    · rfl
    · simp only [goOn, finZ_eq]; rfl
  · rfl

/-! ### rounds -/
structure ZLn where
  n : Nat
  vs : List Nat
  ps : List (Option Nat)
  asg : CallYT → YE → Nat → CZ
  body : CallYT → YE → Nat → CZ

structure ZLOk (E : Env) (np : Nat → Bool) (lf : LFn) (zl : ZLn) : Prop where
  ps : zl.ps = lf.ps
  asg : ∀ cy Y k, zl.asg cy Y k = zOf E np cy Y k lf.asg
  body : ∀ cy Y k, zl.body cy Y k = zOf E np cy Y k lf.body

/-! ### calls -/
abbrev Res := Option (AV × TH × Acc)
noncomputable def ansB (x : Ans) (s : AV → TH → Res) : Res := @Option.rec _ (fun _ => Res) none (fun p => @Prod.rec _ _ (fun _ => Res) (fun r H => s r H) p) x
theorem ansB_eq (x : Ans) (s : AV → TH → Res) : ansB x s = match x with
  | some (r, H) => s r H
  | none => none := by rcases x with _ | ⟨r, H⟩ <;> rfl

noncomputable def ifR (b : Bool) (t e : Res) : Res := @Bool.rec (fun _ => Res) e t b
theorem ifR_eq (b : Bool) (t e : Res) : ifR b t e = if b = true then t else e := by cases b <;> rfl
noncomputable def mark1Z (H : TH) (n : Nat) (c : TH → Res) : Res := getT H n (fun o => match o with
  | .row e cs _ => setT H n (.row e cs true) c
  | _ => c H) (c H)
theorem mark1Z_eq (H : TH) (n : Nat) (c : TH → Res) : mark1Z H n c = c (H.mark1 n) := by
  unfold mark1Z TH.mark1
  rw [getT_eq]
  cases H.get n with
  | none => rfl
  | some o => cases o <;> first | rfl | exact setT_eq _ _ _ _
noncomputable def markZ (H : TH) (ns : List Nat) (c : TH → Res) : Res := @List.rec Nat (fun _ => TH → Res) c (fun n _ ih H => mark1Z H n ih) ns H
theorem markZ_eq : ∀ (ns : List Nat) (H : TH) (c : TH → Res), markZ H ns c = c (H.marks ns)
  | [], H, c => rfl
  | n :: ns, H, c => by
    show mark1Z H n (fun H => markZ H ns c) = _
    rw [mark1Z_eq, markZ_eq ns]; rfl

noncomputable def callPure (E : Env) (cy : CallYT) (k : Nat) (zf : ZFn) (args : List AV) (H : TH) : Res :=
  fzLZ (fzZ none H fzDeep) args fun fargs ns => ansB (bodyZ E cy [] k zf fargs .nil) fun r H2 => fzZ none H2 fzDeep r fun r' _ =>
    ifR (flat r') (some (r', H, ⟨ns, [], false⟩)) (markZ H ns fun H => some (r', H, ⟨ns, [], false⟩))

noncomputable def callRaw (E : Env) (cy : CallYT) (Y : YE) (k : Nat) (zf : ZFn) (args : List AV) (H : TH) : Res :=
  ansB (bodyZ E cy Y k zf args H) fun r H2 => some (r, H2, ⟨[], [], true⟩)

noncomputable def setVZ (V : List AV) (ps : List (Option Nat)) (args : List AV) (c : List AV → Option (AV × TH)) : Option (AV × TH) := fS (setV V ps args) c

/-- A round's end: the answer to who called, out of the heap behind it. -/
noncomputable def endR (l : Nat) (e : AExit) (H : TH) : Option (AV × TH) :=
  match H.get l with
  | some (.loop _ _ tm ps a b) => setT H l (.loop (if (jumpOf e).isNone then .ready else .done) (jumpOf e) tm ps a b) fun H => some (.bool (jumpOf e).isNone, H)
  | _ => none

noncomputable def roundZ (cy : CallYT) (Y : YE) (k : Nat) (l : Nat) (zl : ZLn) (V : List AV) (args : List AV) (H : TH) : Res :=
  match H.get l with
  | some (.loop .ready _ _ _ _ _) =>
    if args.length ≠ zl.ps.length then none else
    ansB (fS (setV V zl.ps args) fun V => zl.asg cy Y k (fun _ V H => match H.get l with
        | some (.loop .ready pend tm ps a b) => setT H l (.loop .busy pend tm ps a b) fun H =>
          zl.body cy Y k (fun _ _ H => endR l .normal H) (fun i _ _ H => endR l (.exit i) H) (fun _ _ H => endR l .ret H) [] V H
        | _ => none) (fun _ _ _ _ => none) (fun _ _ _ => none) [] V H) fun r H => some (r, H, ⟨[], [], true⟩)
  | _ => none

theorem roundZ_ok {E : Env} {np : Nat → Bool} (hnp : ∀ f, np f = true → ∀ as, E.prim f as = none) {lf : LFn} {zl : ZLn} (h : ZLOk E np lf zl) (cy : CallYT) (Y : YE) (k l : Nat) (V args : List AV) (H : TH) : roundZ cy Y k l zl V args H = roundT E cy Y k l lf V args H := by
  unfold roundZ roundT
  rw [h.ps]
  cases hl : H.get l with
  | none => rfl
  | some o =>
    cases o with
    | loop st p tm ps a b =>
      cases st with
      | ready =>
        simp only
        split
        · rfl
        · simp only [ansB_eq, fS_eq, setT_eq, h.asg, h.body, zOf_ok hnp]
          rcases evalT E cy Y k lf.asg ⟨[], setV V lf.ps args, H⟩ with _ | ⟨_ | i | _, s1⟩ <;> try rfl
          simp only [goOn]
          cases hl1 : s1.T.get l with
          | none => rfl
          | some o1 =>
            cases o1 with
            | loop st1 p1 tm1 ps1 a1 b1 =>
              cases st1 with
              | ready =>
                simp only
                rcases evalT E cy Y k lf.body ⟨[], s1.V, s1.T.set l (.loop .busy p1 tm1 ps1 a1 b1)⟩ with _ | ⟨_ | i | _, s2⟩
                · rfl
                all_goals
                  simp only [goOn, endR, setT_eq]
                  cases hl2 : s2.T.get l with
                  | none => rfl
                  | some o2 => cases o2 <;> rfl
              | _ => rfl
            | _ => rfl
      | _ => rfl
    | _ => rfl

noncomputable def callZ (E : Env) (GE : Nat → Option ZFn) (LZ : Nat → Option ZLn) (k : Nat) : CallYT :=
  @Nat.rec (fun _ => CallYT) (fun _ _ _ _ => none)
    (fun k ih Y t args H => Tgt.casesOn t (fun f => @Option.rec ZFn (fun _ => Res) none (fun zf => ifR (E.pure f) (callPure E ih k zf args H) (callRaw E ih Y k zf args H)) (GE f))
      (fun l => @Option.rec LD (fun _ => Res) none (fun d => @Option.rec ZLn (fun _ => Res) none (fun zl => roundZ ih Y k l zl d.V args H) (LZ d.id)) (YE.at Y l))) k

/-- The tables. -/
def ZEOk (E : Env) (np : Nat → Bool) (GE : Nat → Option ZFn) (FE : Nat → Option FFn) : Prop := ∀ f, match GE f, FE f with
  | none, none => True
  | some zf, some ff => ZOk E np ff zf
  | _, _ => False
def ZLEOk (E : Env) (np : Nat → Bool) (LZ : Nat → Option ZLn) (LE : Nat → Option LFn) : Prop := ∀ i, match LZ i, LE i with
  | none, none => True
  | some zl, some lf => ZLOk E np lf zl
  | _, _ => False

/-- THE MACHINE IN ONE BREATH IS THE FASTER MACHINE. -/
theorem callZ_eq {E : Env} {np : Nat → Bool} (hnp : ∀ f, np f = true → ∀ as, E.prim f as = none) {GE : Nat → Option ZFn} {FE : Nat → Option FFn} {LZ : Nat → Option ZLn} {LE : Nat → Option LFn} (hG : ZEOk E np GE FE) (hL : ZLEOk E np LZ LE) : ∀ k, callZ E GE LZ k = callFT E FE LE k
  | 0 => by funext Y t args H; rfl
  | k + 1 => by
    have ih := callZ_eq hnp hG hL k
    funext Y t args H
    cases t with
    | yield l =>
      show @Option.rec LD (fun _ => Res) none (fun d => @Option.rec ZLn (fun _ => Res) none (fun zl => roundZ (callZ E GE LZ k) Y k l zl d.V args H) (LZ d.id)) (YE.at Y l) = _
      simp only [callFT]
      cases YE.at Y l with
      | none => rfl
      | some d =>
        have := hL d.id
        simp only
        cases h1 : LZ d.id with
        | none =>
          rw [h1] at this
          cases h2 : LE d.id with
          | none => rfl
          | some lf => rw [h2] at this; exact this.elim
        | some zl =>
          rw [h1] at this
          cases h2 : LE d.id with
          | none => rw [h2] at this; exact this.elim
          | some lf =>
            rw [h2] at this
            simp only
            rw [ih]; exact roundZ_ok hnp this _ _ _ _ _ _ _
    | func f =>
      show @Option.rec ZFn (fun _ => Res) none (fun zf => ifR (E.pure f) (callPure E (callZ E GE LZ k) k zf args H) (callRaw E (callZ E GE LZ k) Y k zf args H)) (GE f) = _
      simp only [callFT]
      have := hG f
      cases h1 : GE f with
      | none =>
        rw [h1] at this
        cases h2 : FE f with
        | none => rfl
        | some ff => rw [h2] at this; exact this.elim
      | some zf =>
        rw [h1] at this
        cases h2 : FE f with
        | none => rw [h2] at this; exact this.elim
        | some ff =>
          rw [h2] at this
          simp only [ifR_eq, ih]
          split
          · unfold callPure
            rw [fzLZ_eq (d := none) (g := fzG E H.get fzDeep) (fun v c => fzZ_eq E none H fzDeep v c)]
            cases fzL (fzG E H.get fzDeep) args with
            | none => rfl
            | some q =>
              obtain ⟨fargs, ns⟩ := q
              simp only [ansB_eq, bodyZ_ok hnp this]
              cases runBodyT E (callFT E FE LE k) [] k ff fargs .nil with
              | none => rfl
              | some q2 =>
                obtain ⟨r0, H2⟩ := q2
                simp only [fzZ_eq E]
                cases fzG E H2.get fzDeep r0 with
                | none => rfl
                | some q3 =>
                  obtain ⟨r', ns2⟩ := q3
                  simp only [ifR_eq, markZ_eq]
                  split <;> rfl
          · unfold callRaw
            simp only [ansB_eq, bodyZ_ok hnp this]
            cases runBodyT E (callFT E FE LE k) Y k ff args H with
            | none => rfl
            | some q2 => rfl

/-- .. AND SO IT IS RIGHT. -/
theorem callZ_ok {E : Env} {np : Nat → Bool} (hnp : ∀ f, np f = true → ∀ as, E.prim f as = none) (hE : PrimNL E) {GE : Nat → Option ZFn} {FE : Nat → Option FFn} {LZ : Nat → Option ZLn} {LE : Nat → Option LFn} (hG : ZEOk E np GE FE) (hL : ZLEOk E np LZ LE) (hFE : FEOk E FE LE) (hLE : TabOk LE) {k : Nat} {f : Nat} {args : List AV} {r : AV × TH × Acc}
    (h : callZ E GE LZ k [] (.func f) args .nil = some r) : ∃ H, callA E k (.func f) args [] = some (r.1, H, r.2.2) := by
  rw [callZ_eq hnp hG hL] at h
  rw [show TH.nil = rep [] from rfl, callFT_ok E FE LE k] at h
  cases hc : callF E FE LE k [] (.func f) args [] with
  | none => rw [hc] at h; cases h
  | some q =>
    rw [hc] at h
    simp only [repR, Option.map_some, Option.some.injEq] at h
    subst h
    exact ⟨q.2.1, (callF_ok hE hFE hLE k [] _ _ _ _ (fun l d hd => by simp [YE.at] at hd) hc).1⟩
end Go.Px
#print axioms Go.Px.callZ_ok
