/- The faster machine on such heaps. -/
import Derived.Test.YtefondfmngjekaaGreatPzT
set_option linter.unusedVariables false
set_option linter.unusedSimpArgs false
namespace Go.Px
open Go

abbrev CallTT := Tgt → List AV → TH → Option (AV × TH × Acc)
abbrev CallYT := YE → CallTT
structure FT where
  L : List AV
  V : List AV
  T : TH

def repR (x : Option (AV × Heap × Acc)) : Option (AV × TH × Acc) := x.map fun p => (p.1, rep p.2.1, p.2.2)
def repS (s : FS) : FT := ⟨s.L, s.V, rep s.H⟩
def Same (c : CallT) (cT : CallTT) : Prop := ∀ t as H, cT t as (rep H) = repR (c t as H)

noncomputable def evalFT (E : Env) (L V : List AV) (T : TH) (fa : FA) : Option (Eff × Acc) :=
  match fa with
  | .load t a => (loadG E T.rd t (gO L V a)).map fun p => (.val p.1, p.2)
  | .store t a x => storeG E T.rd t (gO L V a) (gO L V x)
  | .append t t2 s x => (E.ty t2).bind fun i => match i.desc with
    | .slice _ | .str => appendG E T.rd t (gO L V s) (gO L V x)
    | .int _ => extA E T.tl (.appendZ t) [gO L V s, gO L V x]
    | _ => none
  | fa => evalFA E L V T.tl fa
theorem evalFT_ok (E : Env) (L V : List AV) (H : Heap) (fa : FA) : evalFT E L V (rep H) fa = evalFA E L V H fa := by
  cases fa <;> simp only [evalFT, tl_rep, rd_rep, loadG_eq, storeG_eq, appendG_eq] <;> rfl

noncomputable def effT (call : CallTT) (slot : Option Nat) (light : Bool) (T : TH) (acc : Acc) : Eff → Option (AV × TH × Acc)
  | .val v => (if light then fW v else fV v) fun v => some (v, T, acc)
  | .new ob f => fO ob fun ob => layT slot T ob fun nm T => fV (f nm) fun v => some (v, T, acc.add slot)
  | .put nm ob v => fO ob fun ob => fV v fun v => setT T nm ob fun T => some (v, T, acc)
  | .app nm ob n sz => fO ob fun ob => setT T nm .dead fun T => layT slot T ob fun nm T => fV (.own nm 0 n sz) fun v => some (v, T, acc.add slot)
  | .call t args => fS args fun args => call t args T
theorem effT_ok {call : CallT} {cT : CallTT} (h : Same call cT) (slot : Option Nat) (light : Bool) (H : Heap) (acc : Acc) (e : Eff) : effT cT slot light (rep H) acc e = repR (effRes call slot light H acc e) := by
  cases e with
  | val v => cases light <;> simp [effT, effRes, fW_eq, fV_eq, repR]
  | new ob f => simp [effT, effRes, fO_eq, fV_eq, layT_eq, layH_eq, rep_lay, repR]
  | put nm ob v => simp [effT, effRes, fO_eq, fV_eq, setT_eq, setH_eq, rep_set, repR]
  | app nm ob n sz => simp [effT, effRes, fO_eq, fV_eq, setT_eq, setH_eq, rep_set, layT_eq, layH_eq, rep_lay, repR]
  | call t args => simp only [effT, effRes, fS_eq]; exact h t args H

noncomputable def runFT (E : Env) (call : CallTT) (slot : Option Nat) (fo : FO) (L V : List AV) (T : TH) : Option (FT × Acc) :=
  match wantedF fo.g L V with
  | some true => match evalFT E L V T fo.fa with
    | some x => match primEff E T.tl x with
      | some (eff, acc) => match effT call slot fo.light T acc eff with
        | some (v, T, acc) => putF fo.dst v L V fun L V => some (⟨L, V, T⟩, acc)
        | none => none
      | none => none
    | none => none
  | some false => putF fo.dst (.tup []) L V fun L V => some (⟨L, V, T⟩, Acc.none)
  | none => none
theorem runFT_ok {E : Env} {call : CallT} {cT : CallTT} (h : Same call cT) (slot : Option Nat) (fo : FO) (L V : List AV) (H : Heap) : runFT E cT slot fo L V (rep H) = (runFO E call slot fo L V H).map fun p => (repS p.1, p.2) := by
  unfold runFT runFO
  rw [evalFT_ok, tl_rep]
  cases wantedF fo.g L V with
  | none => rfl
  | some b =>
    cases b with
    | false => simp [putF_eq, repS]
    | true =>
      simp only
      cases evalFA E L V H fo.fa with
      | none => rfl
      | some x =>
        simp only
        cases primEff E H x with
        | none => rfl
        | some q =>
          obtain ⟨eff, acc⟩ := q
          simp only [effT_ok h]
          cases effRes call slot fo.light H acc eff with
          | none => rfl
          | some r => obtain ⟨v, H1, a1⟩ := r; simp [repR, putF_eq, repS]

noncomputable def runFTs (E : Env) (call : CallTT) : List FO → FT → Option FT
  | [], s => some s
  | fo :: rest, s => match runFT E call none fo s.L s.V s.T with
    | some (s, _) => runFTs E call rest s
    | none => none
theorem runFTs_ok {E : Env} {call : CallT} {cT : CallTT} (h : Same call cT) : ∀ (fos : List FO) (s : FS), runFTs E cT fos (repS s) = (runFOs E call fos s).map repS
  | [], s => rfl
  | fo :: rest, s => by
    simp only [runFTs, runFOs, repS, runFT_ok h]
    cases runFO E call none fo s.L s.V s.H with
    | none => rfl
    | some p => exact runFTs_ok h rest p.1

noncomputable def runFTsD (E : Env) (call : CallTT) (n0 : Nat) (bef : List Nat) : List FO → FT → List (Nat × Acc) → Option FT
  | [], s, _ => some s
  | fo :: rest, s, sp => match runFT E call (fo.slot n0) fo s.L s.V s.T with
    | some (s, acc) => if acc.idle then runFTsD E call n0 bef rest s sp else if spOk bef fo.idx acc sp then runFTsD E call n0 bef rest s ((fo.idx, acc) :: sp) else none
    | none => none
theorem runFTsD_ok {E : Env} {call : CallT} {cT : CallTT} (h : Same call cT) (n0 : Nat) (bef : List Nat) : ∀ (fos : List FO) (s : FS) (sp : List (Nat × Acc)), runFTsD E cT n0 bef fos (repS s) sp = (runFOsD E call n0 bef fos s sp).map repS
  | [], s, sp => rfl
  | fo :: rest, s, sp => by
    simp only [runFTsD, runFOsD, repS, runFT_ok h]
    cases runFO E call (fo.slot n0) fo s.L s.V s.H with
    | none => rfl
    | some p =>
      obtain ⟨s1, acc⟩ := p
      simp only [Option.map_some]
      split
      · exact runFTsD_ok h n0 bef rest s1 sp
      · split
        · exact runFTsD_ok h n0 bef rest s1 _
        · rfl

def endT (L V : List AV) (l : Nat) (T : TH) : Option (AExit × FT) :=
  match T.get l with
  | some (.loop st pend tm ps a b) => if st == .busy then none else match pend with
    | none => some (.normal, ⟨L, V, T.set l (.loop .exhausted pend tm ps a b)⟩)
    | some .ret => some (.ret, ⟨L, V, T.set l (.loop .exhausted pend tm ps a b)⟩)
    | some (.exit i) => some (.exit i, ⟨L, V, T.set l (.loop .exhausted pend tm ps a b)⟩)
    | _ => none
  | _ => none
def repX (x : Option (AExit × FS)) : Option (AExit × FT) := x.map fun p => (p.1, repS p.2)
theorem endT_ok (L V : List AV) (l : Nat) (H : Heap) : endT L V l (rep H) = repX (endF L V l H) := by
  unfold endT endF
  rw [rep_get]
  cases H[l]? with
  | none => rfl
  | some o =>
    cases o with
    | loop st pend tm ps a b =>
      simp only [rep_set]
      split
      · rfl
      · cases pend with
        | none => rfl
        | some c => cases c <;> rfl
    | _ => rfl

def loopT (f : FT → Option (AExit × FT)) : Nat → FT → Option (AExit × FT)
  | 0, _ => none
  | k + 1, s => match f s with
    | some (.normal, s) => loopT f k s
    | x => x

noncomputable def evalT (E : Env) (cy : CallYT) (Y : YE) (k : Nat) : FC → FT → Option (AExit × FT)
  | .skip, s => some (.normal, s)
  | .reg fos, s => match runFTs E (cy Y) fos ⟨[], s.V, s.T⟩ with
    | some s => some (.normal, s)
    | none => none
  | .dreg n bef fos, s => match runFTsD E (cy Y) s.T.n bef fos ⟨[], s.V, TH.deads n s.T⟩ [] with
    | some s => some (.normal, s)
    | none => none
  | .seq a b, s => match evalT E cy Y k a s with
    | some (.normal, s) => evalT E cy Y k b s
    | x => x
  | .cond c a b, s => match gO s.L s.V c with
    | .bool true => evalT E cy Y k a s
    | .bool false => evalT E cy Y k b s
    | _ => none
  | .block id b, s => match evalT E cy Y k b s with
    | some (.exit i, s) => if i = id then some (.normal, s) else some (.exit i, s)
    | x => x
  | .loop b, s => loopT (evalT E cy Y k b) k s
  | .exit id, s => some (.exit id, s)
  | .ret, s => some (.ret, s)
  | .range f id caps mk ps asg body, s => match gO s.L s.V f with
    | .clo g cs => match cy (⟨s.T.n, id, caps.map (gM s.L s.V)⟩ :: Y) (.func g) (.yield s.T.n :: cs) (s.T.push (.loop .ready none (mk.map (gM s.L s.V)) ps asg body)) with
      | some (_, T, _) => endT s.L s.V s.T.n T
      | none => none
    | _ => none

def SameY (c : CallY) (cT : CallYT) : Prop := ∀ Y, Same (c Y) (cT Y)

theorem evalT_ok {E : Env} {cy : CallY} {cT : CallYT} (h : SameY cy cT) (Y : YE) (k : Nat) : ∀ (fc : FC) (s : FS), evalT E cT Y k fc (repS s) = repX (evalF E cy Y k fc s)
  | .skip, s => rfl
  | .reg fos, s => by
    simp only [evalT, evalF]
    rw [show (⟨[], (repS s).V, (repS s).T⟩ : FT) = repS ⟨[], s.V, s.H⟩ from rfl, runFTs_ok (h Y)]
    cases runFOs E (cy Y) fos ⟨[], s.V, s.H⟩ <;> rfl
  | .dreg n bef fos, s => by
    simp only [evalT, evalF, fS_eq]
    rw [show (⟨[], (repS s).V, TH.deads n (repS s).T⟩ : FT) = repS ⟨[], s.V, s.H ++ List.replicate n .dead⟩ by simp [repS, rep_deads], runFTsD_ok (h Y), show (repS s).T.n = s.H.length from rep_n s.H]
    cases runFOsD E (cy Y) s.H.length bef fos ⟨[], s.V, s.H ++ List.replicate n .dead⟩ [] <;> rfl
  | .seq a b, s => by
    simp only [evalT, evalF]
    rw [evalT_ok h Y k a]
    rcases evalF E cy Y k a s with _ | ⟨_ | i | _, s1⟩ <;> try rfl
    exact evalT_ok h Y k b s1
  | .cond c a b, s => by
    simp only [evalT, evalF]
    rw [show gO (repS s).L (repS s).V c = gO s.L s.V c from rfl]
    cases gO s.L s.V c with
    | bool b' =>
      cases b' with
      | true => exact evalT_ok h Y k a s
      | false => exact evalT_ok h Y k b s
    | _ => rfl
  | .block id b, s => by
    simp only [evalT, evalF]
    rw [evalT_ok h Y k b]
    rcases evalF E cy Y k b s with _ | ⟨_ | i | _, s1⟩ <;> try rfl
    simp only [repX, Option.map_some]
    split <;> rfl
  | .loop b, s => by
    simp only [evalT, evalF]
    have : ∀ (n : Nat) (s : FS), loopT (evalT E cT Y k b) n (repS s) = repX (loopF (evalF E cy Y k b) n s) := by
      intro n
      induction n with
      | zero => intro s; rfl
      | succ n ih =>
        intro s
        simp only [loopT, loopF]
        rw [evalT_ok h Y k b]
        rcases evalF E cy Y k b s with _ | ⟨_ | i | _, s1⟩ <;> try rfl
        exact ih s1
    exact this k s
  | .exit id, s => rfl
  | .ret, s => rfl
  | .range f id caps mk ps asg body, s => by
    simp only [evalT, evalF]
    rw [show gO (repS s).L (repS s).V f = gO s.L s.V f from rfl, show (repS s).T.n = s.H.length from rep_n s.H]
    cases gO s.L s.V f with
    | clo g cs =>
      simp only
      rw [show (repS s).T.push (.loop .ready none (mk.map (gM (repS s).L (repS s).V)) ps asg body) = rep (s.H ++ [.loop .ready none (mk.map (gM s.L s.V)) ps asg body]) from (rep_push _ _).symm, h]
      rw [show caps.map (gM (repS s).L (repS s).V) = caps.map (gM s.L s.V) from rfl]
      cases cy (⟨s.H.length, id, caps.map (gM s.L s.V)⟩ :: Y) (.func g) (.yield s.H.length :: cs) (s.H ++ [.loop .ready none (mk.map (gM s.L s.V)) ps asg body]) with
      | none => rfl
      | some q => obtain ⟨r, H1, a⟩ := q; exact endT_ok _ _ _ H1
    | _ => rfl

noncomputable def resT (E : Env) (V : List AV) (T : TH) : List FR → Option (List AV)
  | [] => some []
  | .tmp o :: rs => match resT E V T rs with
    | some l => some (gO [] V o :: l)
    | none => none
  | .cell o t :: rs => match loadG E T.rd t (gO [] V o), resT E V T rs with
    | some (x, _), some l => some (x :: l)
    | _, _ => none
theorem resT_ok (E : Env) (V : List AV) (H : Heap) : ∀ rs, resT E V (rep H) rs = resF E V H rs
  | [] => rfl
  | .tmp o :: rs => by simp only [resT, resF, resT_ok E V H rs] <;> rfl
  | .cell o t :: rs => by simp only [resT, resF, resT_ok E V H rs, rd_rep, loadG_eq] <;> rfl

noncomputable def runBodyT (E : Env) (cy : CallYT) (Y : YE) (k : Nat) (ff : FFn) (args : List AV) (T : TH) : Option (AV × TH) :=
  if args.length ≤ ff.n then
    initK ff.vs args fun V => match evalT E cy Y k ff.body ⟨[], V, T⟩ with
      | some (.exit _, _) => none
      | some (_, s) => match resT E s.V s.T ff.res with
        | some rs => some (resOf rs, s.T)
        | none => none
      | none => none
  else none
def rep2 (x : Option (AV × Heap)) : Option (AV × TH) := x.map fun p => (p.1, rep p.2)
theorem runBodyT_ok {E : Env} {cy : CallY} {cT : CallYT} (h : SameY cy cT) (Y : YE) (k : Nat) (ff : FFn) (args : List AV) (H : Heap) : runBodyT E cT Y k ff args (rep H) = rep2 (runBodyF E cy Y k ff args H) := by
  unfold runBodyT runBodyF
  simp only [initK_eq]
  rw [show (⟨[], ff.vs.map fun t => args.getD t .undef, rep H⟩ : FT) = repS ⟨[], ff.vs.map fun t => args.getD t .undef, H⟩ from rfl, evalT_ok h]
  split
  · rcases evalF E cy Y k ff.body ⟨[], ff.vs.map fun t => args.getD t .undef, H⟩ with _ | ⟨_ | i | _, s1⟩ <;> try rfl
    all_goals
      simp only [repX, Option.map_some, repS, resT_ok]
      cases resF E s1.V s1.H ff.res <;> rfl
  · rfl

noncomputable def roundT (E : Env) (cy : CallYT) (Y : YE) (k : Nat) (l : Nat) (lf : LFn) (V : List AV) (args : List AV) (T : TH) : Option (AV × TH × Acc) :=
  match T.get l with
  | some (.loop .ready _ _ _ _ _) =>
    if args.length ≠ lf.ps.length then none else
    match evalT E cy Y k lf.asg ⟨[], setV V lf.ps args, T⟩ with
    | some (.normal, s1) => match s1.T.get l with
      | some (.loop .ready pend tm ps a b) => match evalT E cy Y k lf.body ⟨[], s1.V, s1.T.set l (.loop .busy pend tm ps a b)⟩ with
        | some (e2, s2) => match s2.T.get l with
          | some (.loop _ _ tm ps a b) => some (.bool (jumpOf e2).isNone, s2.T.set l (.loop (if (jumpOf e2).isNone then .ready else .done) (jumpOf e2) tm ps a b), ⟨[], [], true⟩)
          | _ => none
        | none => none
      | _ => none
    | _ => none
  | _ => none
theorem roundT_ok {E : Env} {cy : CallY} {cT : CallYT} (h : SameY cy cT) (Y : YE) (k l : Nat) (lf : LFn) (V args : List AV) (H : Heap) : roundT E cT Y k l lf V args (rep H) = repR (roundF E cy Y k l lf V args H) := by
  unfold roundT roundF
  rw [rep_get]
  cases H[l]? with
  | none => rfl
  | some o =>
    cases o with
    | loop st p tm ps a b =>
      cases st with
      | ready =>
        simp only
        split
        · rfl
        · rw [show (⟨[], setV V lf.ps args, rep H⟩ : FT) = repS ⟨[], setV V lf.ps args, H⟩ from rfl, evalT_ok h]
          rcases evalF E cy Y k lf.asg ⟨[], setV V lf.ps args, H⟩ with _ | ⟨_ | i | _, s1⟩ <;> try rfl
          simp only [repX, Option.map_some, repS, rep_get]
          cases s1.H[l]? with
          | none => rfl
          | some o1 =>
            cases o1 with
            | loop st1 p1 tm1 ps1 a1 b1 =>
              cases st1 with
              | ready =>
                simp only [rep_set]
                rw [show (⟨[], s1.V, rep (s1.H.set l (.loop .busy p1 tm1 ps1 a1 b1))⟩ : FT) = repS ⟨[], s1.V, s1.H.set l (.loop .busy p1 tm1 ps1 a1 b1)⟩ from rfl, evalT_ok h]
                rcases evalF E cy Y k lf.body ⟨[], s1.V, s1.H.set l (.loop .busy p1 tm1 ps1 a1 b1)⟩ with _ | ⟨e2, s2⟩
                · rfl
                · simp only [repX, Option.map_some, repS, rep_get]
                  cases s2.H[l]? with
                  | none => rfl
                  | some o2 => cases o2 <;> simp [repR, rep_set]
              | _ => rfl
            | _ => rfl
      | _ => rfl
    | _ => rfl

def TH.mark1 (T : TH) (nm : Nat) : TH :=
  match T.get nm with
  | some (.row e cs _) => T.set nm (.row e cs true)
  | _ => T
def TH.marks (T : TH) (ns : List Nat) : TH := ns.foldl TH.mark1 T
theorem rep_marks : ∀ (ns : List Nat) (H : Heap), (rep H).marks ns = rep (markAll H ns)
  | [], H => rfl
  | n :: ns, H => by
    show ((rep H).mark1 n).marks ns = rep (markAll (markOne H n) ns)
    rw [← rep_marks ns]
    congr 1
    unfold TH.mark1 markOne
    rw [rep_get]
    cases H[n]? with
    | none => rfl
    | some o => cases o <;> simp [rep_set]

noncomputable def callFT (E : Env) (FE : Nat → Option FFn) (LE : Nat → Option LFn) : Nat → CallYT
  | 0, _, _, _, _ => none
  | k + 1, Y, .func f, args, T => match FE f with
    | some ff => if E.pure f then
        match fzL (fzG E T.get fzDeep) args with
        | some (fargs, ns) => match runBodyT E (callFT E FE LE k) [] k ff fargs .nil with
          | some (r, T2) => match fzG E T2.get fzDeep r with
            | some (r', _) => some (r', if flat r' then T else T.marks ns, ⟨ns, [], false⟩)
            | none => none
          | none => none
        | none => none
      else match runBodyT E (callFT E FE LE k) Y k ff args T with
        | some (r, T2) => some (r, T2, ⟨[], [], true⟩)
        | none => none
    | none => none
  | k + 1, Y, .yield l, args, T => match YE.at Y l with
    | some d => match LE d.id with
      | some lf => roundT E (callFT E FE LE k) Y k l lf d.V args T
      | none => none
    | none => none
theorem get_rep (H : Heap) : (rep H).get = fun i => H[i]? := by funext i; exact rep_get H i
theorem callFT_ok (E : Env) (FE : Nat → Option FFn) (LE : Nat → Option LFn) : ∀ k, SameY (callF E FE LE k) (callFT E FE LE k)
  | 0 => fun Y t as H => by cases t <;> rfl
  | k + 1 => fun Y t as H => by
    have ih := callFT_ok E FE LE k
    cases t with
    | yield l =>
      simp only [callFT, callF]
      cases YE.at Y l with
      | none => rfl
      | some d =>
        simp only
        cases LE d.id with
        | none => rfl
        | some lf => exact roundT_ok ih Y k l lf d.V as H
    | func f =>
      simp only [callFT, callF]
      cases FE f with
      | none => rfl
      | some ff =>
        simp only [get_rep, fzG_eq]
        split
        · cases fzL (fz E H fzDeep) as with
          | none => rfl
          | some q =>
            obtain ⟨fargs, ns⟩ := q
            simp only
            rw [show TH.nil = rep [] from rfl, runBodyT_ok ih]
            cases runBodyF E (callF E FE LE k) [] k ff fargs [] with
            | none => rfl
            | some q2 =>
              obtain ⟨r, H2⟩ := q2
              simp only [rep2, Option.map_some, get_rep, fzG_eq]
              cases fz E H2 fzDeep r with
              | none => rfl
              | some q3 =>
                obtain ⟨r', ns2⟩ := q3
                simp only [repR, Option.map_some, rep_marks]
                split <;> rfl
        · rw [runBodyT_ok ih]
          cases runBodyF E (callF E FE LE k) Y k ff as H with
          | none => rfl
          | some q2 => rfl
end Go.Px
