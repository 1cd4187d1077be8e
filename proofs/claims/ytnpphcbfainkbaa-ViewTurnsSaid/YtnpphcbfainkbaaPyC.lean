/- The faster machine: regions that draw, code, functions, calls. -/
import Derived.Test.YtnpphcbfainkbaaPyB
set_option linter.unusedVariables false
set_option linter.unusedSimpArgs false
namespace Go.Px
open Go

theorem meets_idle {a b : Acc} (h : a.idle = true ∨ b.idle = true) : a.meets b = false := by
  unfold Acc.meets
  rcases h with h | h
  · have := idle_all h
    rw [this]
    simp only [Bool.false_eq_true, if_false, h, Bool.not_true]
    split
    · rfl
    · simp [Acc.idle] at h
      obtain ⟨⟨_, h1⟩, h2⟩ := h
      simp [hitL, h1, h2]
  · have := idle_all h
    rw [this]
    simp only [Bool.false_eq_true, if_false, h, Bool.not_true]
    split
    · rfl
    · simp [Acc.idle] at h
      obtain ⟨⟨_, h1⟩, h2⟩ := h
      simp [hitL, h1, h2]

structure SpInv (bef : List Nat) (accs : List Acc) (sp : List (Nat × Acc)) : Prop where
  mem : ∀ j, j < accs.length → (accs.getD j Acc.none).idle = true ∨ (j, accs.getD j Acc.none) ∈ sp
  ok : ∀ i, i < accs.length → ∀ j, j < i → (!(accs.getD j Acc.none).meets (accs.getD i Acc.none) || (bef.getD i 0).testBit j) = true

theorem SpInv.nil (bef : List Nat) : SpInv bef [] [] := ⟨fun j h => by simp at h, fun i h => by simp at h⟩

theorem getD_last (accs : List Acc) (acc : Acc) (j : Nat) : (accs ++ [acc]).getD j Acc.none = if j = accs.length then acc else accs.getD j Acc.none := by
  simp only [List.getD_eq_getElem?_getD]
  by_cases h : j = accs.length
  · subst h; simp
  · rw [if_neg h]
    rcases Nat.lt_or_ge j accs.length with hl | hl
    · rw [List.getElem?_append_left hl]
    · rw [List.getElem?_append_right hl, List.getElem?_eq_none (by simp; omega), List.getElem?_eq_none (by omega)]

theorem SpInv.idle {bef : List Nat} {accs : List Acc} {sp : List (Nat × Acc)} (h : SpInv bef accs sp) {acc : Acc} (ha : acc.idle = true) : SpInv bef (accs ++ [acc]) sp := by
  refine ⟨fun j hj => ?_, fun i hi j hj => ?_⟩
  · rw [getD_last]
    split
    · exact .inl ha
    · exact h.mem j (by simp at hj; omega)
  · simp at hi
    rw [getD_last, getD_last]
    by_cases h1 : i = accs.length
    · rw [if_pos h1, meets_idle (.inr ha)]; rfl
    · rw [if_neg h1, if_neg (by omega)]
      exact h.ok i (by omega) j hj

theorem SpInv.more {bef : List Nat} {accs : List Acc} {sp : List (Nat × Acc)} (h : SpInv bef accs sp) {acc : Acc} (ha : spOk bef accs.length acc sp = true) : SpInv bef (accs ++ [acc]) ((accs.length, acc) :: sp) := by
  refine ⟨fun j hj => ?_, fun i hi j hj => ?_⟩
  · rw [getD_last]
    split
    · rename_i e; subst e; exact .inr (List.mem_cons_self ..)
    · exact (h.mem j (by simp at hj; omega)).imp_right (List.mem_cons_of_mem _)
  · simp at hi
    rw [getD_last, getD_last]
    by_cases h1 : i = accs.length
    · subst h1
      rw [if_pos rfl, if_neg (by omega)]
      rcases h.mem j hj with hm | hm
      · rw [meets_idle (.inl hm)]; rfl
      · exact List.all_eq_true.1 ha _ hm
    · rw [if_neg h1, if_neg (by omega)]
      exact h.ok i (by omega) j hj

theorem SpInv.apart {bef : List Nat} {accs : List Acc} {sp : List (Nat × Acc)} (h : SpInv bef accs sp) : apartA bef accs = true := by
  unfold apartA
  rw [List.all_eq_true]
  intro i hi
  rw [List.all_eq_true]
  intro j hj
  exact h.ok i (List.mem_range.1 hi) j (List.mem_range.1 hj)

section
variable {E : Env} {c1 c2 : CallT} {vs : List Nat} {N : Nat}

theorem runFOsD_ok (hb : Below' c1 c2) (hnd : vs.Nodup) (hvN : ∀ t ∈ vs, t < N) {ops : List Oper} {n0 : Nat} {bef : List Nat} : ∀ {rest : List Oper} {i : Nat} {s s' : Sig} {fos : List FO}, compOps vs N ops i rest s = some (fos, s') →
    ∀ {L V tm : List AV} {H : Heap} {accs : List Acc} {sp : List (Nat × Acc)}, VarOk vs N V tm → SigOk s L V tm → SpInv bef accs sp → accs.length = i → ∀ {fs : FS}, runFOsD E c1 n0 bef fos ⟨L, V, H⟩ sp = some fs →
    ∃ tm' accs', runDraw E c2 ops n0 rest i ⟨tm, H⟩ accs = some (⟨tm', fs.H⟩, accs') ∧ SigOk s' fs.L fs.V tm' ∧ VarOk vs N fs.V tm' ∧ apartA bef accs' = true
  | [], i, s, s', fos, hc, L, V, tm, H, accs, sp, hV, hs, hsp, hi, fs, h => by
    cases hc
    cases h
    exact ⟨tm, accs, rfl, hs, hV, hsp.apart⟩
  | o :: rest, i, s, s', fos, hc, L, V, tm, H, accs, sp, hV, hs, hsp, hi, fs, h => by
    simp only [compOps] at hc
    split at hc
    · rename_i s1 ha
      obtain ⟨tm1, g1, g2, g3⟩ := compAlias_ok ha hV hs E c2 ops (some (n0 + i)) H
      obtain ⟨tm2, accs2, k1, k2⟩ := runFOsD_ok hb hnd hvN hc g3 g2 (hsp.idle (acc := Acc.none) rfl) (by simp [hi]) h
      refine ⟨tm2, accs2, ?_, k2⟩
      simp only [runDraw, Option.bind_eq_bind, g1, Option.bind_some]
      exact k1
    · split at hc
      · rename_i g fa d s1 q1 q2 q3
        split at hc
        · rename_i fos1 s2 q4
          cases hc
          simp only [runFOsD] at h
          split at h
          · rename_i fs1 acc hr
            obtain ⟨tm1, g1, g2, g3⟩ := runFO_ok hb hnd hvN q1 q2 q3 hV hs hr
            have fin : ∀ {sp'}, SpInv bef (accs ++ [acc]) sp' → runFOsD E c1 n0 bef fos1 fs1 sp' = some fs → ∃ tm' accs', runDraw E c2 ops n0 (o :: rest) i ⟨tm, H⟩ accs = some (⟨tm', fs.H⟩, accs') ∧ SigOk s' fs.L fs.V tm' ∧ VarOk vs N fs.V tm' ∧ apartA bef accs' = true := fun hsp' hq => by
              obtain ⟨tm2, accs2, k1, k2⟩ := runFOsD_ok hb hnd hvN q4 g3 g2 hsp' (by simp [hi]) hq
              refine ⟨tm2, accs2, ?_, k2⟩
              simp only [runDraw, Option.bind_eq_bind, g1, Option.bind_some]
              exact k1
            split at h
            · rename_i hid
              exact fin (hsp.idle hid) h
            · split at h
              · rename_i hso
                exact fin (by subst hi; exact hsp.more hso) h
              · cases h
          · cases h
        · cases hc
      · cases hc

theorem loopF_ok {f : FS → Option (AExit × FS)} {g : St → Option (AExit × St)} (hfg : ∀ {fs : FS} {tm : List AV}, VarOk vs N fs.V tm → ∀ {e fs'}, f fs = some (e, fs') → ∃ tm', g ⟨tm, fs.H⟩ = some (e, ⟨tm', fs'.H⟩) ∧ VarOk vs N fs'.V tm') :
    ∀ (n : Nat) {fs : FS} {tm : List AV}, VarOk vs N fs.V tm → ∀ {e fs'}, loopF f n fs = some (e, fs') → ∃ tm', loopN g n ⟨tm, fs.H⟩ = some (e, ⟨tm', fs'.H⟩) ∧ VarOk vs N fs'.V tm'
  | 0, fs, tm, hV, e, fs', h => by cases h
  | n + 1, fs, tm, hV, e, fs', h => by
    simp only [loopF] at h
    simp only [loopN, Option.bind_eq_bind]
    split at h
    · rename_i fs1 h1
      obtain ⟨tm1, g1, g2⟩ := hfg hV h1
      obtain ⟨tm2, k1, k2⟩ := loopF_ok hfg n g2 h
      exact ⟨tm2, by rw [g1]; exact k1, k2⟩
    · rename_i hne
      obtain ⟨tm1, g1, g2⟩ := hfg hV h
      refine ⟨tm1, ?_, g2⟩
      rw [g1]
      cases e with
      | normal => exact absurd h (hne _)
      | exit i => rfl
      | ret => rfl

/-- CODE. -/
theorem evalF_ok (hb : Below' c1 c2) (hnd : vs.Nodup) (hvN : ∀ t ∈ vs, t < N) (k : Nat) : ∀ (c : Code) {s s' : Sig} {fc : FC}, compC vs N c s = some (fc, s') → ∀ {fs : FS} {tm : List AV}, VarOk vs N fs.V tm → SigOk s fs.L fs.V tm →
    ∀ {e : AExit} {fs' : FS}, evalF E c1 k fc fs = some (e, fs') → ∃ tm', evalC E c2 k c ⟨tm, fs.H⟩ = some (e, ⟨tm', fs'.H⟩) ∧ VarOk vs N fs'.V tm' ∧ (e = .normal → SigOk s' fs'.L fs'.V tm') := by
  intro c
  induction c with
  | skip => intro s s' fc hc fs tm hV hs e fs' h; cases hc; cases h; exact ⟨tm, rfl, hV, fun _ => hs⟩
  | label x => intro s s' fc hc fs tm hV hs e fs' h; cases hc; cases h; exact ⟨tm, rfl, hV, fun _ => hs⟩
  | region id ops draw =>
    intro s s' fc hc fs tm hV hs e fs' h
    simp only [compC] at hc
    split at hc
    · rename_i fos s1 h1
      cases draw with
      | false =>
        simp only [Bool.false_eq_true, if_false] at hc
        cases hc
        simp only [evalF] at h
        split at h
        · rename_i fs1 h2
          cases h
          obtain ⟨tm1, g1, g2, g3⟩ := runFOs_ok hb hnd hvN h1 hV (sig0_ok (L := []) hV) h2
          refine ⟨tm1, ?_, g3, fun _ => g2⟩
          simp only [evalC, runRegion, Bool.not_false, if_true]
          rw [g1]; rfl
        · cases h
      | true =>
        simp only [if_true] at hc
        split at hc
        · rename_i hok
          cases hc
          simp only [evalF, fS_eq] at h
          split at h
          · rename_i fs1 h2
            cases h
            obtain ⟨tm1, accs, g1, g2, g3, g4⟩ := runFOsD_ok hb hnd hvN h1 hV (sig0_ok (L := []) hV) (SpInv.nil _) rfl h2
            refine ⟨tm1, ?_, g3, fun _ => g2⟩
            simp only [evalC, runRegion, Bool.not_true, Bool.false_eq_true, if_false, Option.bind_eq_bind]
            rw [g1]
            simp [hok, g4]
          · cases h
        · cases hc
    · cases hc
  | seq a b iha ihb =>
    intro s s' fc hc fs tm hV hs e fs' h
    simp only [compC] at hc
    split at hc
    · rename_i fa s1 h1
      split at hc
      · rename_i fb s2 h2
        cases hc
        simp only [evalF] at h
        simp only [evalC, Option.bind_eq_bind]
        split at h
        · rename_i fs1 h3
          obtain ⟨tm1, g1, g2, g3⟩ := iha h1 hV hs h3
          obtain ⟨tm2, k1, k2, k3⟩ := ihb h2 g2 (g3 rfl) h
          exact ⟨tm2, by rw [g1]; exact k1, k2, k3⟩
        · rename_i hne
          obtain ⟨tm1, g1, g2, g3⟩ := iha h1 hV hs h
          refine ⟨tm1, ?_, g2, fun he => ?_⟩
          · rw [g1]
            cases e with
            | normal => exact absurd h (hne _)
            | exit i => rfl
            | ret => rfl
          · subst he; exact absurd h (hne _)
      · cases hc
    · cases hc
  | cond c a b iha ihb =>
    intro s s' fc hc fs tm hV hs e fs' h
    simp only [compC] at hc
    split at hc
    · rename_i o fa _ fb _ h1 h2 h3
      cases hc
      simp only [evalF] at h
      simp only [evalC]
      have e1 := toO_ok hs h1
      split at h
      · rename_i hb1
        rw [e1] at hb1
        obtain ⟨tm1, g1, g2, g3⟩ := iha h2 hV hs h
        exact ⟨tm1, by rw [hb1]; exact g1, g2, fun _ => sig0_ok g2⟩
      · rename_i hb1
        rw [e1] at hb1
        obtain ⟨tm1, g1, g2, g3⟩ := ihb h3 hV hs h
        exact ⟨tm1, by rw [hb1]; exact g1, g2, fun _ => sig0_ok g2⟩
      · cases h
    · cases hc
  | block id b ih =>
    intro s s' fc hc fs tm hV hs e fs' h
    simp only [compC] at hc
    split at hc
    · rename_i fb _ h1
      cases hc
      simp only [evalF] at h
      simp only [evalC, Option.bind_eq_bind]
      split at h
      · rename_i i fs1 h2
        obtain ⟨tm1, g1, g2, g3⟩ := ih h1 hV hs h2
        split at h
        · rename_i hi
          cases h
          exact ⟨tm1, by rw [g1]; simp [hi], g2, fun _ => sig0_ok g2⟩
        · rename_i hi
          cases h
          exact ⟨tm1, by rw [g1]; simp [hi], g2, fun _ => sig0_ok g2⟩
      · rename_i hne
        obtain ⟨tm1, g1, g2, g3⟩ := ih h1 hV hs h
        refine ⟨tm1, ?_, g2, fun _ => sig0_ok g2⟩
        rw [g1]
        cases e with
        | normal => rfl
        | exit i => exact absurd h (hne _ _)
        | ret => rfl
    · cases hc
  | loop b ih =>
    intro s s' fc hc fs tm hV hs e fs' h
    simp only [compC] at hc
    split at hc
    · rename_i fb _ h1
      cases hc
      simp only [evalF] at h
      simp only [evalC]
      obtain ⟨tm1, g1, g2⟩ := loopF_ok (f := evalF E c1 k fb) (g := evalC E c2 k b) (fun {fs tm} hV {e fs'} h => by
        obtain ⟨tm1, g1, g2, _⟩ := ih h1 hV (sig0_ok hV) h
        exact ⟨tm1, g1, g2⟩) k hV h
      exact ⟨tm1, g1, g2, fun _ => sig0_ok g2⟩
    · cases hc
  | exit id => intro s s' fc hc fs tm hV hs e fs' h; cases hc; cases h; exact ⟨tm, rfl, hV, fun he => by cases he⟩
  | ret => intro s s' fc hc fs tm hV hs e fs' h; cases hc; cases h; exact ⟨tm, rfl, hV, fun he => by cases he⟩
  | _ => intro s s' fc hc; cases hc
end

/-! ### functions, calls -/
inductive FR where
  | tmp (o : O)
  | cell (o : O) (t : TypeId)
  deriving Inhabited

structure FFn where
  vs : List Nat
  body : FC
  res : List FR
  deriving Inhabited

def nodupB : List Nat → Bool
  | [] => true
  | v :: vs => !(vs.any fun x => Nat.beq x v) && nodupB vs
theorem nodupB_ok : ∀ {l : List Nat}, nodupB l = true → l.Nodup
  | [], _ => List.nodup_nil
  | v :: vs, h => by
    simp only [nodupB, Bool.and_eq_true, Bool.not_eq_true', List.any_eq_false] at h
    refine List.nodup_cons.2 ⟨fun hm => ?_, nodupB_ok h.2⟩
    exact absurd (Nat.beq_refl v) (h.1 v hm)

def compR (s : Sig) : List ResultVar → Option (List FR)
  | [] => some []
  | .tmp t :: rs => match s.at t, compR s rs with
    | some o, some l => some (.tmp o :: l)
    | _, _ => none
  | .cell a t :: rs => match s.at a, compR s rs with
    | some o, some l => some (.cell o t :: l)
    | _, _ => none

def compF (vs : List Nat) (fn : Func) : Option FFn :=
  match fn.body with
  | some body => match compC vs fn.ntmps body (sig0 vs 0), compR (sig0 vs 0) fn.results.toList with
    | some (fc, _), some rs => if nodupB vs && vs.all (fun t => Nat.blt t fn.ntmps) then some ⟨vs, fc, rs⟩ else none
    | _, _ => none
  | none => none

def resF (E : Env) (V : List AV) (H : Heap) : List FR → Option (List AV)
  | [] => some []
  | .tmp o :: rs => match resF E V H rs with
    | some l => some (gO [] V o :: l)
    | none => none
  | .cell o t :: rs => match loadA E H t (gO [] V o), resF E V H rs with
    | some (x, _), some l => some (x :: l)
    | _, _ => none

def nthK {α : Type} : List AV → Nat → (AV → α) → α
  | [], _, c => c .undef
  | x :: _, 0, c => c x
  | _ :: l, j + 1, c => nthK l j c
theorem nthK_eq {α : Type} : ∀ (l : List AV) (j : Nat) (c : AV → α), nthK l j c = c (l.getD j .undef)
  | [], _, _ => rfl
  | _ :: _, 0, _ => rfl
  | x :: l, j + 1, c => by simp only [nthK, nthK_eq l j]; simp

def initK {α : Type} : List Nat → List AV → (List AV → α) → α
  | [], _, c => c []
  | t :: ts, args, c => nthK args t fun v => initK ts args fun l => c (v :: l)
theorem initK_eq {α : Type} : ∀ (ts : List Nat) (args : List AV) (c : List AV → α), initK ts args c = c (ts.map fun t => args.getD t .undef)
  | [], _, _ => rfl
  | t :: ts, args, c => by simp only [initK, nthK_eq, initK_eq ts args, List.map_cons]

def runBodyF (E : Env) (call : CallT) (k : Nat) (ff : FFn) (args : List AV) (H : Heap) : Option (AV × Heap) :=
  initK ff.vs args fun V => match evalF E call k ff.body ⟨[], V, H⟩ with
    | some (.exit _, _) => none
    | some (_, s) => match resF E s.V s.H ff.res with
      | some rs => some (resOf rs, s.H)
      | none => none
    | none => none

def callF (E : Env) (FE : Nat → Option FFn) : Nat → CallT
  | 0, _, _, _ => none
  | k + 1, .func f, args, H => match FE f with
    | some ff => if E.pure f then
        match fzL (fz E H fzDeep) args with
        | some (fargs, ns) => fL fargs fun fargs => match runBodyF E (callF E FE k) k ff fargs [] with
          | some (r, H2) => match fz E H2 fzDeep r with
            | some (r', _) => fV r' fun r' => fS (if flat r' then H else markAll H ns) fun H => some (r', H, ⟨ns, [], false⟩)
            | none => none
          | none => none
        | none => none
      else match runBodyF E (callF E FE k) k ff args H with
        | some (r, H2) => fV r fun r => some (r, H2, ⟨[], [], true⟩)
        | none => none
    | none => callA E (k + 1) (.func f) args H
  | k + 1, .yield l, args, H => callA E (k + 1) (.yield l) args H

section
variable {E : Env} {FE : Nat → Option FFn}

theorem compR_ok {s : Sig} {V tm : List AV} (hs : SigOk s [] V tm) {H : Heap} : ∀ {rs : List ResultVar} {l : List FR}, compR s rs = some l → ∀ {out : List AV}, resF E V H l = some out → rs.mapM (resultA E ⟨tm, H⟩) = some out
  | [], l, hc, out, h => by cases hc; cases h; rfl
  | .tmp t :: rs, l, hc, out, h => by
    simp only [compR] at hc
    split at hc
    · rename_i o l1 h1 h2
      cases hc
      simp only [resF] at h
      split at h
      · rename_i l2 h3
        cases h
        rw [List.mapM_cons, compR_ok hs h2 h3]
        simp [resultA, hs t o h1]
      · cases h
    · cases hc
  | .cell a t :: rs, l, hc, out, h => by
    simp only [compR] at hc
    split at hc
    · rename_i o l1 h1 h2
      cases hc
      simp only [resF] at h
      split at h
      · rename_i x _ l2 h3 h4
        cases h
        rw [hs a o h1] at h3
        have h5 : resultA E ⟨tm, H⟩ (.cell a t) = some x := by simp only [resultA, h3, Option.map_some]
        rw [List.mapM_cons, h5, compR_ok hs h2 h4]; rfl
      · cases h
    · cases hc

theorem runBodyF_ok {c1 c2 : CallT} (hb : Below' c1 c2) {vs : List Nat} {fn : Func} {ff : FFn} (hc : compF vs fn = some ff) {k : Nat} {args : List AV} {H : Heap} {r : AV × Heap} (h : runBodyF E c1 k ff args H = some r) : runBody E c2 k fn args H = some r := by
  unfold compF at hc
  split at hc
  · rename_i body hbd
    split at hc
    · rename_i fc s1 rs h1 h2
      split at hc
      · rename_i hn
        cases hc
        simp only [Bool.and_eq_true, List.all_eq_true] at hn
        have hnd := nodupB_ok hn.1
        have hvN : ∀ t ∈ vs, t < fn.ntmps := fun t ht => Nat.le_of_ble_eq_true (hn.2 t ht)
        unfold runBodyF at h
        rw [initK_eq] at h
        simp only at h
        have hV : VarOk vs fn.ntmps (vs.map fun t => args.getD t .undef) (args ++ List.replicate (fn.ntmps - args.length) .undef) := by
          refine ⟨by simp, by simp; omega, fun j t hj => ?_⟩
          simp only [List.getD_eq_getElem?_getD, List.getElem?_map, hj, Option.map_some, Option.getD_some]
          rcases Nat.lt_or_ge t args.length with hl | hl
          · rw [List.getElem?_append_left hl]
          · rw [List.getElem?_append_right hl, List.getElem?_eq_none hl, List.getElem?_replicate]
            split <;> rfl
        unfold runBody
        simp only [hbd, Option.bind_eq_bind, Option.bind_some]
        cases he : evalF E c1 k fc ⟨[], vs.map fun t => args.getD t .undef, H⟩ with
        | none => rw [he] at h; cases h
        | some q =>
          obtain ⟨e, fs⟩ := q
          obtain ⟨tm', g1, g2, g3⟩ := evalF_ok hb hnd hvN k body h1 hV (sig0_ok hV) he
          simp only [he] at h
          rw [g1]
          cases e with
          | exit i => simp at h
          | normal =>
            simp only at h
            split at h
            · rename_i out hr
              cases h
              simp only [Option.bind_some]
              rw [compR_ok (sig0_ok g2) h2 hr]; rfl
            · cases h
          | ret =>
            simp only at h
            split at h
            · rename_i out hr
              cases h
              simp only [Option.bind_some]
              rw [compR_ok (sig0_ok g2) h2 hr]; rfl
            · cases h
      · cases hc
    · cases hc
  · cases hc

/-- THE FASTER MACHINE IS RIGHT. -/
theorem callF_ok (hFE : ∀ f ff, FE f = some ff → ∃ fn vs, E.fn f = some fn ∧ compF vs fn = some ff) : ∀ k, Below' (callF E FE k) (callA E k)
  | 0 => fun t args H r h => by simp [callF] at h
  | k + 1 => fun t args H r h => by
    have ih := callF_ok hFE k
    cases t with
    | yield l => exact h
    | func f =>
      simp only [callF] at h
      split at h
      · rename_i ff hf
        obtain ⟨fn, vs, h1, h2⟩ := hFE f ff hf
        simp only [callA, h1, Option.bind_eq_bind, Option.bind_some]
        split at h
        · rename_i hp
          rw [if_pos hp]
          split at h
          · rename_i fargs ns hz
            simp only [hz, Option.bind_some, fL_eq] at h ⊢
            split at h
            · rename_i r0 H2 hr
              rw [runBodyF_ok ih h2 hr]
              simp only [Option.bind_some]
              split at h
              · rename_i r' _ hz2
                simp only [fV_eq, fS_eq] at h
                rw [hz2]
                exact h
              · cases h
            · cases h
          · cases h
        · rename_i hp
          rw [if_neg hp]
          split at h
          · rename_i r0 H2 hr
            simp only [fV_eq] at h
            rw [runBodyF_ok ih h2 hr]
            exact h
          · cases h
      · exact h
end
end Go.Px
#print axioms Go.Px.callF_ok
