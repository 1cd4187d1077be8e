/- The faster machine: regions that draw, code, functions, calls. -/
import Derived.Test.YtefondfmngjekaaGreatPyB
set_option linter.unusedVariables false
set_option linter.unusedSimpArgs false
namespace Go.Px
open Go

theorem meets_idle {a b : Acc} (h : a.idle = true ∨ b.idle = true) : a.meets b = false := by
  unfold Acc.meets
  rcases h with h | h
  · have := idle_all h
    rw [this]
    simp only [Bool.false_eq_true, if_false, h, Bool.not_true]
    split
    · rfl
    · simp [Acc.idle] at h
      obtain ⟨⟨_, h1⟩, h2⟩ := h
      simp [hitL, h1, h2]
  · have := idle_all h
    rw [this]
    simp only [Bool.false_eq_true, if_false, h, Bool.not_true]
    split
    · rfl
    · simp [Acc.idle] at h
      obtain ⟨⟨_, h1⟩, h2⟩ := h
      simp [hitL, h1, h2]

structure SpInv (bef : List Nat) (accs : List Acc) (sp : List (Nat × Acc)) : Prop where
  mem : ∀ j, j < accs.length → (accs.getD j Acc.none).idle = true ∨ (j, accs.getD j Acc.none) ∈ sp
  ok : ∀ i, i < accs.length → ∀ j, j < i → (!(accs.getD j Acc.none).meets (accs.getD i Acc.none) || (bef.getD i 0).testBit j) = true

theorem SpInv.nil (bef : List Nat) : SpInv bef [] [] := ⟨fun j h => by simp at h, fun i h => by simp at h⟩

theorem getD_last (accs : List Acc) (acc : Acc) (j : Nat) : (accs ++ [acc]).getD j Acc.none = if j = accs.length then acc else accs.getD j Acc.none := by
  simp only [List.getD_eq_getElem?_getD]
  by_cases h : j = accs.length
  · subst h; simp
  · rw [if_neg h]
    rcases Nat.lt_or_ge j accs.length with hl | hl
    · rw [List.getElem?_append_left hl]
    · rw [List.getElem?_append_right hl, List.getElem?_eq_none (by simp; omega), List.getElem?_eq_none (by omega)]

theorem SpInv.idle {bef : List Nat} {accs : List Acc} {sp : List (Nat × Acc)} (h : SpInv bef accs sp) {acc : Acc} (ha : acc.idle = true) : SpInv bef (accs ++ [acc]) sp := by
  refine ⟨fun j hj => ?_, fun i hi j hj => ?_⟩
  · rw [getD_last]
    split
    · exact .inl ha
    · exact h.mem j (by simp at hj; omega)
  · simp at hi
    rw [getD_last, getD_last]
    by_cases h1 : i = accs.length
    · rw [if_pos h1, meets_idle (.inr ha)]; rfl
    · rw [if_neg h1, if_neg (by omega)]
      exact h.ok i (by omega) j hj

theorem SpInv.more {bef : List Nat} {accs : List Acc} {sp : List (Nat × Acc)} (h : SpInv bef accs sp) {acc : Acc} (ha : spOk bef accs.length acc sp = true) : SpInv bef (accs ++ [acc]) ((accs.length, acc) :: sp) := by
  refine ⟨fun j hj => ?_, fun i hi j hj => ?_⟩
  · rw [getD_last]
    split
    · rename_i e; subst e; exact .inr (List.mem_cons_self ..)
    · exact (h.mem j (by simp at hj; omega)).imp_right (List.mem_cons_of_mem _)
  · simp at hi
    rw [getD_last, getD_last]
    by_cases h1 : i = accs.length
    · subst h1
      rw [if_pos rfl, if_neg (by omega)]
      rcases h.mem j hj with hm | hm
      · rw [meets_idle (.inl hm)]; rfl
      · exact List.all_eq_true.1 ha _ hm
    · rw [if_neg h1, if_neg (by omega)]
      exact h.ok i (by omega) j hj

theorem SpInv.apart {bef : List Nat} {accs : List Acc} {sp : List (Nat × Acc)} (h : SpInv bef accs sp) : apartA bef accs = true := by
  unfold apartA
  rw [List.all_eq_true]
  intro i hi
  rw [List.all_eq_true]
  intro j hj
  exact h.ok i (List.mem_range.1 hi) j (List.mem_range.1 hj)

/-! ### loops over functions -/
structure LFn where
  n : Nat
  vs : List Nat
  ps : List (Option Nat)
  asg : FC
  body : FC
  deriving Inhabited

abbrev Rng := Nat × List Nat × Code × Code
def rngs : FC → List Rng
  | .seq a b => rngs a ++ rngs b
  | .cond _ a b => rngs a ++ rngs b
  | .block _ b => rngs b
  | .loop b => rngs b
  | .range _ id _ _ ps asg body => [(id, ps, asg, body)]
  | _ => []

def lvOf (LE : Nat → Option LFn) (id : Nat) : List Nat := match LE id with
  | some lf => lf.vs
  | none => []

/-- The table's entry is the loop's code. -/
def LEntry (LE : Nat → Option LFn) (N : Nat) (r : Rng) : Prop :=
  ∃ lf, LE r.1 = some lf ∧ lf.n = N ∧ lf.vs.Nodup ∧ (∀ t ∈ lf.vs, t < N) ∧ lf.ps = r.2.1.map (fun p => idxIn p lf.vs 0) ∧
    (∃ s m m', compC (lvOf LE) lf.vs N r.2.2.1 (sig0 lf.vs 0) m = some (lf.asg, s, m')) ∧ (∃ s m m', compC (lvOf LE) lf.vs N r.2.2.2 (sig0 lf.vs 0) m = some (lf.body, s, m'))

def TabOk (LE : Nat → Option LFn) : Prop := ∀ id lf, LE id = some lf → (∀ r ∈ rngs lf.asg, LEntry LE lf.n r) ∧ ∀ r ∈ rngs lf.body, LEntry LE lf.n r

/-- Whoever is called may call the loops' rounds. -/
def YOk (LE : Nat → Option LFn) (Y : YE) (H : Heap) : Prop := ∀ l d, Y.at l = some d → l < H.length ∧ ∀ s p tm ps asg body, H[l]? = some (.loop s p tm ps asg body) →
  LEntry LE (lvN LE d.id) (d.id, ps, asg, body) ∧ VarOk (lvOf LE d.id) (lvN LE d.id) d.V tm
where lvN (LE : Nat → Option LFn) (id : Nat) : Nat := match LE id with
  | some lf => lf.n
  | none => 0

theorem yok_stable (LE : Nat → Option LFn) (Y : YE) : Stable (YOk LE Y) := fun H H' hk h l d hd => by
  obtain ⟨h1, h2⟩ := h l d hd
  refine ⟨Nat.lt_of_lt_of_le h1 hk.1, fun s p tm ps asg body e => ?_⟩
  obtain ⟨s0, p0, e0⟩ := hk.2 l s p tm ps asg body h1 e
  exact h2 s0 p0 tm ps asg body e0

theorem KeepL.turn {H : Heap} {l : Nat} {s s' : LoopState} {p p' : Option Code} {tm : List AV} {ps : List Nat} {asg body : Code} (h : H[l]? = some (.loop s p tm ps asg body)) : KeepL H (H.set l (.loop s' p' tm ps asg body)) := ⟨by simp, fun k s1 p1 tm1 ps1 a1 b1 hl e => by
  by_cases hk : l = k
  · subst hk
    rw [List.getElem?_set_self hl] at e
    cases e
    exact ⟨s, p, h⟩
  · rw [List.getElem?_set_ne hk] at e; exact ⟨s1, p1, e⟩⟩

section
variable {E : Env} {c1 c2 : CallT} {vs : List Nat} {N : Nat}

theorem runFOsD_ok {I : Heap → Prop} (hI : Stable I) (hE : PrimNL E) (hb : Below' I c1 c2) (hnd : vs.Nodup) (hvN : ∀ t ∈ vs, t < N) {ops : List Oper} {n0 : Nat} {bef : List Nat} : ∀ {rest : List Oper} {i : Nat} {s s' : Sig} {fos : List FO}, ops.drop i = rest → compOps vs N ops i rest s = some (fos, s') →
    ∀ {L V tm : List AV} {H : Heap} {accs : List Acc} {sp : List (Nat × Acc)}, VarOk vs N V tm → SigOk s L V tm → SpInv bef accs sp → accs.length = i → I H → ∀ {fs : FS}, runFOsD E c1 n0 bef fos ⟨L, V, H⟩ sp = some fs →
    ∃ tm' accs', runDraw E c2 ops n0 rest i ⟨tm, H⟩ accs = some (⟨tm', fs.H⟩, accs') ∧ SigOk s' fs.L fs.V tm' ∧ VarOk vs N fs.V tm' ∧ apartA bef accs' = true ∧ I fs.H
  | [], i, s, s', fos, hdr, hc, L, V, tm, H, accs, sp, hV, hs, hsp, hi, hH, fs, h => by
    cases hc
    cases h
    exact ⟨tm, accs, rfl, hs, hV, hsp.apart, hH⟩
  | o :: rest, i, s, s', fos, hdr, hc, L, V, tm, H, accs, sp, hV, hs, hsp, hi, hH, fs, h => by
    have ho : ops[i]? = some o := by
      have := congrArg (fun l => l[0]?) hdr
      simpa using this
    have hdr' : ops.drop (i + 1) = rest := by rw [← List.drop_drop, hdr]; rfl
    simp only [compOps] at hc
    split at hc
    · rename_i s1 ha
      obtain ⟨tm1, g1, g2, g3⟩ := compAlias_ok ha hV hs E c2 ops (slotA n0 ops i) H
      obtain ⟨tm2, accs2, k1, k2⟩ := runFOsD_ok hI hE hb hnd hvN hdr' hc g3 g2 (hsp.idle (acc := Acc.none) rfl) (by simp [hi]) hH h
      refine ⟨tm2, accs2, ?_, k2⟩
      simp only [runDraw, Option.bind_eq_bind, g1, Option.bind_some]
      exact k1
    · split at hc
      · rename_i g fa d s1 q1 q2 q3
        split at hc
        · rename_i fos1 s2 q4
          cases hc
          simp only [runFOsD] at h
          have hslot : FO.slot ⟨fa, d, g, lightOp o.op, i, if mayLay o.op then some (rankA ops i) else none⟩ n0 = slotA n0 ops i := by
            unfold FO.slot slotA
            rw [ho]
            by_cases hm : mayLay o.op = true <;> simp [hm]
          rw [hslot] at h
          split at h
          · rename_i fs1 acc hr
            obtain ⟨tm1, g1, g2, g3, g4⟩ := runFO_ok hI hE hb hnd hvN q1 q2 q3 hV hs hH hr
            have fin : ∀ {sp'}, SpInv bef (accs ++ [acc]) sp' → runFOsD E c1 n0 bef fos1 fs1 sp' = some fs → ∃ tm' accs', runDraw E c2 ops n0 (o :: rest) i ⟨tm, H⟩ accs = some (⟨tm', fs.H⟩, accs') ∧ SigOk s' fs.L fs.V tm' ∧ VarOk vs N fs.V tm' ∧ apartA bef accs' = true ∧ I fs.H := fun hsp' hq => by
              obtain ⟨tm2, accs2, k1, k2⟩ := runFOsD_ok hI hE hb hnd hvN hdr' q4 g3 g2 hsp' (by simp [hi]) g4 hq
              refine ⟨tm2, accs2, ?_, k2⟩
              simp only [runDraw, Option.bind_eq_bind, g1, Option.bind_some]
              exact k1
            split at h
            · rename_i hid
              exact fin (hsp.idle hid) h
            · split at h
              · rename_i hso
                exact fin (by subst hi; exact hsp.more hso) h
              · cases h
          · cases h
        · cases hc
      · cases hc

theorem loopF_ok {I : Heap → Prop} {f : FS → Option (AExit × FS)} {g : St → Option (AExit × St)} (hfg : ∀ {fs : FS} {tm : List AV}, VarOk vs N fs.V tm → I fs.H → ∀ {e fs'}, f fs = some (e, fs') → ∃ tm', g ⟨tm, fs.H⟩ = some (e, ⟨tm', fs'.H⟩) ∧ VarOk vs N fs'.V tm' ∧ I fs'.H) :
    ∀ (n : Nat) {fs : FS} {tm : List AV}, VarOk vs N fs.V tm → I fs.H → ∀ {e fs'}, loopF f n fs = some (e, fs') → ∃ tm', loopN g n ⟨tm, fs.H⟩ = some (e, ⟨tm', fs'.H⟩) ∧ VarOk vs N fs'.V tm' ∧ I fs'.H
  | 0, fs, tm, hV, hH, e, fs', h => by cases h
  | n + 1, fs, tm, hV, hH, e, fs', h => by
    simp only [loopF] at h
    simp only [loopN, Option.bind_eq_bind]
    split at h
    · rename_i fs1 h1
      obtain ⟨tm1, g1, g2, g3⟩ := hfg hV hH h1
      obtain ⟨tm2, k1, k2⟩ := loopF_ok hfg n g2 g3 h
      exact ⟨tm2, by rw [g1]; exact k1, k2⟩
    · rename_i hne
      obtain ⟨tm1, g1, g2⟩ := hfg hV hH h
      refine ⟨tm1, ?_, g2⟩
      rw [g1]
      cases e with
      | normal => exact absurd h (hne _)
      | exit i => rfl
      | ret => rfl

theorem capM_ok {s : Sig} {live : List Nat} {L V tm : List AV} (hs : SigOk s L V tm) : ∀ {ts : List Nat} {l : List (Option O)}, capM s live ts = some l → l.map (gM L V) = ts.map fun t => if memN live t then tm.getD t .undef else .undef
  | [], l, h => by cases h; rfl
  | t :: ts, l, h => by
    simp only [capM] at h
    split at h
    · rename_i l1 h1
      split at h
      · rename_i hm
        split at h
        · rename_i o ho
          cases h
          simp [gM, hs t o ho, capM_ok hs h1, hm]
        · cases h
      · rename_i hm
        cases h
        simp [gM, capM_ok hs h1, hm]
    · cases h

theorem mkM_ok {s : Sig} {live : List Nat} {L V tm : List AV} (hs : SigOk s L V tm) : ∀ (xs : List AV) (i : Nat) {l : List (Option O)}, xs = tm.drop i → mkM s live i xs.length = some l → l.map (gM L V) = maskT live i xs
  | [], i, l, hx, h => by cases h; rfl
  | x :: xs, i, l, hx, h => by
    have hx1 : tm.getD i .undef = x := by
      have : (tm.drop i)[0]? = some x := by rw [← hx]; rfl
      rw [List.getElem?_drop, Nat.add_zero] at this
      simp [List.getD_eq_getElem?_getD, this]
    have hx2 : xs = tm.drop (i + 1) := by
      have h2 : tm.drop (i + 1) = (tm.drop i).drop 1 := by rw [List.drop_drop]
      rw [h2, ← hx]; rfl
    simp only [List.length_cons, mkM] at h
    split at h
    · rename_i l1 h1
      split at h
      · rename_i hm
        split at h
        · rename_i o ho
          cases h
          simp only [List.map_cons, maskT, mkM_ok hs xs (i + 1) hx2 h1, hm, if_true, gM, hs i o ho, hx1]
        · cases h
      · rename_i hm
        cases h
        simp only [List.map_cons, maskT, mkM_ok hs xs (i + 1) hx2 h1, gM, if_neg hm]
    · cases h

theorem maskT_getD (live : List Nat) : ∀ (xs : List AV) (i j : Nat), (maskT live i xs).getD j .undef = if memN live (i + j) then xs.getD j .undef else .undef
  | [], i, j => by simp [maskT]
  | x :: xs, i, 0 => by simp [maskT]
  | x :: xs, i, j + 1 => by
    have := maskT_getD live xs (i + 1) j
    rw [show i + 1 + j = i + (j + 1) by omega] at this
    simpa [maskT] using this
theorem maskT_length (live : List Nat) : ∀ (xs : List AV) (i : Nat), (maskT live i xs).length = xs.length
  | [], i => rfl
  | x :: xs, i => by simp [maskT, maskT_length live xs]

/-- CODE. -/
theorem evalF_ok {LE : Nat → Option LFn} {cy : CallY} (hE : PrimNL E) (hb : ∀ Y, Below' (YOk LE Y) (cy Y) c2) (hnd : vs.Nodup) (hvN : ∀ t ∈ vs, t < N) (Y : YE) (k : Nat) : ∀ (c : Code) {s s' : Sig} {m m' : Nat} {fc : FC}, compC (lvOf LE) vs N c s m = some (fc, s', m') → (∀ r ∈ rngs fc, LEntry LE N r) → ∀ {fs : FS} {tm : List AV}, VarOk vs N fs.V tm → SigOk s fs.L fs.V tm → YOk LE Y fs.H →
    ∀ {e : AExit} {fs' : FS}, evalF E cy Y k fc fs = some (e, fs') → ∃ tm', evalC E c2 k c ⟨tm, fs.H⟩ = some (e, ⟨tm', fs'.H⟩) ∧ VarOk vs N fs'.V tm' ∧ (e = .normal → SigOk s' fs'.L fs'.V tm') ∧ YOk LE Y fs'.H := by
  intro c
  have hI := yok_stable LE Y
  induction c with
  | skip => intro s s' m m' fc hc hr fs tm hV hs hH e fs' h; cases hc; cases h; exact ⟨tm, rfl, hV, fun _ => hs, hH⟩
  | label x => intro s s' m m' fc hc hr fs tm hV hs hH e fs' h; cases hc; cases h; exact ⟨tm, rfl, hV, fun _ => hs, hH⟩
  | region id ops draw =>
    intro s s' m m' fc hc hr fs tm hV hs hH e fs' h
    simp only [compC] at hc
    split at hc
    · rename_i fos s1 h1
      cases draw with
      | false =>
        simp only [Bool.false_eq_true, if_false] at hc
        cases hc
        simp only [evalF] at h
        split at h
        · rename_i fs1 h2
          cases h
          obtain ⟨tm1, g1, g2, g3, g4⟩ := runFOs_ok hI hE (hb Y) hnd hvN h1 hV (sig0_ok (L := []) hV) hH h2
          refine ⟨tm1, ?_, g3, fun _ => g2, g4⟩
          simp only [evalC, runRegion, Bool.not_false, if_true]
          rw [g1]; rfl
        · cases h
      | true =>
        simp only [if_true] at hc
        split at hc
        · rename_i hok
          cases hc
          simp only [evalF, fS_eq] at h
          split at h
          · rename_i fs1 h2
            cases h
            obtain ⟨tm1, accs, g1, g2, g3, g4, g5⟩ := runFOsD_ok (rest := ops.toList) hI hE (hb Y) hnd hvN rfl h1 hV (sig0_ok (L := []) hV) (SpInv.nil _) rfl (hI _ _ (.append _ _) hH) h2
            refine ⟨tm1, ?_, g3, fun _ => g2, g5⟩
            simp only [evalC, runRegion, Bool.not_true, Bool.false_eq_true, if_false, Option.bind_eq_bind]
            rw [g1]
            simp [hok, g4]
          · cases h
        · cases hc
    · cases hc
  | seq a b iha ihb =>
    intro s s' m m' fc hc hr fs tm hV hs hH e fs' h
    simp only [compC] at hc
    split at hc
    · rename_i fa s1 m1 h1
      split at hc
      · rename_i fb s2 m2 h2
        cases hc
        simp only [rngs, List.mem_append] at hr
        simp only [evalF] at h
        simp only [evalC, Option.bind_eq_bind]
        split at h
        · rename_i fs1 h3
          obtain ⟨tm1, g1, g2, g3, g4⟩ := iha h1 (fun r h => hr r (.inl h)) hV hs hH h3
          obtain ⟨tm2, k1, k2, k3, k4⟩ := ihb h2 (fun r h => hr r (.inr h)) g2 (g3 rfl) g4 h
          exact ⟨tm2, by rw [g1]; exact k1, k2, k3, k4⟩
        · rename_i hne
          obtain ⟨tm1, g1, g2, g3, g4⟩ := iha h1 (fun r h => hr r (.inl h)) hV hs hH h
          refine ⟨tm1, ?_, g2, fun he => ?_, g4⟩
          · rw [g1]
            cases e with
            | normal => exact absurd h (hne _)
            | exit i => rfl
            | ret => rfl
          · subst he; exact absurd h (hne _)
      · cases hc
    · cases hc
  | cond c a b iha ihb =>
    intro s s' m m' fc hc hr fs tm hV hs hH e fs' h
    simp only [compC] at hc
    split at hc
    · rename_i o fa _ m1 h1 h2
      split at hc
      · rename_i fb _ m2 h3
        cases hc
        simp only [rngs, List.mem_append] at hr
        simp only [evalF] at h
        simp only [evalC]
        have e1 := toO_ok hs h1
        split at h
        · rename_i hb1
          rw [e1] at hb1
          obtain ⟨tm1, g1, g2, g3, g4⟩ := iha h2 (fun r h => hr r (.inl h)) hV hs hH h
          exact ⟨tm1, by rw [hb1]; exact g1, g2, fun _ => sig0_ok g2, g4⟩
        · rename_i hb1
          rw [e1] at hb1
          obtain ⟨tm1, g1, g2, g3, g4⟩ := ihb h3 (fun r h => hr r (.inr h)) hV hs hH h
          exact ⟨tm1, by rw [hb1]; exact g1, g2, fun _ => sig0_ok g2, g4⟩
        · cases h
      · cases hc
    · cases hc
  | block id b ih =>
    intro s s' m m' fc hc hr fs tm hV hs hH e fs' h
    simp only [compC] at hc
    split at hc
    · rename_i fb _ m1 h1
      cases hc
      simp only [evalF] at h
      simp only [evalC, Option.bind_eq_bind]
      split at h
      · rename_i i fs1 h2
        obtain ⟨tm1, g1, g2, g3, g4⟩ := ih h1 hr hV hs hH h2
        split at h
        · rename_i hi
          cases h
          exact ⟨tm1, by rw [g1]; simp [hi], g2, fun _ => sig0_ok g2, g4⟩
        · rename_i hi
          cases h
          exact ⟨tm1, by rw [g1]; simp [hi], g2, fun _ => sig0_ok g2, g4⟩
      · rename_i hne
        obtain ⟨tm1, g1, g2, g3, g4⟩ := ih h1 hr hV hs hH h
        refine ⟨tm1, ?_, g2, fun _ => sig0_ok g2, g4⟩
        rw [g1]
        cases e with
        | normal => rfl
        | exit i => exact absurd h (hne _ _)
        | ret => rfl
    · cases hc
  | loop b ih =>
    intro s s' m m' fc hc hr fs tm hV hs hH e fs' h
    simp only [compC] at hc
    split at hc
    · rename_i fb _ m1 h1
      cases hc
      simp only [evalF] at h
      simp only [evalC]
      obtain ⟨tm1, g1, g2, g3⟩ := loopF_ok (I := YOk LE Y) (f := evalF E cy Y k fb) (g := evalC E c2 k b) (fun {fs tm} hV hH {e fs'} h => by
        obtain ⟨tm1, g1, g2, _, g4⟩ := ih h1 hr hV (sig0_ok hV) hH h
        exact ⟨tm1, g1, g2, g4⟩) k hV hH h
      exact ⟨tm1, g1, g2, fun _ => sig0_ok g2, g3⟩
    · cases hc
  | exit id => intro s s' m m' fc hc hr fs tm hV hs hH e fs' h; cases hc; cases h; exact ⟨tm, rfl, hV, (fun he => by cases he), hH⟩
  | ret => intro s s' m m' fc hc hr fs tm hV hs hH e fs' h; cases hc; cases h; exact ⟨tm, rfl, hV, (fun he => by cases he), hH⟩
  | rangeFunc f ps asg body _ _ =>
    intro s s' m m' fc hc hr fs tm hV hs hH e fs' h
    simp only [compC] at hc
    split at hc
    · rename_i o caps mk h1 h2 h3
      cases hc
      have hent := hr _ (List.mem_singleton.2 rfl)
      simp only [evalF] at h
      simp only [evalC]
      have e1 := toO_ok hs h1
      have e2 := capM_ok hs h2
      have e3 := mkM_ok (live := liveC ps.toList asg body) hs tm 0 rfl (by rw [hV.big]; exact h3)
      split at h
      · rename_i g cs hg
        rw [e1] at hg
        rw [hg]
        simp only [Option.bind_eq_bind]
        rw [e2, e3] at h
        split at h
        · rename_i r1 H1 acc1 hcall
          have hY : YOk LE (⟨fs.H.length, m, (lvOf LE m).map fun t => if memN (liveC ps.toList asg body) t then tm.getD t .undef else .undef⟩ :: Y) (fs.H ++ [.loop .ready none (maskT (liveC ps.toList asg body) 0 tm) ps.toList asg body]) := by
            intro l d hd
            unfold YE.at at hd
            rw [List.find?_cons] at hd
            split at hd
            · rename_i hbq
              cases hd
              have := Nat.eq_of_beq_eq_true hbq
              simp only at this
              subst this
              refine ⟨by simp, fun s p tm1 ps1 asg1 body1 e => ?_⟩
              simp at e
              obtain ⟨rfl, rfl, rfl, rfl, rfl, rfl⟩ := e
              obtain ⟨lf, q1, q2, q3⟩ := hent
              have hN : YOk.lvN LE m = N := by simp only [YOk.lvN]; rw [q1]; exact q2
              simp only at q1 ⊢
              rw [hN]
              refine ⟨⟨lf, q1, q2, q3⟩, ⟨by simp, by rw [maskT_length]; exact hV.big, fun j t hj => ?_⟩⟩
              rw [maskT_getD, Nat.zero_add]
              simp only [List.getD_eq_getElem?_getD, List.getElem?_map, hj, Option.map_some, Option.getD_some]
            · exact hI _ _ (.append _ _) hH l d hd
          obtain ⟨b1, b2⟩ := hb _ _ _ _ _ hY hcall
          rw [b1]
          simp only [Option.bind_some]
          simp only at b2
          have hb2 : YOk LE Y H1 := by
            -- what is behind the call is behind it for those ahead, too
            intro l d hd
            have hl := (hH l d hd).1
            refine b2 l d ?_
            unfold YE.at at hd ⊢
            rw [List.find?_cons]
            have : Nat.beq fs.H.length l = false := by
              cases hq : Nat.beq fs.H.length l with
              | false => rfl
              | true => have := Nat.eq_of_beq_eq_true hq; omega
            simp only [this]
            exact hd
          unfold endF at h
          split at h
          · rename_i st pend tm1 ps1 a1 b1' hl
            have hk := fun (st' : LoopState) => KeepL.turn (s' := st') (p' := pend) hl
            split at h
            · cases h
            · rename_i hbusy
              simp only [hl, hbusy, if_false, Bool.false_eq_true]
              split at h
              · cases h; exact ⟨tm, rfl, hV, fun _ => hs, hI _ _ (hk _) hb2⟩
              · cases h; exact ⟨tm, rfl, hV, (fun he => by cases he), hI _ _ (hk _) hb2⟩
              · cases h; exact ⟨tm, rfl, hV, (fun he => by cases he), hI _ _ (hk _) hb2⟩
              · cases h
          · cases h
        · cases h
      · cases h
    · cases hc
  | _ => intro s s' m m' fc hc; cases hc
end

/-! ### functions, calls -/
inductive FR where
  | tmp (o : O)
  | cell (o : O) (t : TypeId)
  deriving Inhabited

structure FFn where
  n : Nat
  vs : List Nat
  body : FC
  res : List FR
  deriving Inhabited

def nodupB : List Nat → Bool
  | [] => true
  | v :: vs => !(vs.any fun x => Nat.beq x v) && nodupB vs
theorem nodupB_ok : ∀ {l : List Nat}, nodupB l = true → l.Nodup
  | [], _ => List.nodup_nil
  | v :: vs, h => by
    simp only [nodupB, Bool.and_eq_true, Bool.not_eq_true', List.any_eq_false] at h
    refine List.nodup_cons.2 ⟨fun hm => ?_, nodupB_ok h.2⟩
    exact absurd (Nat.beq_refl v) (h.1 v hm)

def compR (s : Sig) : List ResultVar → Option (List FR)
  | [] => some []
  | .tmp t :: rs => match s.at t, compR s rs with
    | some o, some l => some (.tmp o :: l)
    | _, _ => none
  | .cell a t :: rs => match s.at a, compR s rs with
    | some o, some l => some (.cell o t :: l)
    | _, _ => none

def compF (LV : Nat → List Nat) (m : Nat) (vs : List Nat) (fn : Func) : Option FFn :=
  match fn.body with
  | some body => match compC LV vs fn.ntmps body (sig0 vs 0) m, compR (sig0 vs 0) fn.results.toList with
    | some (fc, _, _), some rs => if nodupB vs && vs.all (fun t => Nat.blt t fn.ntmps) then some ⟨fn.ntmps, vs, fc, rs⟩ else none
    | _, _ => none
  | none => none

def resF (E : Env) (V : List AV) (H : Heap) : List FR → Option (List AV)
  | [] => some []
  | .tmp o :: rs => match resF E V H rs with
    | some l => some (gO [] V o :: l)
    | none => none
  | .cell o t :: rs => match loadA E H t (gO [] V o), resF E V H rs with
    | some (x, _), some l => some (x :: l)
    | _, _ => none

def nthK {α : Type} : List AV → Nat → (AV → α) → α
  | [], _, c => c .undef
  | x :: _, 0, c => c x
  | _ :: l, j + 1, c => nthK l j c
theorem nthK_eq {α : Type} : ∀ (l : List AV) (j : Nat) (c : AV → α), nthK l j c = c (l.getD j .undef)
  | [], _, _ => rfl
  | _ :: _, 0, _ => rfl
  | x :: l, j + 1, c => by simp only [nthK, nthK_eq l j]; simp

def initK {α : Type} : List Nat → List AV → (List AV → α) → α
  | [], _, c => c []
  | t :: ts, args, c => nthK args t fun v => initK ts args fun l => c (v :: l)
theorem initK_eq {α : Type} : ∀ (ts : List Nat) (args : List AV) (c : List AV → α), initK ts args c = c (ts.map fun t => args.getD t .undef)
  | [], _, _ => rfl
  | t :: ts, args, c => by simp only [initK, nthK_eq, initK_eq ts args, List.map_cons]

noncomputable def runBodyF (E : Env) (cy : CallY) (Y : YE) (k : Nat) (ff : FFn) (args : List AV) (H : Heap) : Option (AV × Heap) :=
  if args.length ≤ ff.n then
    initK ff.vs args fun V => match evalF E cy Y k ff.body ⟨[], V, H⟩ with
      | some (.exit _, _) => none
      | some (_, s) => match resF E s.V s.H ff.res with
        | some rs => some (resOf rs, s.H)
        | none => none
      | none => none
  else none

def setV (V : List AV) : List (Option Nat) → List AV → List AV
  | some j :: ps, v :: vs => setV (V.set j v) ps vs
  | none :: ps, _ :: vs => setV V ps vs
  | _, _ => V

/-- A round of a loop over a function. -/
noncomputable def roundF (E : Env) (cy : CallY) (Y : YE) (k : Nat) (l : Nat) (lf : LFn) (V : List AV) (args : List AV) (H : Heap) : Option (AV × Heap × Acc) :=
  match H[l]? with
  | some (.loop .ready _ _ _ _ _) =>
    if args.length ≠ lf.ps.length then none else
    match evalF E cy Y k lf.asg ⟨[], setV V lf.ps args, H⟩ with
    | some (.normal, s1) => match s1.H[l]? with
      | some (.loop .ready pend tm ps a b) => match evalF E cy Y k lf.body ⟨[], s1.V, s1.H.set l (.loop .busy pend tm ps a b)⟩ with
        | some (e2, s2) => match s2.H[l]? with
          | some (.loop _ _ tm ps a b) => some (.bool (jumpOf e2).isNone, s2.H.set l (.loop (if (jumpOf e2).isNone then .ready else .done) (jumpOf e2) tm ps a b), ⟨[], [], true⟩)
          | _ => none
        | none => none
      | _ => none
    | _ => none
  | _ => none

noncomputable def callF (E : Env) (FE : Nat → Option FFn) (LE : Nat → Option LFn) : Nat → CallY
  | 0, _, _, _, _ => none
  | k + 1, Y, .func f, args, H => match FE f with
    | some ff => if E.pure f then
        match fzL (fz E H fzDeep) args with
        | some (fargs, ns) => match runBodyF E (callF E FE LE k) [] k ff fargs [] with
          | some (r, H2) => match fz E H2 fzDeep r with
            | some (r', _) => some (r', if flat r' then H else markAll H ns, ⟨ns, [], false⟩)
            | none => none
          | none => none
        | none => none
      else match runBodyF E (callF E FE LE k) Y k ff args H with
        | some (r, H2) => some (r, H2, ⟨[], [], true⟩)
        | none => none
    | none => none
  | k + 1, Y, .yield l, args, H => match YE.at Y l with
    | some d => match LE d.id with
      | some lf => roundF E (callF E FE LE k) Y k l lf d.V args H
      | none => none
    | none => none

section
variable {E : Env} {FE : Nat → Option FFn}

theorem compR_ok {s : Sig} {V tm : List AV} (hs : SigOk s [] V tm) {H : Heap} : ∀ {rs : List ResultVar} {l : List FR}, compR s rs = some l → ∀ {out : List AV}, resF E V H l = some out → rs.mapM (resultA E ⟨tm, H⟩) = some out
  | [], l, hc, out, h => by cases hc; cases h; rfl
  | .tmp t :: rs, l, hc, out, h => by
    simp only [compR] at hc
    split at hc
    · rename_i o l1 h1 h2
      cases hc
      simp only [resF] at h
      split at h
      · rename_i l2 h3
        cases h
        rw [List.mapM_cons, compR_ok hs h2 h3]
        simp [resultA, hs t o h1]
      · cases h
    · cases hc
  | .cell a t :: rs, l, hc, out, h => by
    simp only [compR] at hc
    split at hc
    · rename_i o l1 h1 h2
      cases hc
      simp only [resF] at h
      split at h
      · rename_i x _ l2 h3 h4
        cases h
        rw [hs a o h1] at h3
        have h5 : resultA E ⟨tm, H⟩ (.cell a t) = some x := by simp only [resultA, h3, Option.map_some]
        rw [List.mapM_cons, h5, compR_ok hs h2 h4]; rfl
      · cases h
    · cases hc

/-- The table of functions. -/
def FEOk (E : Env) (FE : Nat → Option FFn) (LE : Nat → Option LFn) : Prop :=
  ∀ f ff, FE f = some ff → ∃ fn m vs, E.fn f = some fn ∧ compF (lvOf LE) m vs fn = some ff ∧ ∀ r ∈ rngs ff.body, LEntry LE fn.ntmps r

theorem runBodyF_ok {LE : Nat → Option LFn} {cy : CallY} {c2 : CallT} (hE : PrimNL E) (hb : ∀ Y, Below' (YOk LE Y) (cy Y) c2) {m : Nat} {vs : List Nat} {fn : Func} {ff : FFn} (hc : compF (lvOf LE) m vs fn = some ff) (hr : ∀ r ∈ rngs ff.body, LEntry LE fn.ntmps r) {Y : YE} {k : Nat} {args : List AV} {H : Heap} (hH : YOk LE Y H) {r : AV × Heap}
    (h : runBodyF E cy Y k ff args H = some r) : runBody E c2 k fn args H = some r ∧ YOk LE Y r.2 := by
  unfold compF at hc
  split at hc
  · rename_i body hbd
    split at hc
    · rename_i fc s1 m1 rs h1 h2
      split at hc
      · rename_i hn
        cases hc
        simp only [Bool.and_eq_true, List.all_eq_true] at hn
        have hnd := nodupB_ok hn.1
        have hvN : ∀ t ∈ vs, t < fn.ntmps := fun t ht => Nat.le_of_ble_eq_true (hn.2 t ht)
        unfold runBodyF at h
        split at h
        · rename_i hlen
          simp only at hlen
          rw [initK_eq] at h
          simp only at h
          have hV : VarOk vs fn.ntmps (vs.map fun t => args.getD t .undef) (args ++ List.replicate (fn.ntmps - args.length) .undef) := by
            refine ⟨by simp, by simp; omega, fun j t hj => ?_⟩
            simp only [List.getD_eq_getElem?_getD, List.getElem?_map, hj, Option.map_some, Option.getD_some]
            rcases Nat.lt_or_ge t args.length with hl | hl
            · rw [List.getElem?_append_left hl]
            · rw [List.getElem?_append_right hl, List.getElem?_eq_none hl, List.getElem?_replicate]
              split <;> rfl
          unfold runBody
          simp only [hbd, Option.bind_eq_bind, Option.bind_some]
          cases he : evalF E cy Y k fc ⟨[], vs.map fun t => args.getD t .undef, H⟩ with
          | none => rw [he] at h; cases h
          | some q =>
            obtain ⟨e, fs⟩ := q
            obtain ⟨tm', g1, g2, g3, g4⟩ := evalF_ok hE hb hnd hvN Y k body h1 hr hV (sig0_ok hV) hH he
            simp only [he] at h
            rw [g1]
            cases e with
            | exit i => simp at h
            | normal =>
              simp only at h
              split at h
              · rename_i out hr
                cases h
                simp only [Option.bind_some]
                exact ⟨by rw [compR_ok (sig0_ok g2) h2 hr]; rfl, g4⟩
              · cases h
            | ret =>
              simp only at h
              split at h
              · rename_i out hr
                cases h
                simp only [Option.bind_some]
                exact ⟨by rw [compR_ok (sig0_ok g2) h2 hr]; rfl, g4⟩
              · cases h
        · cases h
      · cases hc
    · cases hc
  · cases hc

theorem setV_ok {vs : List Nat} (hnd : vs.Nodup) {N : Nat} (hvN : ∀ t ∈ vs, t < N) : ∀ {ps : List Nat} {args V tm : List AV}, VarOk vs N V tm → VarOk vs N (setV V (ps.map fun p => idxIn p vs 0) args) (setAll tm ps args)
  | [], args, V, tm, h => by cases args <;> exact h
  | p :: ps, [], V, tm, h => by
    simp only [List.map_cons, setAll]
    cases idxIn p vs 0 <;> exact h
  | p :: ps, v :: args, V, tm, h => by
    simp only [List.map_cons, setAll]
    have hd : ∀ {d : FD} {s' : Sig}, compD vs N [] (some p) = some (d, s') → VarOk vs N (putFV d v V) (tm.set p v) := fun hc => (compD_ok hnd hc h (fun t o ho => by simp [Sig.at] at ho) hvN v (L := [])).2
    cases hi : idxIn p vs 0 with
    | none =>
      simp only [setV]
      refine setV_ok hnd hvN ?_
      have hp := idxIn_none hi
      refine ⟨h.len, by simp [h.big], fun j t hj => ?_⟩
      rw [h.at' j t hj]
      have hne : p ≠ t := fun e => hp (by subst e; exact List.mem_of_getElem? hj)
      simp [List.getD_eq_getElem?_getD, List.getElem?_set_ne hne]
    | some j =>
      simp only [setV]
      exact setV_ok hnd hvN (hd (d := .var j) (by simp only [compD, hi]; rfl))

theorem markAll_keep (H : Heap) (ns : List Nat) : KeepL H (markAll H ns) := by
  refine ⟨by rw [markAll_mapIdx]; simp, fun l s p tm ps a b hl e => ?_⟩
  rw [markAll_mapIdx, List.getElem?_mapIdx] at e
  cases hh : H[l]? with
  | none => simp [hh] at e
  | some o =>
    simp only [hh, Option.map_some, Option.some.injEq] at e
    split at e
    · cases o <;> simp [mkO] at e
      obtain ⟨rfl, rfl, rfl, rfl, rfl, rfl⟩ := e
      exact ⟨_, _, rfl⟩
    · subst e; exact ⟨_, _, rfl⟩

/-- THE FASTER MACHINE IS RIGHT. -/
theorem callF_ok {LE : Nat → Option LFn} (hE : PrimNL E) (hFE : FEOk E FE LE) (hLE : TabOk LE) : ∀ k Y, Below' (YOk LE Y) (callF E FE LE k Y) (callA E k)
  | 0, Y => fun t args H r hH h => by simp [callF] at h
  | k + 1, Y => fun t args H r hH h => by
    have ih := callF_ok hE hFE hLE k
    cases t with
    | yield l =>
      simp only [callF] at h
      split at h
      · rename_i d hd
        split at h
        · rename_i lf hlf
          obtain ⟨hl, hent⟩ := hH l d hd
          unfold roundF at h
          split at h
          · rename_i p0 tm0 ps0 a0 b0 hl0
            obtain ⟨⟨lf', q1, q2, q3, q4, q5, ⟨sa, ma, ma', q6⟩, ⟨sb, mb, mb', q7⟩⟩, hV⟩ := hent _ _ _ _ _ _ hl0
            simp only at q1 q5 q6 q7
            rw [hlf] at q1; cases q1
            have hlv : lvOf LE d.id = lf.vs := by simp only [lvOf, hlf]
            have hln : YOk.lvN LE d.id = lf.n := by simp only [YOk.lvN, hlf]
            rw [hlv, hln] at hV
            rw [hln] at q4 q6 q7
            split at h
            · cases h
            rename_i hlen
            simp only [ne_eq, Decidable.not_not] at hlen
            rw [q5, List.length_map] at hlen
            have hV1 := setV_ok q3 q4 (ps := ps0) (args := args) hV
            rw [← q5] at hV1
            have hI := yok_stable LE Y
            split at h
            · rename_i s1 h1
              obtain ⟨tm1, g1, g2, _, g4⟩ := evalF_ok hE ih q3 q4 Y k a0 q6 (hLE d.id lf hlf).1 (fs := ⟨[], setV d.V lf.ps args, H⟩) hV1 (sig0_ok hV1) hH h1
              split at h
              · rename_i pend tm ps a b hl1
                split at h
                · rename_i e2 s2 h2
                  obtain ⟨tm2, k1, k2, _, k4⟩ := evalF_ok hE ih q3 q4 Y k b0 q7 (hLE d.id lf hlf).2 (fs := ⟨[], s1.V, s1.H.set l (.loop .busy pend tm ps a b)⟩) g2 (sig0_ok g2) (hI _ _ (KeepL.turn hl1) g4) h2
                  split at h
                  · rename_i st3 p3 tm3 ps3 a3 b3 hl2
                    cases h
                    simp only at g1 k1
                    refine ⟨?_, hI _ _ (KeepL.turn hl2) k4⟩
                    simp only [callA, hl0]
                    rw [if_neg (by simp [hlen])]
                    simp only [g1, Option.bind_eq_bind, Option.bind_some, hl1, k1, hl2]
                    rfl
                  · cases h
                · cases h
              · cases h
            · cases h
          · cases h
        · cases h
      · cases h
    | func f =>
      simp only [callF] at h
      split at h
      · rename_i ff hf
        obtain ⟨fn, m, vs, h1, h2, h3⟩ := hFE f ff hf
        simp only [callA, h1, Option.bind_eq_bind, Option.bind_some]
        split at h
        · rename_i hp
          rw [if_pos hp]
          split at h
          · rename_i fargs ns hz
            simp only [hz, Option.bind_some, fL_eq] at h ⊢
            split at h
            · rename_i r0 H2 hr
              obtain ⟨g1, _⟩ := runBodyF_ok hE ih h2 h3 (Y := []) (fun l d hd => by simp [YE.at] at hd) hr
              rw [g1]
              simp only [Option.bind_some]
              split at h
              · rename_i r' _ hz2
                cases h
                rw [hz2]
                refine ⟨rfl, ?_⟩
                simp only
                split
                · exact hH
                · exact yok_stable LE Y _ _ (markAll_keep H ns) hH
              · cases h
            · cases h
          · cases h
        · rename_i hp
          rw [if_neg hp]
          split at h
          · rename_i r0 H2 hr
            cases h
            obtain ⟨g1, g2⟩ := runBodyF_ok hE ih h2 h3 hH hr
            rw [g1]
            exact ⟨rfl, g2⟩
          · cases h
      · cases h
end
end Go.Px
#print axioms Go.Px.callF_ok
