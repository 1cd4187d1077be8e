/- THE ABSTRACT MACHINE IS THE MACHINE's. -/
import Derived.Test.YtefondfmngjekaaGreatPxS
set_option linter.unusedVariables false
set_option linter.unusedSimpArgs false
namespace Go.Px
open Go

section
variable {P : Program} {E : Env}

theorem setAll_rep {m : Mu} {S : Sett} {w : World} : ∀ {ps : List Nat} {vs : List Value} {xs : List AV} {T : Array Value} {tm : List AV}, RepL m S w false T.toList tm → RepL m S w false vs xs → RepL m S w false ((ps.zip vs).foldl (fun tmps (p : Nat × Value) => tmps.setIfInBounds p.1 p.2) T).toList (setAll tm ps xs)
  | [], vs, xs, T, tm, hT, _ => by simpa [setAll] using hT
  | p :: ps, _, _, T, tm, hT, .nil _ => by simpa [setAll] using hT
  | p :: ps, _, _, T, tm, hT, .cons _ v x vs xs h t => by
    simp only [List.zip_cons_cons, List.foldl_cons, setAll]
    exact setAll_rep (by simp only [Array.toList_setIfInBounds]; exact hT.set p h) t

theorem yieldSim (hE : EnvOk P E) (hPf : PrimFr E) (hP : PrimOk P E) {call : CallT} (hCf : CallFr call) (hC : CallSim P call) (hmix : P.follows .mixedOrders = true) {k l : Nat} {args : List AV} {H : Heap} {r : AV} {H' : Heap} {base : Nat} {m : Mu} {S : Sett} {w : World} {args' : Array Value} {b : Nat}
    (hR : Rel P base m S H w) (ha : RepL m S w false args'.toList args) (hm : m l = some (b, 0)) {pend : Option Code} {tm : List AV} {ps : List Nat} {asg body : Code} (hH : H[l]? = some (.loop .ready pend tm ps asg body)) (hlen : args.length = ps.length) {s1 : St}
    (h1 : evalC E call k asg ⟨setAll tm ps args, H⟩ = some (.normal, s1)) {pend1 : Option Code} {tm1 : List AV} {ps1 : List Nat} {asg1 body1 : Code} (hH1 : s1.H[l]? = some (.loop .ready pend1 tm1 ps1 asg1 body1)) {e2 : AExit} {s2 : St}
    (h2 : evalC E call k body ⟨s1.tm, s1.H.set l (.loop .busy pend1 tm1 ps1 asg1 body1)⟩ = some (e2, s2)) {st2 : LoopState} {pend2 : Option Code} {tm2 : List AV} {ps2 : List Nat} {asg2 body2 : Code} (hH2 : s2.H[l]? = some (.loop st2 pend2 tm2 ps2 asg2 body2))
    (hr : r = .bool (jumpOf e2).isNone) (hH' : H' = s2.H.set l (.loop (if (jumpOf e2).isNone then .ready else .done) (jumpOf e2) tm2 ps2 asg2 body2)) :
    ∃ g tmps asg body, (Instr.yield b args').run P w = .ok (.round b g tmps asg body) w ∧ ∀ n, RoundIn Fence.wide n P b g tmps asg body w (Back P base none m S H w H' r) := by
  obtain ⟨b0, rec, c1, c2, c3, c4, c5, c6, c7, c8, c9⟩ := hR.obj l _ hH
  rw [hm] at c1; cases c1
  have hsz : args'.size = rec.params.size := by
    have e1 := ha.length
    rw [← c6] at hlen
    simp at e1 hlen
    omega
  refine ⟨_, _, _, _, run_yield c3 hsz, fun n => roundIn_of_wpIn trivial ?_⟩
  have hT : RepL m S w false ((rec.params.zip args').foldl (fun tmps (t, a) => tmps.setIfInBounds t a) rec.tmps).toList (setAll tm ps args) := by
    have := setAll_rep (ps := ps) c9 ha
    rw [← c6] at this
    rw [← c6]
    rw [← Array.foldl_toList, Array.toList_zip]
    exact this
  rw [c7]
  refine codeSim hE hPf hP hCf hC hmix (wideF_round b) 0 k asg h1 hR hT ⟨[], rfl, List.nodup_nil, Nat.zero_le _, fun D h => by cases h⟩ (fun l' hl' => ⟨rec, by cases hl'; exact c3⟩) fun a1 w1 m1 S1 g1 g2 g3 g4 => ?_
  show ∃ w₂, _
  obtain ⟨b1, rec1, d1, d2, d3, d4, d5, d6, d7, d8, d9⟩ := g1.rel.obj l _ hH1
  have hm1 := g1.ext.mu _ _ hm
  rw [hm1] at d1; cases d1
  have t1 := loop_touch g1.rel (st' := .busy) (pd' := pend1) (r' := { rec1 with state := .busy }) hH1 hm1 d3 rfl d5 d6 d7 d8 rfl
  refine ⟨_, run_beginRound d3 d4, ?_⟩
  rw [c8]
  refine codeSim hE hPf hP hCf hC hmix (wideF_round b) 0 k body h2 t1.rel (g3.ext t1.ext) (g4.step t1) (fun l' hl' => ⟨{ rec1 with state := .busy }, by cases hl'; exact World.putObj_heap_same (Array.getElem?_eq_some_iff.1 d3).1⟩) fun a2 w2 m2 S2 k1 k2 k3 k4 => ?_
  obtain ⟨b2, rec2, f1, f2, f3, f4, f5, f6, f7, f8, f9⟩ := k1.rel.obj l _ hH2
  have hm2 := k1.ext.mu _ _ hm1
  rw [hm2] at f1; cases f1
  have t2 := loop_touch k1.rel (st' := if (jumpOf e2).isNone then .ready else .done) (pd' := jumpOf e2) (r' := { rec2 with state := if (jumpOf e2).isNone then .ready else .done, pending := jumpOf e2 }) hH2 hm2 f3 rfl rfl f6 f7 f8 rfl
  have hback : Back P base none m S H w H' r (.returned (.bool (jumpOf e2).isNone)) (w2.putObj b (.loop { rec2 with state := if (jumpOf e2).isNone then .ready else .done, pending := jumpOf e2 })) := by
    subst hr hH'
    refine ⟨_, m2, S2, rfl, g1.trans (t1.trans (k1.trans t2)), ?_, .bool _ _⟩
    have q1 := g2.trans (Gaps.set_live (sl := none) (o' := .loop .busy pend1 tm1 ps1 asg1 body1) hH1 (by simp)) g1.len
    have q2 := q1.trans k2 (Nat.le_trans g1.len t1.len)
    exact q2.trans (Gaps.set_live (sl := none) hH2 (by simp)) (Nat.le_trans g1.len (Nat.le_trans t1.len k1.len))
  cases e2 with
  | normal => exact ⟨_, _, run_endRound none f3, hback⟩
  | exit i => exact ⟨_, _, run_endRound (some (.exit i)) f3, hback⟩
  | ret => exact ⟨_, _, run_endRound (some .ret) f3, hback⟩

/-- EVERY CALL. -/
theorem callSim (hE : EnvOk P E) (hPf : PrimFr E) (hP : PrimOk P E) (hmix : P.follows .mixedOrders = true) : ∀ k, CallSim P (callA E k)
  | 0 => ⟨fun f args H r H' acc h => by simp [callA] at h, fun f args H r H' acc h => by simp [callA] at h⟩
  | k + 1 => by
    have ih := callSim hE hPf hP hmix k
    refine ⟨fun f args H r H' acc h base m S w args' hR ha => ?_, fun l args H r H' acc h base m S w args' b hR ha hm => ?_⟩
    · simp only [callA, Option.bind_eq_bind] at h
      cases hf : E.fn f with
      | none => simp [hf] at h
      | some fn =>
        obtain ⟨p1, p2⟩ := hE.fn f fn hf
        have p2' : fn.name ≠ "runtime.NumGoroutine" := by simpa using p2
        suffices hs : fn.body ≠ none ∧ ∀ n, CallsIn Fence.wide n P f args' w (Back P base none m S H w H' r) by
          obtain ⟨hb0, hs⟩ := hs
          refine ⟨?_, hs⟩
          cases hbd : fn.body with
          | none => exact absurd hbd hb0
          | some c => simp [callFunc, Sem.run_bind, p1, p2', hbd]
        have hbd : ∀ {k : Nat} {call : CallT} {args : List AV} {H : Heap} {q : AV × Heap}, runBody E call k fn args H = some q → fn.body ≠ none := fun {k call args H q} hq hn => by
          unfold runBody at hq
          simp [hn] at hq
        simp only [hf, Option.bind_some] at h
        by_cases hp : E.pure f = true
        · rw [if_pos hp] at h
          cases hz : fzL (fz E H fzDeep) args with
          | none => simp [hz] at h
          | some q =>
            obtain ⟨fargs, ns⟩ := q
            simp only [hz, Option.bind_some, fL_eq] at h
            cases hb : runBody E (callA E k) k fn fargs [] with
            | none => simp [hb] at h
            | some q2 =>
              obtain ⟨r0, H2⟩ := q2
              simp only [hb, Option.bind_some] at h
              cases hz2 : fz E H2 fzDeep r0 with
              | none => simp [hz2] at h
              | some q3 =>
                obtain ⟨r', ns2⟩ := q3
                simp [hz2] at h
                obtain ⟨rfl, rfl, rfl⟩ := h
                refine ⟨hbd hb, fun n => ?_⟩
                refine (bodySim hE hPf hP (callFr k) ih hmix p1 hb (callee_rel (ns := ns) hR) (callee_args hR ha hz)).mono fun e w' hbk => ?_
                obtain ⟨v', m2, S2, rfl, b1, b2, b3⟩ := hbk
                obtain ⟨S', k1, k2⟩ := pure_call hR hz b1 b3 hz2
                refine ⟨v', m, S', rfl, k1, fun nm hlt _ hm => ⟨hm, fun hd => ?_⟩, k2⟩
                split
                · exact hd
                · rw [markAll_get, hd]
                  simp [mkO]
        · rw [if_neg hp] at h
          cases hb : runBody E (callA E k) k fn args H with
          | none => simp [hb] at h
          | some q =>
            obtain ⟨r0, H2⟩ := q
            simp [hb] at h
            obtain ⟨rfl, rfl, rfl⟩ := h
            exact ⟨hbd hb, fun n => bodySim hE hPf hP (callFr k) ih hmix p1 hb hR ha⟩
    · simp only [callA] at h
      split at h
      · rename_i pend tm ps asg body hH
        split at h
        · cases h
        rename_i hlen
        simp only [Option.bind_eq_bind] at h
        cases h1 : evalC E (callA E k) k asg ⟨setAll tm ps args, H⟩ with
        | none => simp [h1] at h
        | some q =>
          obtain ⟨e1, s1⟩ := q
          simp only [h1, Option.bind_some] at h
          split at h
          · rename_i pend1 tm1 ps1 asg1 body1 hH1
            cases h2 : evalC E (callA E k) k body ⟨s1.tm, s1.H.set l (.loop .busy pend1 tm1 ps1 asg1 body1)⟩ with
            | none => simp [h2] at h
            | some q =>
              obtain ⟨e2, s2⟩ := q
              simp only [h2, Option.bind_some] at h
              split at h
              · rename_i st2 pend2 tm2 ps2 asg2 body2 hH2
                simp at h
                obtain ⟨rfl, rfl, rfl⟩ := h
                exact yieldSim hE hPf hP (callFr k) ih hmix hR ha hm hH (by simpa using hlen) h1 hH1 h2 hH2 rfl (by simp)
              · cases h
          · cases h
      · cases h

/-- A PURE FUNCTION OF SETTLED THINGS: its calls, whatever the world. -/
theorem pure_calls (hE : EnvOk P E) (hPf : PrimFr E) (hP : PrimOk P E) (hmix : P.follows .mixedOrders = true) {k : Nat} {f : FuncId} {args : List AV} {r : AV} {H' : Heap} {acc : Acc} (h : callA E k (.func f) args [] = some (r, H', acc)) {S : Sett} {w : World} {args' : Array Value}
    (hS : ∀ b j, S b j → (w.cell? ⟨b, j, none⟩).isSome = true) (ha : RepL m0 S w false args'.toList args) :
    Calls P f args' w (fun e w' => ∃ v m' S', e = .returned v ∧ Rep m' S' w' false v r ∧ w.heap.size ≤ w'.heap.size ∧ (∀ b, b < w.heap.size → w'.heap[b]? = w.heap[b]?) ∧ w'.os = w.os ∧ w'.tape = w.tape ∧ w'.output = w.output ∧ ∀ a : Addr, w'.frozen? a = w.frozen? a) := by
  have hR : Rel P w.heap.size m0 S [] w := ⟨Nat.le_refl _, fun _ _ h => (by cases h), fun _ _ h => (by simp at h), fun _ _ _ _ _ ⟨_, h, _⟩ => (by simp at h), hS⟩
  obtain ⟨_, h2⟩ := (callSim hE hPf hP hmix k).fn f args [] r H' acc h _ _ _ w args' hR ha
  refine callsIn_wide.1 ((h2 0).mono fun e w' hb => ?_)
  obtain ⟨v, m', S', rfl, b1, b2, b3⟩ := hb
  exact ⟨v, m', S', rfl, b3, b1.ext.size, fun b hb => b1.ext.other b hb (fun nm o ⟨_, h, _⟩ => by simp at h), b1.ext.os, b1.ext.tape, b1.ext.output, b1.ext.froz⟩
end
end Go.Px
#print axioms Go.Px.pure_calls
