/- Calls. -/
import Derived.Test.YtefondfmngjekaaGreatPxR
set_option linter.unusedVariables false
set_option linter.unusedSimpArgs false
namespace Go.Px
open Go

section
variable {P : Program} {E : Env} {base : Nat}

/-! ### what a call touches -/
theorem fzL_fr {f g : AV → Option (AV × List Nat)} : ∀ {l r : List AV} {ns : List Nat}, fzL f l = some (r, ns) → (∀ v x ms, f v = some (x, ms) → (∀ y, y ∈ ms → y ∈ ns) → g v = some (x, ms)) → fzL g l = some (r, ns)
  | [], r, ns, h, _ => h
  | v :: l, r, ns, h, hg => by
    simp only [fzL, Option.bind_eq_bind] at h ⊢
    cases hv : f v with
    | none => simp [hv] at h
    | some q =>
      obtain ⟨x, ms⟩ := q
      cases hl : fzL f l with
      | none => simp [hv, hl] at h
      | some q2 =>
        obtain ⟨xs, ms2⟩ := q2
        simp [hv, hl] at h
        obtain ⟨rfl, rfl⟩ := h
        rw [hg v x ms hv (fun y hy => List.mem_append_left _ hy), fzL_fr hl (fun u y ms3 hu hm => hg u y ms3 hu (fun z hz => List.mem_append_right _ (hm z hz)))]
        rfl

theorem fz_fr {H H1 : Heap} : ∀ (k : Nat) {v x : AV} {ns : List Nat}, fz E H k v = some (x, ns) → (∀ nm ∈ ns, sameFr H[nm]? H1[nm]?) → fz E H1 k v = some (x, ns)
  | 0, v, x, ns, h, _ => by simp [fz] at h
  | k + 1, v, x, ns, h, ha => by
    have hL : ∀ {l r : List AV} {ms : List Nat}, fzL (fz E H k) l = some (r, ms) → (∀ y, y ∈ ms → y ∈ ns) → fzL (fz E H1 k) l = some (r, ms) := fun hl hsub =>
      fzL_fr hl (fun v x ms3 hv hm => fz_fr k hv (fun nm hn => ha nm (hsub nm (hm nm hn))))
    cases v with
    | own nm off n sz =>
      simp only [fz] at h ⊢
      split at h
      · rename_i e cs fr hr
        split at h
        · rename_i hle
          cases hl : fzL (fz E H k) cs with
          | none => simp [hl] at h
          | some q =>
            obtain ⟨l, ms⟩ := q
            simp [hl] at h; obtain ⟨rfl, rfl⟩ := h
            obtain ⟨g, hg⟩ := (ha nm (by simp)).row hr
            simp [hg, hle, hL hl (fun y hy => List.mem_cons_of_mem _ hy)]
        · cases h
      · cases h
    | loc nm off =>
      simp only [fz] at h ⊢
      split at h
      · rename_i e cs fr hr
        split at h
        · rename_i hle
          cases hl : fzL (fz E H k) cs with
          | none => simp [hl] at h
          | some q =>
            obtain ⟨l, ms⟩ := q
            simp [hl] at h; obtain ⟨rfl, rfl⟩ := h
            obtain ⟨g, hg⟩ := (ha nm (by simp)).row hr
            simp [hg, hle, hL hl (fun y hy => List.mem_cons_of_mem _ hy)]
        · cases h
      · cases h
    | agg cs =>
      simp only [fz] at h ⊢
      cases hl : fzL (fz E H k) cs with
      | none => simp [hl] at h
      | some q => obtain ⟨l, ms⟩ := q; simp [hl] at h; obtain ⟨rfl, rfl⟩ := h; simp [hL hl (fun y hy => hy)]
    | tup cs =>
      simp only [fz] at h ⊢
      cases hl : fzL (fz E H k) cs with
      | none => simp [hl] at h
      | some q => obtain ⟨l, ms⟩ := q; simp [hl] at h; obtain ⟨rfl, rfl⟩ := h; simp [hL hl (fun y hy => hy)]
    | clo f cs =>
      simp only [fz] at h ⊢
      cases hl : fzL (fz E H k) cs with
      | none => simp [hl] at h
      | some q => obtain ⟨l, ms⟩ := q; simp [hl] at h; obtain ⟨rfl, rfl⟩ := h; simp [hL hl (fun y hy => hy)]
    | iface t y =>
      simp only [fz] at h ⊢
      cases hl : fz E H k y with
      | none => simp [hl] at h
      | some q => obtain ⟨l, ms⟩ := q; simp [hl] at h; obtain ⟨rfl, rfl⟩ := h; simp [fz_fr k hl ha]
    | yield l => simp [fz] at h
    | map l => simp [fz] at h
    | undef => simp [fz] at h
    | _ => simp only [fz] at h ⊢; exact h

theorem callFr : ∀ k, CallFr (callA E k)
  | 0 => fun t args H r H' acc h => by simp [callA] at h
  | k + 1 => fun t args H r H' acc h hal => by
    cases t with
    | yield l =>
      exfalso
      simp only [callA] at h
      split at h
      · split at h
        · cases h
        · simp only [Option.bind_eq_bind] at h
          rename_i st pd tm ps asg body _ _
          cases h1 : evalC E (callA E k) k asg ⟨setAll tm ps args, H⟩ with
          | none => simp [h1] at h
          | some q =>
            obtain ⟨e1, s1⟩ := q
            simp only [h1, Option.bind_some] at h
            split at h
            · rename_i pd2 tm2 ps2 asg2 bd2 _
              cases h2 : evalC E (callA E k) k body ⟨s1.tm, s1.H.set l (.loop .busy pd2 tm2 ps2 asg2 bd2)⟩ with
              | none => simp [h2] at h
              | some q =>
                obtain ⟨e2, s2⟩ := q
                simp only [h2, Option.bind_some] at h
                split at h
                · simp at h; obtain ⟨_, _, rfl⟩ := h; simp at hal
                · cases h
            · cases h
      · cases h
    | func f =>
      simp only [callA, Option.bind_eq_bind] at h ⊢
      cases hf : E.fn f with
      | none => simp [hf] at h
      | some fn =>
        simp only [hf, Option.bind_some] at h ⊢
        by_cases hp : E.pure f = true
        · rw [if_pos hp] at h
          simp only [hp, if_true]
          cases hz : fzL (fz E H fzDeep) args with
          | none => simp [hz] at h
          | some q =>
            obtain ⟨fargs, ns⟩ := q
            simp only [hz, Option.bind_some, fL_eq] at h ⊢
            cases hb : runBody E (callA E k) k fn fargs [] with
            | none => simp [hb] at h
            | some q2 =>
              obtain ⟨r0, H2⟩ := q2
              simp only [hb, Option.bind_some] at h ⊢
              cases hz2 : fz E H2 fzDeep r0 with
              | none => simp [hz2] at h
              | some q3 =>
                obtain ⟨r', ns2⟩ := q3
                simp [hz2] at h
                obtain ⟨rfl, rfl, rfl⟩ := h
                by_cases hfl : flat r' = true
                · refine ⟨fun _ x => x, TrOk.id _, by rw [if_pos hfl, map_id'], fun H1 ha => ?_⟩
                  have hz1 : fzL (fz E H1 fzDeep) args = some (fargs, ns) := fzL_fr hz (fun v x ms hv hm => fz_fr fzDeep hv (fun nm hn => ha.1 nm (hm nm hn)))
                  simp [hz1, hb, hz2, hfl, map_id']
                · refine ⟨fun j x => if j ∈ ns then mkO x else x, fun j _ => ?_, by rw [if_neg hfl, markAll_mapIdx], fun H1 ha => ?_⟩
                  · by_cases hj : j ∈ ns
                    · exact .inr ⟨hj, fun x => by simp [hj]⟩
                    · exact .inl fun x => by simp [hj]
                  · have hz1 : fzL (fz E H1 fzDeep) args = some (fargs, ns) := fzL_fr hz (fun v x ms hv hm => fz_fr fzDeep hv (fun nm hn => ha.1 nm (hm nm hn)))
                    simp [hz1, hb, hz2, hfl, markAll_mapIdx]
        · exfalso
          rw [if_neg hp] at h
          cases hb : runBody E (callA E k) k fn args H with
          | none => simp [hb] at h
          | some q => simp [hb] at h; obtain ⟨_, _, rfl⟩ := h; simp at hal

/-! ### leaving a function -/
theorem Step.shut {m m' : Mu} {S S' : Sett} {H H' : Heap} {w w1 : World} (h : Step P base m S H w m' S' H' w1) {D : Nat} (hD : w1.heap[D]? = some (.deferred (some []))) (hge : w.heap.size ≤ D) (hun : ∀ nm o, live H' nm → m' nm ≠ some (D, o)) :
    Step P base m S H w m' S' H' (w1.putObj D (.deferred none)) ∧ (∀ {nf : Bool} {v : Value} {x : AV}, Rep m' S' w1 nf v x → Rep m' S' (w1.putObj D (.deferred none)) nf v x) := by
  have hot : ∀ b', b' ≠ D → (w1.putObj D (.deferred none)).heap[b']? = w1.heap[b']? := fun b' h => World.putObj_heap_other h
  have hcellD : ∀ b j, S' b j → b ≠ D := fun b j hs e => by
    subst e
    have := h.rel.sett b j hs
    simp [World.cell?, hD] at this
  have hcell : ∀ b j, S' b j → (w1.putObj D (.deferred none)).cell? ⟨b, j, none⟩ = w1.cell? ⟨b, j, none⟩ := fun b j hs => by simp [World.cell?, hot b (hcellD b j hs)]
  have hshape : ∀ b' e n, Shape w1 b' e n → Shape (w1.putObj D (.deferred none)) b' e n := fun b' e n ⟨arr, rng, hh, hn⟩ => by
    have : b' ≠ D := fun e => by subst e; rw [hD] at hh; cases hh
    exact ⟨arr, rng, (hot b' this).trans hh, hn⟩
  refine ⟨⟨⟨by rw [World.putObj_size]; exact h.rel.size, h.rel.dom, fun nm o ho => ?_, h.rel.inj, fun b j hs => by rw [hcell b j hs]; exact h.rel.sett b j hs⟩,
    ⟨h.ext.mu, h.ext.sub, fun b j hs => (hcell b j (h.ext.sub b j hs)).trans (h.ext.cell b j hs), fun b e n hs => hshape b e n (h.ext.shape b e n hs), fun b hb hno => (hot b (by omega)).trans (h.ext.other b hb hno), by rw [World.putObj_size]; exact h.ext.size, h.ext.os, h.ext.tape, h.ext.output,
      fun b r hr => ?_, fun x => ?_⟩, h.back, h.len, h.grow⟩, fun hr => Rep.keep (fun _ _ h => h) (fun _ _ h => h) hcell hshape hr⟩
  · by_cases hd : o = .dead
    · subst hd; trivial
    · exact (h.rel.obj nm o ho).keep (fun _ _ h => h) (fun _ _ h => h) hcell hshape fun b q hm => ⟨hot b (fun e => hun nm q ⟨o, ho, hd⟩ (e ▸ hm)), fun _ h => h⟩
  · obtain ⟨r', hr'⟩ := h.ext.loop b r hr
    exact ⟨r', (hot b (fun e => by subst e; have := (Array.getElem?_eq_some_iff.1 hr).1; omega)).trans hr'⟩
  · rw [← h.ext.froz x]
    by_cases hb : x.block = D
    · have := World.putObj_heap_same (o := .deferred none) (Array.getElem?_eq_some_iff.1 hD).1
      simp [World.frozen?, hb, hD, this]
    · simp [World.frozen?, hot x.block hb]

theorem result_ok (hE : EnvOk P E) {m : Mu} {S : Sett} {H : Heap} {w : World} (hR : Rel P base m S H w) {tmps : Array Value} {tm : List AV} (hT : RepL m S w false tmps.toList tm) {v : ResultVar} {x : AV} (h : resultA E ⟨tm, H⟩ v = some x) :
    ∃ y, ((match v with
      | .tmp t => pure (tmps.getD t undef)
      | .cell a t => do loadVar t (← asAddr (tmps.getD a undef)) : Sem Value)).run P w = .ok y w ∧ Rep m S w false y x := by
  cases v with
  | tmp t =>
    simp [resultA] at h; subst h
    refine ⟨_, rfl, ?_⟩
    have := hT.getD t
    simpa [Array.getD_eq_getD_getElem?, List.getD_eq_getElem?_getD] using this
  | cell a t =>
    simp only [resultA] at h
    cases hl : loadA E H t (tm.getD a .undef) with
    | none => rw [hl] at h; cases h
    | some q =>
      obtain ⟨y, acc⟩ := q
      rw [hl] at h
      simp at h; subst h
      have hr := hT.getD a
      have hr' : Rep m S w false (tmps.getD a undef) (tm.getD a .undef) := by simpa [Array.getD_eq_getD_getElem?, List.getD_eq_getElem?_getD] using hr
      obtain ⟨v', g1, g2⟩ := load_ok hE hR hr' hl
      refine ⟨v', ?_, g2⟩
      rw [← g1]
      cases hv : tmps.getD a undef with
      | pointer p =>
        cases p with
        | none =>
          rw [hv] at g1
          simp [Instr.loadAt, Instr.sureAddr, stuck, Sem.run_bind] at g1
        | some p => simp only [hv]; rfl
      | _ =>
        rw [hv] at g1
        simp [Instr.loadAt, Instr.sureAddr, stuck, Sem.run_bind] at g1

theorem results_ok (hE : EnvOk P E) {m : Mu} {S : Sett} {H : Heap} {w : World} (hR : Rel P base m S H w) {tmps : Array Value} {tm : List AV} (hT : RepL m S w false tmps.toList tm) {fn : Func} {rs : List AV} (h : fn.results.toList.mapM (resultA E ⟨tm, H⟩) = some rs) :
    ∃ v, (results fn tmps).run P w = .ok v w ∧ Rep m S w false v (resOf rs) := by
  have key : ∀ (l : List ResultVar) (rs : List AV), l.mapM (resultA E ⟨tm, H⟩) = some rs → ∃ vs, (l.mapM (fun v => (match v with
      | .tmp t => pure (tmps.getD t undef)
      | .cell a t => do loadVar t (← asAddr (tmps.getD a undef)) : Sem Value))).run P w = .ok vs w ∧ RepL m S w false vs rs := by
    intro l
    induction l with
    | nil => intro rs h; simp at h; subst h; exact ⟨[], rfl, .nil _⟩
    | cons v l ih =>
      intro rs h
      simp only [List.mapM_cons, Option.bind_eq_bind] at h
      cases hv : resultA E ⟨tm, H⟩ v with
      | none => simp [hv] at h
      | some x =>
        cases hl : l.mapM (resultA E ⟨tm, H⟩) with
        | none => simp [hv, hl] at h
        | some xs =>
          simp [hv, hl] at h; subst h
          obtain ⟨y, y1, y2⟩ := result_ok hE hR hT hv
          obtain ⟨ys, z1, z2⟩ := ih xs hl
          refine ⟨y :: ys, ?_, .cons _ _ _ _ _ y2 z2⟩
          rw [List.mapM_cons, Sem.run_bind, y1, Result.andThen_ok, Sem.run_bind, z1, Result.andThen_ok]
          rfl
  obtain ⟨vs, h1, h2⟩ := key _ _ h
  have hm : (fn.results.mapM (fun v => (match v with
      | .tmp t => pure (tmps.getD t undef)
      | .cell a t => do loadVar t (← asAddr (tmps.getD a undef)) : Sem Value))).run P w = .ok vs.toArray w := by
    rw [Array.mapM_eq_mapM_toList, ← bind_pure_comp, Sem.run_bind, h1, Result.andThen_ok]
    rfl
  have hlen := h2.length
  refine ⟨if h : vs.toArray.size = 1 then vs.toArray[0] else .tuple vs.toArray, ?_, ?_⟩
  · unfold results
    rw [Sem.run_bind]
    refine (congrArg (fun r => Result.andThen r _) hm).trans ?_
    rfl
  · cases h2 with
    | nil => exact .tup _ [] _ (.nil _)
    | cons _ v x vs' xs hv t =>
      cases t with
      | nil => simpa [resOf] using hv
      | cons _ v2 x2 vs2 xs2 hv2 t2 =>
        have : ¬ ((v :: v2 :: vs2).toArray.size = 1) := by simp
        rw [dif_neg this]
        exact .tup _ _ _ (.cons _ _ _ _ _ hv (.cons _ _ _ _ _ hv2 t2))

theorem leaves_ok (hE : EnvOk P E) {fn : Func} {n : Nat} {m : Mu} {S : Sett} {H : Heap} {w : World} {rs : List AV} : ∀ (ds : List Deferred) {m' : Mu} {S' : Sett} {H' : Heap} {w1 : World} {tmps : Array Value} {tm : List AV},
    Step P base m S H w m' S' H' w1 → Gaps none m H m' H' → RepL m' S' w1 false tmps.toList tm → MarksOk w.heap.size ds m' H' w1 → fn.results.toList.mapM (resultA E ⟨tm, H'⟩) = some rs →
    LeavesInM Fence.wide n P fn tmps (Back P base none m S H w H' (resOf rs)) ds .returning w1
  | [], m', S', H', w1, tmps, tm, hst, hg, hT, hM, hr => by
    obtain ⟨v, h1, h2⟩ := results_ok hE hst.rel hT hr
    exact ⟨v, h1, v, m', S', rfl, hst, hg, h2⟩
  | d :: ds, m', S', H', w1, tmps, tm, hst, hg, hT, hM, hr => by
    obtain ⟨Ds, d1, d2, d3, d4⟩ := hM
    cases Ds with
    | nil => simp at d1
    | cons D Ds =>
      simp only [List.map_cons, List.cons.injEq] at d1
      rw [List.nodup_cons] at d2
      obtain ⟨e1, e2, e3⟩ := d4 D (by simp)
      obtain ⟨s1, s2⟩ := hst.shut e2 e1 e3
      refine ⟨by simp, .inl ⟨D, _, d1.1, run_takeDeferred e2, leaves_ok hE ds s1 hg (RepL.of_get hT.length fun i x hx => ?_) ⟨Ds, d1.2, d2.2, by rw [World.putObj_size]; exact d3, fun D2 hD2 => ?_⟩ hr⟩⟩
      · obtain ⟨v, g1, g2⟩ := hT.get hx
        exact ⟨v, g1, s2 g2⟩
      · obtain ⟨f1, f2, f3⟩ := d4 D2 (List.mem_cons_of_mem _ hD2)
        exact ⟨f1, (World.putObj_heap_other (fun e => by subst e; exact d2.1 hD2)).trans f2, f3⟩

/-- A FUNCTION's BODY. -/
theorem bodySim (hE : EnvOk P E) (hPf : PrimFr E) (hP : PrimOk P E) {call : CallT} (hCf : CallFr call) (hC : CallSim P call) (hmix : P.follows .mixedOrders = true) {k n : Nat} {f : FuncId} {fn : Func} (hf : P.funcs[f]? = some fn) {args : List AV} {H H' : Heap} {r : AV}
    (h : runBody E call k fn args H = some (r, H')) {m : Mu} {S : Sett} {w : World} {args' : Array Value} (hR : Rel P base m S H w) (ha : RepL m S w false args'.toList args) : CallsIn Fence.wide n P f args' w (Back P base none m S H w H' r) := by
  unfold runBody at h
  simp only [Option.bind_eq_bind] at h
  cases hb : fn.body with
  | none => simp [hb] at h
  | some body =>
    simp only [hb, Option.bind_some] at h
    cases he : evalC E call k body ⟨args ++ List.replicate (fn.ntmps - args.length) .undef, H⟩ with
    | none => simp [he] at h
    | some q =>
      obtain ⟨e, st⟩ := q
      simp only [he, Option.bind_some] at h
      have hx : ∃ rs, fn.results.toList.mapM (resultA E st) = some rs ∧ r = resOf rs ∧ H' = st.H ∧ (e = .normal ∨ e = .ret) := by
        cases e with
        | exit i => simp at h
        | normal =>
          cases hm : fn.results.toList.mapM (resultA E st) with
          | none => simp [hm] at h
          | some rs => simp [hm] at h; exact ⟨rs, rfl, h.1.symm, h.2.symm, .inl rfl⟩
        | ret =>
          cases hm : fn.results.toList.mapM (resultA E st) with
          | none => simp [hm] at h
          | some rs => simp [hm] at h; exact ⟨rs, rfl, h.1.symm, h.2.symm, .inr rfl⟩
      obtain ⟨rs, h1, rfl, rfl, h4⟩ := hx
      refine callsIn_of_wp_marks hf hb trivial ?_
      have hlen := ha.length
      refine codeSim hE hPf hP hCf hC hmix wideF_wide w.heap.size k body he hR ?_ ⟨[], rfl, List.nodup_nil, Nat.le_refl _, fun D h => by cases h⟩ (fun l hl => by cases hl) fun a' w' m' S' g1 g2 g3 g4 => ?_
      · simp only [Array.toList_append, Array.toList_replicate]
        rw [← hlen, show args'.toList.length = args'.size from by simp]
        exact ha.append (RepL.undefs _)
      · have hl := leaves_ok (n := n) hE a'.defers g1 g2 g3 g4 h1
        rcases h4 with rfl | rfl
        · exact hl
        · exact hl
end
end Go.Px
