/- Code. -/
import Derived.Test.YtefondfmngjekaaGreatPxP
import Derived.LoopNIn
set_option linter.unusedVariables false
set_option linter.unusedSimpArgs false
namespace Go.Px
open Go

def exitOf : AExit → Exit
  | .normal => .normal
  | .exit id => .exit id
  | .ret => .ret

/-- The marks among the deferred calls: blocks that nothing names, with no call in them. -/
def MarksOk (e0 : Nat) (ds : List Deferred) (m : Mu) (H : Heap) (w : World) : Prop :=
  ∃ Ds : List Nat, ds.map (·.target) = Ds.map Target.collected ∧ Ds.Nodup ∧ e0 ≤ w.heap.size ∧ ∀ D ∈ Ds, e0 ≤ D ∧ w.heap[D]? = some (.deferred (some [])) ∧ ∀ nm o, live H nm → m nm ≠ some (D, o)

def InRound (F : Fence) (w : World) : Prop := ∀ l, F.round = some l → ∃ r, w.heap[l]? = some (Obj.loop r)

section
variable {P : Program} {E : Env} {base : Nat} {m m' : Mu} {S S' : Sett} {H H' : Heap} {w w' : World} {F : Fence} {n : Nat}

theorem MarksOk.step {e0 : Nat} {ds : List Deferred} (h : MarksOk e0 ds m H w) (k : Step P base m S H w m' S' H' w') : MarksOk e0 ds m' H' w' := by
  obtain ⟨Ds, h1, h2, h3, h4⟩ := h
  refine ⟨Ds, h1, h2, Nat.le_trans h3 k.ext.size, fun D hD => ?_⟩
  obtain ⟨g1, g2, g3⟩ := h4 D hD
  have hlt : D < w.heap.size := (Array.getElem?_eq_some_iff.1 g2).1
  refine ⟨g1, (k.ext.other D hlt g3).trans g2, fun nm o hl e => ?_⟩
  obtain ⟨nm0, o0, a, b⟩ := k.back nm D o hl e hlt
  exact g3 nm0 o0 a b

theorem InRound.step (h : InRound F w) (k : Step P base m S H w m' S' H' w') : InRound F w' := fun l hl => by
  obtain ⟨r, hr⟩ := h l hl
  exact k.ext.loop l r hr

/-- A new block that nothing names. -/
theorem idle_born (hR : Rel P base m S H w) (hb : Born w w') : Step P base m S H w m S H w' := by
  have hlt : ∀ b j, S b j → b < w.heap.size := fun b j h => cell_lt (hR.sett b j h)
  have hcell : ∀ b j, S b j → w'.cell? ⟨b, j, none⟩ = w.cell? ⟨b, j, none⟩ := fun b j h => hb.cell (hlt b j h) j
  refine ⟨⟨by have := hR.size; have := hb.size; omega, hR.dom, fun nm o ho => ?_, hR.inj, fun b j h => by rw [hcell b j h]; exact hR.sett b j h⟩, ⟨fun _ _ h => h, fun _ _ h => h, hcell, fun _ _ _ h => hb.shape h, fun b hb' _ => hb.old b hb', by have := hb.size; omega, hb.os, hb.tape, hb.output,
    fun b r h => ⟨r, (hb.old b (Array.getElem?_eq_some_iff.1 h).1).trans h⟩, hb.froz⟩, fun nm b o hl e _ => ⟨nm, o, hl, e⟩, Nat.le_refl _, fun _ _ h => .inl h⟩
  by_cases hd : o = .dead
  · subst hd; trivial
  · exact (hR.obj nm o ho).keep (fun _ _ h => h) (fun _ _ h => h) hcell (fun _ _ _ h => hb.shape h) fun b q hm => ⟨hb.old b (by obtain ⟨b', q', h1, _, h3⟩ := (hR.obj nm o ho).mu hd; rw [hm] at h1; cases h1; exact h3), fun _ h => h⟩

/-- A loop's record turns. -/
theorem loop_touch (hR : Rel P base m S H w) {l b : Nat} {st st' : LoopState} {pd pd' : Option Code} {tm : List AV} {ps : List Nat} {asg bd : Code} {r r' : Loop} (hH : H[l]? = some (.loop st pd tm ps asg bd)) (hm : m l = some (b, 0)) (hw : w.heap[b]? = some (.loop r))
    (h1 : r'.state = st') (h2 : r'.pending = pd') (h3 : r'.params.toList = ps) (h4 : r'.assign = asg) (h5 : r'.body = bd) (h6 : r'.tmps = r.tmps) :
    Step P base m S H w m S (H.set l (.loop st' pd' tm ps asg bd)) (w.putObj b (.loop r')) := by
  have hlt : l < H.length := (List.getElem?_eq_some_iff.1 hH).1
  have hbl : b < w.heap.size := (Array.getElem?_eq_some_iff.1 hw).1
  have hot : ∀ b', b' ≠ b → (w.putObj b (.loop r')).heap[b']? = w.heap[b']? := fun b' h => World.putObj_heap_other h
  have hsm : (w.putObj b (.loop r')).heap[b]? = some (.loop r') := World.putObj_heap_same hbl
  have hshape : ∀ b' e n, Shape w b' e n → Shape (w.putObj b (.loop r')) b' e n := fun b' e n ⟨arr, rng, h, hn⟩ => by
    have : b' ≠ b := fun e => by subst e; rw [hw] at h; cases h
    exact ⟨arr, rng, (hot b' this).trans h, hn⟩
  have hcell : ∀ b' j, S b' j → (w.putObj b (.loop r')).cell? ⟨b', j, none⟩ = w.cell? ⟨b', j, none⟩ := fun b' j h => by
    have hne : b' ≠ b := fun e => by
      subst e
      have := hR.sett b' j h
      simp [World.cell?, hw] at this
    simp [World.cell?, hot b' hne]
  refine hR.touch ⟨_, hH, by simp⟩ hm (fun k hk => by rw [List.getElem?_set_ne (Ne.symm hk)]) (by simp) (fun o ho => ?_) hot World.putObj_size hshape hcell rfl rfl rfl (fun b' q hq => ?_) (fun x => ?_)
  · rw [List.getElem?_set_self hlt] at ho
    cases ho
    obtain ⟨b0, r0, g1, g2, g3, g4, g5, g6, g7, g8, g9⟩ := hR.obj l _ hH
    rw [hm] at g1; cases g1
    rw [hw] at g3; cases g3
    exact ⟨b, r', hm, g2, hsm, h1, h2, h3, h4, h5, by rw [h6]; exact RepL.keep (fun _ _ h => h) (fun _ _ h => h) hcell hshape g9⟩
  · by_cases hb : b' = b
    · subst hb; exact ⟨r', hsm⟩
    · exact ⟨q, (hot b' hb).trans hq⟩
  · by_cases hb : x.block = b
    · simp [World.frozen?, hb, hsm, hw]
    · simp [World.frozen?, hot x.block hb]

theorem Gaps.set_live {sl : Option Nat} {l : Nat} {o o' : AO} (h : H[l]? = some o) (hne : o ≠ .dead) : Gaps sl m H m (H.set l o') := fun nm hlt _ hm => ⟨hm, fun hd => by
  have : nm ≠ l := fun e => by subst e; rw [h] at hd; exact hne (by injection hd)
  rw [List.getElem?_set_ne (Ne.symm this)]; exact hd⟩

theorem Gaps.trans {m'' : Mu} {H'' : Heap} (h : Gaps none m H m' H') (k : Gaps none m' H' m'' H'') (hl : H.length ≤ H'.length) : Gaps none m H m'' H'' := Gaps.trans' h k hl

theorem loop_rep {r : Loop} {tm : List AV} {lb : Nat} (hT : RepL m S w false r.tmps.toList tm) (hR : Rel P base m S H w) {st : LoopState} {pd : Option Code} {ps : List Nat} {asg bd : Code} (h1 : r.state = st) (h2 : r.pending = pd) (h3 : r.params.toList = ps) (h4 : r.assign = asg) (h5 : r.body = bd) :
    Step P base m S H w (muPut m H.length w.heap.size 0) S (H ++ [.loop st pd tm ps asg bd]) (w.alloc (.loop r)) ∧ Gaps none m H (muPut m H.length w.heap.size 0) (H ++ [.loop st pd tm ps asg bd]) := by
  obtain ⟨hl, hm⟩ := lay_slot (slot := none) hR ⟨fun nm e => by cases e⟩ (.loop st pd tm ps asg bd)
  have hlt : ∀ b j, S b j → b < w.heap.size := fun b j h => cell_lt (hR.sett b j h)
  refine ⟨hR.born (S' := S) hl hm (Born.alloc w _) (by simp) (fun _ _ h => h) (fun _ _ h _ => h) (fun j h => absurd (hlt _ _ h) (Nat.lt_irrefl _)) (fun b j h => Nat.le_of_lt (hlt b j h))
    ⟨w.heap.size, r, by simp [muPut], hR.size, alloc_new _ _, h1, h2, h3, h4, h5, RepL.keep (fun k p e => ?_) (fun _ _ h => h) (fun b j h => (Born.alloc w _).cell (hlt b j h) j) (fun _ _ _ h => (Born.alloc w _).shape h) hT⟩, Gaps.lay (sl := none)⟩
  unfold muPut; split
  · rename_i hk; subst hk; simp only [layNew] at hm; rw [hm] at e; cases e
  · exact e

/-- Entering a range over a function. -/
theorem enter_ok (hR : Rel P base m S H w) {a : Act} {tm : List AV} (hT : RepL m S w false a.tmps.toList tm) {e0 : Nat} (hM : MarksOk e0 a.defers m H w) (hI : InRound F w) (fn : FuncId) (ps : Array Tmp) (assign body : Code) :
    ∃ lb mark w1 m1, (Instr.enterLoop fn a.tmps ps assign body F.round).run P w = .ok (lb, mark) w1 ∧ m1 H.length = some (lb, 0) ∧ Step P base m S H w m1 S (H ++ [.loop .ready none tm ps.toList assign body]) w1 ∧
      Gaps none m H m1 (H ++ [.loop .ready none tm ps.toList assign body]) ∧ MarksOk e0 (mark ++ a.defers) m1 (H ++ [.loop .ready none tm ps.toList assign body]) w1 := by
  cases hr : F.round with
  | none =>
    have h0 := idle_born hR (Born.alloc w (.deferred (some [])))
    let w0 := w.alloc (.deferred (some []))
    let r : Loop := { state := .ready, pending := none, fn, tmps := a.tmps, params := ps, assign, body, defers := w.heap.size }
    have hT0 : RepL m S w0 false r.tmps.toList tm := hT.ext h0.ext
    obtain ⟨h1, h2⟩ := loop_rep (lb := 0) hT0 h0.rel (st := .ready) (pd := none) (ps := ps.toList) (asg := assign) (bd := body) rfl rfl rfl rfl rfl
    have hsz : w0.heap.size = w.heap.size + 1 := by show (w.heap.push _).size = _; simp
    refine ⟨w.heap.size + 1, [{ target := .collected w.heap.size, args := #[] }], w0.alloc (.loop r), _, run_enterLoop_outer fn a.tmps ps assign body, by simp [muPut, hsz, w0], h0.trans h1, h2, ?_⟩
    obtain ⟨Ds, d1, d2, d3, d4⟩ := hM.step (h0.trans h1)
    obtain ⟨Ds', d1', d2', d3', d4'⟩ := hM
    have hDD : Ds = Ds' := by
      have := d1.symm.trans d1'
      clear d4 d4' d2 d2' d1 d1'
      induction Ds generalizing Ds' with
      | nil => cases Ds' with
        | nil => rfl
        | cons x l => simp at this
      | cons y l ih => cases Ds' with
        | nil => simp at this
        | cons x l' => simp at this; rw [this.1, ih l' this.2]
    subst hDD
    refine ⟨w.heap.size :: Ds, by simp [d1], ?_, d3, ?_⟩
    · rw [List.nodup_cons]
      refine ⟨fun h => ?_, d2⟩
      have := (Array.getElem?_eq_some_iff.1 (d4' _ h).2.1).1
      exact absurd this (Nat.lt_irrefl _)
    · intro D hD
      rcases List.mem_cons.1 hD with rfl | hD
      · refine ⟨d3', ?_, fun nm o hl e => ?_⟩
        · rw [(Born.alloc w0 (.loop r)).old _ (by omega)]
          exact alloc_new w _
        · unfold muPut at e
          split at e
          · simp at e; omega
          · rename_i hne
            obtain ⟨o', ho', hne'⟩ := hl
            have hlt : nm < H.length := by
              rcases Nat.lt_or_ge nm H.length with q | q
              · exact q
              · have := (List.getElem?_eq_some_iff.1 ho').1
                simp at this; omega
            rw [List.getElem?_append_left hlt] at ho'
            obtain ⟨b', q', g1, _, g3⟩ := (hR.obj nm o' ho').mu hne'
            rw [e] at g1; cases g1
            exact absurd g3 (Nat.lt_irrefl _)
      · exact d4 D hD
  | some l0 =>
    obtain ⟨r0, hr0⟩ := hI l0 hr
    let r : Loop := { state := .ready, pending := none, fn, tmps := a.tmps, params := ps, assign, body, defers := r0.defers }
    have hT0 : RepL m S w false r.tmps.toList tm := hT
    obtain ⟨h1, h2⟩ := loop_rep (lb := 0) hT0 hR (st := .ready) (pd := none) (ps := ps.toList) (asg := assign) (bd := body) rfl rfl rfl rfl rfl
    refine ⟨w.heap.size, [], w.alloc (.loop r), _, ?_, by simp [muPut], h1, h2, by simpa using hM.step h1⟩
    unfold Instr.enterLoop
    simp only [Sem.run_bind, run_getLoop hr0, run_newObj_alloc, Result.andThen, Sem.run_pure]
    rfl
end
end Go.Px
