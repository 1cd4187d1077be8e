/- slices.Clone, slices.Insert as told functions: what they make of the heap. -/
import Derived.Test.YtefondfmngjekaaGreatPxY
set_option linter.unusedVariables false
set_option linter.unusedSimpArgs false
namespace Go.Px
open Go Go.Lib Go.RowKit

/-- Nothing but the cells of block 'b' turns. -/
structure Wrote (b : Nat) (w w' : World) : Prop where
  old : ∀ b', b' ≠ b → w'.heap[b']? = w.heap[b']?
  size : w'.heap.size = w.heap.size
  os : w'.os = w.os
  tape : w'.tape = w.tape
  output : w'.output = w.output
  shape : ∀ b' e n, Shape w b' e n → Shape w' b' e n
  loop : ∀ (b' : Nat) (r : Loop), w.heap[b']? = some (Obj.loop r) → ∃ r', w'.heap[b']? = some (Obj.loop r')
  froz : ∀ a : Addr, w'.frozen? a = w.frozen? a

theorem Wrote.refl (b : Nat) (w : World) : Wrote b w w := ⟨fun _ _ => rfl, rfl, rfl, rfl, rfl, fun _ _ _ h => h, fun _ r h => ⟨r, h⟩, fun _ => rfl⟩
theorem Wrote.drew {b : Nat} {w w' : World} (h : Wrote b w w') : Wrote b w w'.drew := ⟨h.old, h.size, h.os, h.tape, h.output, h.shape, h.loop, h.froz⟩
theorem Wrote.cells {b : Nat} {w w' : World} (h : Wrote b w w') (o : Nat) (vs : List Value) : Wrote b w (w'.setCells b o vs) := by
  obtain ⟨h1, h2, h3, h4, h5, h6, h7⟩ := setCells_heap b vs o w'
  exact ⟨fun b' hb => (h1 b' hb).trans (h.old b' hb), h2.trans h.size, h3.trans h.os, h4.trans h.tape, h5.trans h.output, fun b' e n hs => h6 _ _ _ (h.shape _ _ _ hs),
    fun b' r hr => by obtain ⟨r1, e1⟩ := h.loop b' r hr; exact h7 b' r1 e1, fun a => (World.frozen?_setCells b vs o w' a).trans (h.froz a)⟩
theorem Wrote.cell {b : Nat} {w w' : World} (h : Wrote b w w') {b' : Nat} (hb : b' ≠ b) (j : Nat) : w'.cell? ⟨b', j, none⟩ = w.cell? ⟨b', j, none⟩ := by simp [World.cell?, h.old b' hb]

theorem Born.drew2 {w w' : World} (h : Born w w') : Born w w'.drew := ⟨h.size, h.old, h.os, h.tape, h.output, h.froz⟩
theorem Born.cells {w w' : World} (h : Born w w') (o : Nat) (vs : List Value) : Born w (w'.setCells w.heap.size o vs) := by
  obtain ⟨h1, h2, h3, h4, h5, h6, h7⟩ := setCells_heap w.heap.size vs o w'
  exact ⟨h2.trans h.size, fun b' hb => (h1 b' (by omega)).trans (h.old b' hb), h3.trans h.os, h4.trans h.tape, h5.trans h.output, fun a => (World.frozen?_setCells w.heap.size vs o w' a).trans (h.froz a)⟩

/-- A row that cells are written into. -/
theorem setCells_row (b : Nat) (e : TypeId) (rng : Nat × Nat) : ∀ (vs : List Value) (o : Nat) (w : World) (arr : Array Value), w.heap[b]? = some (.cells arr e rng) → o + vs.length ≤ arr.size →
    ∃ arr', (w.setCells b o vs).heap[b]? = some (.cells arr' e rng) ∧ arr'.size = arr.size ∧ ∀ j, arr'[j]? = if o ≤ j ∧ j < o + vs.length then vs[j - o]? else arr[j]?
  | [], o, w, arr, h, hl => ⟨arr, h, rfl, fun j => by rw [if_neg (by simp)]⟩
  | v :: vs, o, w, arr, h, hl => by
    simp only [List.length_cons] at hl
    have h1 : (w.setCell ⟨b, o, none⟩ v).heap[b]? = some (.cells (arr.setIfInBounds o v) e rng) := by simp only [World.setCell, Array.getElem?_modify, h]; simp
    obtain ⟨arr', g1, g2, g3⟩ := setCells_row b e rng vs (o + 1) (w.setCell ⟨b, o, none⟩ v) _ h1 (by simp; omega)
    refine ⟨arr', g1, by simpa using g2, fun j => ?_⟩
    rw [g3 j]
    by_cases hj : j = o
    · subst hj
      rw [if_neg (by omega), if_pos (by simp)]
      rw [Array.getElem?_setIfInBounds_self_of_lt (by omega)]
      simp
    · by_cases hc : o + 1 ≤ j ∧ j < o + 1 + vs.length
      · rw [if_pos hc, if_pos (by simp; omega)]
        obtain ⟨d, rfl⟩ := Nat.exists_eq_add_of_le hc.1
        rw [show o + 1 + d - (o + 1) = d by omega, show o + 1 + d - o = d + 1 by omega]
        simp
      · rw [if_neg hc, if_neg (by simp; omega)]
        rw [Array.getElem?_setIfInBounds_ne (by omega)]

section
variable {P : Program} {E : Env} {base : Nat} {m : Mu} {S : Sett} {H : Heap} {w : World} {slot : Option Nat}

/-- A row's name dies; a new name has what stands in its block now. -/
theorem heirRow (hR : Rel P base m S H w) (hs : SlotOk m H slot) {nm : Nat} {e : TypeId} {cs : List AV} {b q n : Nat} {info : TypeInfo} (hrow : H[nm]? = some (.row e cs false)) (r : RowIn P base m S w nm e cs false b q n info)
    {w' : World} (hw : Wrote b w w') {q' : Nat} {xs : List AV} (hfit : q' + xs.length ≤ n)
    (hc : ∀ j y, xs[j]? = some y → ∃ v, w'.cell? ⟨b, q' + j, none⟩ = some v ∧ Rep m S w false v y ∧ one y = true) :
    Step P base m S H w (muPut m (layNew slot (H.set nm .dead) (.row e xs false)).1 b q') S (layNew slot (H.set nm .dead) (.row e xs false)).2 w' := by
  have hlay := lay_slot (hR.kill nm).rel (hs.kill nm) (.row e xs false)
  have hS : ∀ b1 j, S b1 j → w'.cell? ⟨b1, j, none⟩ = w.cell? ⟨b1, j, none⟩ := fun b1 j hs => hw.cell (fun e => by subst e; exact r.uns rfl j hs) j
  refine hR.heir ⟨_, hrow, by simp⟩ r.mu hlay.1 hlay.2 (by simp) (fun _ _ h => h) (fun _ _ h _ => h) (fun j h => absurd h (r.uns rfl j))
    ⟨b, q', n, info, by simp [muPut], r.base, hw.shape _ _ _ r.shape, hfit, fun j => by rw [hw.froz]; exact r.free j, fun j y hy => ?_, r.info, (fun h => by cases h), fun _ => r.uns rfl, fun j hj => absurd hj (r.uns rfl j)⟩
    hw.old hw.size hw.shape hS hw.os hw.tape hw.output hw.loop hw.froz
  obtain ⟨v, a1, a2, a3⟩ := hc j y hy
  refine ⟨v, a1, Rep.keep (fun k p e0 => ?_) (fun _ _ h => h) hS hw.shape a2, a3⟩
  unfold muPut; split
  · rename_i hkk; subst hkk; rw [hlay.2] at e0; cases e0
  · exact e0

/-- A call is entered. -/
theorem enters {f : FuncId} {fn : Func} (hf : P.funcs[f]? = some fn) (hname : (fn.name == "runtime.NumGoroutine") = false) (hb : fn.body.isSome = true) (args : Array Value) (w : World) : (callFunc f args).run P w = .ok (.enter f args) w := by
  have hname' : fn.name ≠ "runtime.NumGoroutine" := by simpa using hname
  cases hbd : fn.body with
  | none => rw [hbd] at hb; cases hb
  | some c => simp [callFunc, Sem.run_bind, hf, hname', hbd]

/-- Out of a walk. -/
theorem back_of {f : FuncId} {args' : Array Value} {H' : Heap} {x : AV} {v' : Value} {w' : World} (ho : Out P base slot m S H w (.ok v' w') H' x) (hc : Calls P f args' w fun e w1 => e = .returned v' ∧ w1 = w') (n : Nat) :
    CallsIn Fence.wide n P f args' w (Back P base slot m S H w H' x) := by
  refine callsIn_wide.2 (hc.mono fun e w1 h => ?_)
  obtain ⟨rfl, rfl⟩ := h
  obtain ⟨v2, w2, m', S', e2, h1, h2, h3⟩ := ho
  cases e2
  exact ⟨v', m', S', rfl, h1, h2, h3⟩

theorem eff_out {eff : Eff} {res : Result Value} (h : EffOk P base slot m S H w res eff) (hR : Rel P base m S H w) : ∃ H' x, effTo slot H eff = some (H', x) ∧ Out P base slot m S H w res H' x := by
  cases eff with
  | val x => obtain ⟨v', e, h⟩ := h; exact ⟨H, x, rfl, v', w, m, S, e, Step.refl hR, Gaps.refl _ _ _, h⟩
  | new o f => exact ⟨_, _, rfl, h⟩
  | put nm o x => exact ⟨_, _, rfl, h⟩
  | app nm o n sz => exact ⟨_, _, rfl, h⟩
  | call t a => exact h.elim

theorem appendA_nocall {t : TypeId} {s x : AV} {eff : Eff} {acc : Acc} (h : appendA E H t s x = some (eff, acc)) (g : Tgt) (a : List AV) : eff ≠ .call g a := by
  intro he
  subst he
  obtain ⟨H2, h⟩ := appendA_some h
  unfold appendA0 at h
  cases hi : E.ty t with
  | none => simp [hi] at h
  | some i =>
    simp only [hi, Option.bind_eq_bind, Option.bind_some] at h
    split at h
    · rename_i e hds
      cases hei : E.ty e with
      | none => simp [hei] at h
      | some ei =>
        simp only [hei, Option.bind_some] at h
        cases hcx : contentA H2 ei.size x with
        | none => simp [hcx] at h
        | some q =>
          obtain ⟨k, new, acx⟩ := q
          simp only [hcx, Option.bind_some] at h
          split at h
          · cases h
          split at h
          · split at h <;> simp at h
          · split at h
            · split at h
              · simp at h
              · cases h
            · split at h
              · cases h
              · split at h
                · split at h
                  · simp at h
                  · cases h
                · cases h
            · cases h
    · cases h

/-! ### slices.Clone -/
def isSl : AV → Bool
  | .sl .. | .own .. => true
  | _ => false

def sayClone (E : Env) (tS : TypeId) : List AV → Option (Heap → Option (Eff × Acc))
  | [s] => if isSl s then some fun H => appendA E H tS (.sl 0 [] true) s else none
  | _ => none

theorem sayClone_fr (E : Env) (tS : TypeId) : SayFr (sayClone E tS) := by
  intro args p hq H eff acc h
  unfold sayClone at hq
  split at hq
  · split at hq
    · cases hq
      obtain ⟨h1, h2⟩ := appendA_fr h
      exact ⟨h1, appendA_nocall h, fun H1 hA => h2 hA⟩
    · cases hq
  · cases hq

/-- A slice is nil, or it lies somewhere. -/
theorem rep_isSl {v : Value} {x : AV} (h : Rep m S w false v x) (hx : isSl x = true) : v = .slice none 0 0 ∨ ∃ a n c, v = .slice (some a) n c ∧ n ≤ c := by
  cases h with
  | nilsl _ full => exact .inl rfl
  | sl _ a n c cells full h1 h2 h3 => exact .inr ⟨a, n, c, rfl, h1⟩
  | own nm off n sz c b o h1 h2 h3 => exact .inr ⟨_, n, c, rfl, h2⟩
  | own0 nm off sz b o a h1 =>
    cases a with
    | none => exact .inl rfl
    | some a => exact .inr ⟨a, 0, 0, rfl, Nat.le_refl _⟩
  | _ => cases hx

theorem slice_elem (hE : EnvOk P E) {tS : TypeId} {s x : AV} {eff : Eff} {acc : Acc} (h : appendA E H tS s x = some (eff, acc)) : ∃ info, ∀ {tE : TypeId}, P.underlying tS = some (.slice tE) → P.info? tE = some info := by
  obtain ⟨H2, h⟩ := appendA_some h
  unfold appendA0 at h
  cases hi : E.ty tS with
  | none => simp [hi] at h
  | some i =>
    simp only [hi, Option.bind_eq_bind, Option.bind_some] at h
    obtain ⟨ds, info, z, hu, hinf, hd, _⟩ := hE.ty tS i hi
    split at h
    · rename_i e hds
      obtain rfl := desc_slice (hd.symm.trans hds)
      cases hei : E.ty e with
      | none => simp [hei] at h
      | some ei =>
        obtain ⟨infe, hinfe, _⟩ := ty_info (hE.ty e ei hei)
        refine ⟨infe, fun hu2 => ?_⟩
        rw [hu] at hu2
        cases hu2
        exact hinfe
    · cases h

theorem sayClone_ok (hE : EnvOk P E) {f : FuncId} {fn : Func} {tS tE : TypeId} (hf : P.funcs[f]? = some fn) (hname : (fn.name == "runtime.NumGoroutine") = false) (hb : fn.body.isSome = true)
    (hu : P.underlying tS = some (.slice tE))
    (hnil : ∀ w, Calls P f #[.slice none 0 0] w fun e w1 => e = .returned (.slice none 0 0) ∧ w1 = w)
    (hsome : ∀ w a n c v' w', (∀ ty, (Builtin.append_ #[tS, tS] ty #[.slice (some ⟨w.heap.size, 0, none⟩) 0 0, .slice (some a) n c]).run P (w.alloc (.cells #[] tE)) = .ok v' w') →
      Calls P f #[.slice (some a) n c] w fun e w1 => e = .returned v' ∧ w1 = w') : SayOk P f (sayClone E tS) := by
  intro args p hq H eff acc h base sl m S w args' hR hs ha
  unfold sayClone at hq
  split at hq
  · rename_i s
    split at hq
    · rename_i hsl
      cases hq
      obtain ⟨l, hl⟩ : ∃ l, l = args'.toList := ⟨_, rfl⟩
      rw [← hl] at ha
      cases ha with
      | cons _ v _ vs _ h1 t1 =>
        cases t1
        have harr : args' = #[v] := by apply Array.ext'; simpa using hl.symm
        subst harr
        rcases rep_isSl h1 hsl with rfl | ⟨a, n, c, rfl, hnc⟩
        · have ho := append_ok (ty := 0) hE hR hs (.nilsl false true) h1 (.inl ⟨_, hu⟩) h
          -- nothing is appended to nothing
          obtain ⟨H', x, he, ho⟩ := eff_out ho hR
          refine ⟨H', x, he, .inl ⟨enters hf hname hb _ _, fun n => ?_⟩⟩
          obtain ⟨info, hinf⟩ := slice_elem hE h
          have hrun := run_append_nothing w tS tS 0 tE info hu (hinf hu) none 0 0 (Nat.le_refl _) _ (Src.ofNil (w := w) hu 0)
          rw [hrun] at ho
          exact back_of ho (hnil w) n
        · -- two blocks
          have hst := idle_born hR (Born.alloc w (.cells #[] tE))
          have ho := append_ok (ty := 0) hE hst.rel hs (.sl false ⟨w.heap.size, 0, none⟩ 0 0 [] true (Nat.le_refl _) (fun _ => rfl) (.nil _)) (h1.ext hst.ext) (.inl ⟨_, hu⟩) h
          obtain ⟨H', x, he, ho⟩ := eff_out ho hst.rel
          refine ⟨H', x, he, .inl ⟨enters hf hname hb _ _, fun n' => ?_⟩⟩
          obtain ⟨v', w', m', S', e1, e2, e3, e4⟩ := ho
          have ho' : Out P base sl m S H w (.ok v' w') H' x := ⟨v', w', m', S', rfl, hst.trans e2, e3, e4⟩
          exact back_of ho' (hsome w a n c v' w' (fun ty => e1)) n'
    · cases hq
  · cases hq
end
end Go.Px
