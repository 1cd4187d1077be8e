/- The effects: new rows, stores, appends, copies, maps. -/
import Derived.Test.YtefondfmngjekaaGreatPxE
import Derived.Laws.Append
import Derived.Laws.AppendOwn
set_option linter.unusedVariables false
set_option linter.unusedSimpArgs false
namespace Go.Px
open Go Go.RowKit

/-- Names that are kept free stay free. -/
def Gaps (sl : Option Nat) (m : Mu) (H : Heap) (m' : Mu) (H' : Heap) : Prop :=
  ∀ nm, nm < H.length → some nm ≠ sl → m nm = none → m' nm = none ∧ (H[nm]? = some .dead → H'[nm]? = some .dead)

theorem Gaps.refl (sl : Option Nat) (m : Mu) (H : Heap) : Gaps sl m H m H := fun _ _ _ h => ⟨h, fun h => h⟩

def Out (P : Program) (base : Nat) (sl : Option Nat) (m : Mu) (S : Sett) (H : Heap) (w : World) (res : Result Value) (H' : Heap) (x : AV) : Prop :=
  ∃ v' w' m' S', res = .ok v' w' ∧ Step P base m S H w m' S' H' w' ∧ Gaps sl m H m' H' ∧ Rep m' S' w' false v' x

theorem Gaps.lay {sl : Option Nat} {m : Mu} {H : Heap} {o : AO} {b q : Nat} : Gaps sl m H (muPut m (layNew sl H o).1 b q) (layNew sl H o).2 := by
  intro nm hlt hne hm
  cases sl with
  | none =>
    simp only [layNew]
    refine ⟨by unfold muPut; rw [if_neg (by omega)]; exact hm, fun h => by rw [List.getElem?_append_left hlt]; exact h⟩
  | some k =>
    have : nm ≠ k := fun e => hne (by rw [e])
    simp only [layNew]
    exact ⟨by unfold muPut; rw [if_neg this]; exact hm, fun h => by rw [List.getElem?_set_ne (Ne.symm this)]; exact h⟩

section ops
variable {P : Program} {E : Env} {base : Nat} {m : Mu} {S : Sett} {H : Heap} {w : World} {slot : Option Nat}

theorem zerosA_get (zero : List AV) : ∀ (n i : Nat), i < n * zero.length → (zerosA zero n)[i]? = zero[i % zero.length]?
  | 0, i, h => by omega
  | n + 1, i, h => by
    unfold zerosA
    by_cases hi : i < zero.length
    · rw [List.getElem?_append_left hi, Nat.mod_eq_of_lt hi]
    · rw [List.getElem?_append_right (by omega), zerosA_get zero n (i - zero.length) (by rw [Nat.add_mul] at h; omega)]
      congr 1
      rw [← Nat.mod_eq_sub_mod (by omega)]
theorem zerosA_length (zero : List AV) : ∀ n, (zerosA zero n).length = n * zero.length
  | 0 => by simp [zerosA]
  | n + 1 => by rw [zerosA, List.length_append, zerosA_length zero n, Nat.add_mul]; omega
theorem zerosA_one (zero : List AV) (h : ∀ x ∈ zero, one x = true) : ∀ n, ∀ x ∈ zerosA zero n, one x = true
  | 0, x, hx => by simp [zerosA] at hx
  | n + 1, x, hx => by
    rw [zerosA, List.mem_append] at hx
    rcases hx with hx | hx
    · exact h x hx
    · exact zerosA_one zero h n x hx

/-- The model's row of zeros. -/
theorem zeros_rep {zs : Array Value} {zero : List AV} (h : RepL m S w false zs.toList zero) (hne : zero.length ≠ 0) (n : Nat) :
    RepL m S w false ((Array.range (n * zs.size)).map (zs[· % zs.size]!)).toList (zerosA zero n) := by
  have hl : zs.size = zero.length := by have := h.length; simpa using this
  refine RepL.of_get (by simp [zerosA_length, hl]) fun i x hx => ?_
  have hlt : i < n * zero.length := by have := (List.getElem?_eq_some_iff.1 hx).1; rwa [zerosA_length] at this
  rw [zerosA_get zero n i hlt] at hx
  obtain ⟨v, g1, g2⟩ := h.get hx
  refine ⟨v, ?_, g2⟩
  have hm : i % zs.size < zs.size := Nat.mod_lt _ (by omega)
  rw [hl] at hm ⊢
  simp only [Array.toList_map, List.getElem?_map, Array.toList_range]
  rw [List.getElem?_range hlt]
  simp only [Option.map_some]
  rw [getElem!_pos zs (i % zero.length) (by omega)]
  rw [Array.getElem?_toList] at g1
  rw [Array.getElem?_eq_getElem (by omega)] at g1
  exact g1

theorem ty_info {t : TypeId} {i : TyI} (ht : TyOk P t i) : ∃ info, P.info? t = some info ∧ info.size = i.size ∧ info.bytes = i.bytes := by
  obtain ⟨d, info, z, hu, hi, hd, hs, hb, _⟩ := ht
  exact ⟨info, hi, hs, hb⟩

theorem ty_zero {t : TypeId} {i : TyI} (ht : TyOk P t i) (m : Mu) (S : Sett) (w : World) : ∃ z, (∀ w2, (zeroValue t).run P w2 = .ok z w2) ∧ RepL m S w false z.cells.toList i.zero ∧ (∀ x ∈ i.zero, one x = true) ∧ i.zero.length = i.size ∧ (∃ info, P.info? t = some info ∧ info.zero = some z) := by
  obtain ⟨ds, info, z, hu, hinf, hd, hs, hby, hz, hzc, hz1, hzl, _⟩ := ht
  exact ⟨z, fun w2 => by simp [zeroValue, typeInfo, hinf, hz], (zero_rep hzc hz1).weak, hz1, hzl, info, hinf, hz⟩

/-- A new row in a world that has just it more. -/
theorem out_row (hR : Rel P base m S H w) (hs : SlotOk m H slot) {e : TypeId} {arr : Array Value} {info : TypeInfo} (hi : P.info? e = some info) {vs : List Value} {cs : List AV} (hv : RepL m S w false vs cs) (h1 : ∀ y ∈ cs, one y = true)
    (ha : ∀ (j : Nat) (v : Value), vs[j]? = some v → arr[j]? = some v) {w0 : World} (hw0 : w0 = w ∨ w0 = w.drew) (x : Nat → AV) (v' : Value)
    (hx : ∀ nm S' w', (muPut m nm w.heap.size 0) nm = some (w.heap.size, 0) → Shape w' w.heap.size e arr.size → Rep (muPut m nm w.heap.size 0) S' w' false v' (x nm)) :
    Out P base slot m S H w (.ok v' (w0.alloc (.cells arr e))) (layNew slot H (.row e cs false)).2 (x (layNew slot H (.row e cs false)).1) := by
  have hsz : w0.heap.size = w.heap.size := by rcases hw0 with rfl | rfl <;> rfl
  have hb : Born w (w0.alloc (.cells arr e)) := by
    rcases hw0 with rfl | rfl
    · exact Born.alloc _ _
    · exact Born.drew (Born.alloc _ _)
  have hh : (w0.alloc (.cells arr e)).heap[w.heap.size]? = some (.cells arr e (0, 0)) := by rw [← hsz]; exact alloc_new _ _
  obtain ⟨S', hst⟩ := hR.newRow hs hb hh (fun j => by simp [World.frozen?, hh]) hi hv h1 ha false (fun _ => trivial)
  exact ⟨v', _, _, S', rfl, hst, Gaps.lay, hx _ _ _ (by simp [muPut]) ⟨arr, (0, 0), hh, rfl⟩⟩

theorem alloc_ok (hE : EnvOk P E) (hR : Rel P base m S H w) (hs : SlotOk m H slot) {t : TypeId} {i : TyI} (hi : E.ty t = some i) :
    Out P base slot m S H w ((Instr.alloc t true (.tuple #[])).run P w) (layNew slot H (.row t i.zero false)).2 (.loc (layNew slot H (.row t i.zero false)).1 0) := by
  obtain ⟨z, hz, hzr, hz1, hzl, info, hinf, _⟩ := ty_zero (hE.ty t i hi) m S w
  have hrun : (Instr.alloc t true (.tuple #[])).run P w = .ok (.pointer (some ⟨w.heap.size, 0, none⟩)) (w.alloc (.cells z.cells t)) := by
    simp [Instr.alloc, Sem.run_bind, hz, newVar, newRow]
  rw [hrun]
  refine out_row hR hs hinf hzr hz1 (fun j v hj => by simpa using hj) (.inl rfl) (fun nm => .loc nm 0) _ (fun nm S' w' hm hsh => ?_)
  simpa using Rep.loc nm 0 w.heap.size 0 hm

theorem box_ok (hE : EnvOk P E) (hR : Rel P base m S H w) (hs : SlotOk m H slot) {t : TypeId} {i : TyI} (hi : E.ty t = some i) {x' : Value} {x : AV} (hx : Rep m S w false x' x) :
    Out P base slot m S H w ((Instr.box t x').run P w) (layNew slot H (.row t (cellsOf x) false)).2 (.loc (layNew slot H (.row t (cellsOf x) false)).1 0) := by
  obtain ⟨info, hinf, _⟩ := ty_info (hE.ty t i hi)
  have hrun : (Instr.box t x').run P w = .ok (.pointer (some ⟨w.heap.size, 0, none⟩)) (w.alloc (.cells x'.cells t)) := by
    simp [Instr.box, Sem.run_bind, newVar, newRow]
  rw [hrun]
  by_cases hne : cellsOf x = []
  · rw [hne]
    refine out_row hR hs hinf (.nil _) (fun _ h => by cases h) (fun j v hj => by simp at hj) (.inl rfl) (fun nm => .loc nm 0) _ (fun nm S' w' hm hsh => ?_)
    simpa using Rep.loc nm 0 w.heap.size 0 hm
  · obtain ⟨g1, g2, g3⟩ := cells_rep hx hne
    refine out_row hR hs hinf g1 g2 (fun j v hj => by simpa using hj) (.inl rfl) (fun nm => .loc nm 0) _ (fun nm S' w' hm hsh => ?_)
    simpa using Rep.loc nm 0 w.heap.size 0 hm

theorem buildSlice_ok (hE : EnvOk P E) (hR : Rel P base m S H w) (hs : SlotOk m H slot) {t : TypeId} {len : Nat} {ps' : Array (Nat × Value)} {ps : List (Nat × AV)} {o : AO} {f : Nat → AV} (hp : RepP m S w ps'.toList ps) (h : buildSliceA E t len ps = some (.new o f)) :
    Out P base slot m S H w ((Instr.buildSlice t len ps').run P w) (layNew slot H o).2 (f (layNew slot H o).1) := by
  unfold buildSliceA at h
  cases hi : E.ty t with
  | none => simp [hi] at h
  | some i =>
    simp only [hi, Option.bind_eq_bind, Option.bind_some] at h
    obtain ⟨ds, info, z, hu, hinf, hd, _⟩ := hE.ty t i hi
    split at h
    · rename_i e hds
      obtain rfl := desc_slice (hd.symm.trans hds)
      cases hei : E.ty e with
      | none => simp [hei] at h
      | some ei =>
        simp only [hei, Option.bind_some] at h
        split at h
        · cases h
        · rename_i hc
          simp only [not_or, Nat.not_lt] at hc
          cases hf : fillA (fun k => some (k * ei.size, ei.size)) (zerosA ei.zero len) ps with
          | none => simp [hf] at h
          | some cs =>
            simp [hf] at h
            obtain ⟨rfl, rfl⟩ := h
            obtain ⟨ze, hze, hzr, hz1, hzl, infe, hinfe, hze2⟩ := ty_zero (hE.ty e ei hei) m S w
            obtain ⟨infe', hie', hse, _⟩ := ty_info (hE.ty e ei hei)
            rw [hinfe] at hie'; cases hie'
            have hzz := zeros_rep hzr (by omega) len
            have hsz : ze.cells.size = ei.size := by have := hzr.length; simp at this; omega
            obtain ⟨R, k1, k2, k3, k4⟩ := fill_ok (place' := fun k => some (k * infe.size, infe.size)) (fun k q hq => by rw [hse]; exact hq) hp hzz (zerosA_one _ hz1 len) hf
            have hrun : (Instr.buildSlice t len ps').run P w = .ok (.slice (some ⟨w.heap.size, 0, none⟩) len len) (w.alloc (.cells R e)) := by
              by_cases h0 : len * ei.size = 0
              · have hl0 : len = 0 := by
                  rcases Nat.mul_eq_zero.1 h0 with q | q
                  · exact q
                  · exact absurd q hc.2
                subst hl0
                have hz0 : ∀ (f : Nat → Value) (k : Nat), (Array.range (0 * k)).map f = #[] := fun f k => by rw [Nat.zero_mul]; apply Array.ext'; simp
                rw [hz0] at k1
                simp [Instr.buildSlice, run_underlying hu, sizeOf, typeInfo, hinfe, newRow, Sem.run_bind, show Array.range 0 = #[] from by apply Array.ext'; simp, k1]
              · refine run_buildSlice w t e len ps' R infe ze hu hinfe hze2 ?_ ?_ ?_
                · rw [hse]; omega
                · rw [hse]; exact h0
                · rw [← k1, hse, hsz]
            rw [hrun]
            have hRs : R.size = len * ei.size := by
              have := k2.length
              rw [k4, zerosA_length, hzl] at this
              simpa using this
            refine out_row hR hs hinfe k2 k3 (fun j v hj => by simpa using hj) (.inl rfl) (fun nm => .own nm 0 len ei.size) _ (fun nm S' w' hm hsh => ?_)
            simpa using Rep.own nm 0 len ei.size len w.heap.size 0 hm (Nat.le_refl _) ⟨e, R.size, hsh, by omega⟩
    · cases h

theorem makeMap_ok (hE : EnvOk P E) (hR : Rel P base m S H w) (hs : SlotOk m H slot) {t : TypeId} {kt vt : Nat} :
    Out P base slot m S H w ((Instr.makeMap t none).run P w) (layNew slot H (.map kt vt [] [] 0)).2 (.map (layNew slot H (.map kt vt [] [] 0)).1) := by
  have hrun : (Instr.makeMap t none).run P w = .ok (.map (some w.heap.size)) (w.alloc (.map #[] 0)) := by
    simp [Instr.makeMap, Sem.run_bind]
  rw [hrun]
  obtain ⟨hl, hm⟩ := lay_slot hR hs (.map kt vt [] [] 0)
  have hst := hR.born (S' := S) hl hm (Born.alloc w (.map #[] 0)) (by simp) (fun _ _ h => h) (fun _ _ h _ => h) (fun j h => absurd (cell_lt (hR.sett _ _ h)) (Nat.lt_irrefl _)) (fun b j h => Nat.le_of_lt (cell_lt (hR.sett _ _ h)))
    ⟨w.heap.size, #[], by simp [muPut], hR.size, alloc_new _ _, by simpa using RepL.nil false, by simpa using RepL.nil false, rfl⟩
  exact ⟨_, _, _, _, rfl, hst, Gaps.lay, .map _ _ (by simp [muPut])⟩

/-! ### stores -/
theorem setCells_heap (b : Nat) : ∀ (vs : List Value) (o : Nat) (w : World), (∀ b', b' ≠ b → (w.setCells b o vs).heap[b']? = w.heap[b']?) ∧ (w.setCells b o vs).heap.size = w.heap.size ∧
    (w.setCells b o vs).os = w.os ∧ (w.setCells b o vs).tape = w.tape ∧ (w.setCells b o vs).output = w.output ∧ (∀ b' e n, Shape w b' e n → Shape (w.setCells b o vs) b' e n) ∧ (∀ (b' : Nat) (r : Loop), w.heap[b']? = some (Obj.loop r) → ∃ r', (w.setCells b o vs).heap[b']? = some (Obj.loop r'))
  | [], o, w => ⟨fun _ _ => rfl, rfl, rfl, rfl, rfl, fun _ _ _ h => h, fun _ r h => ⟨r, h⟩⟩
  | v :: vs, o, w => by
    obtain ⟨h1, h2, h3, h4, h5, h6, h7⟩ := setCells_heap b vs (o + 1) (w.setCell ⟨b, o, none⟩ v)
    refine ⟨fun b' hb => (h1 b' hb).trans (Below.heap_setCell w ⟨b, o, none⟩ v b' hb), h2.trans (by simp [World.setCell]), h3.trans rfl, h4.trans rfl, h5.trans rfl, fun b' e n hs => h6 b' e n ?_, fun b' r hr => h7 b' r (by
      by_cases hb : b' = b
      · subst hb
        simp only [World.setCell, Array.getElem?_modify, hr]; simp
      · exact (Below.heap_setCell w ⟨b, o, none⟩ v b' hb).trans hr)⟩
    obtain ⟨arr, rng, hh, hn⟩ := hs
    by_cases hb : b' = b
    · subst hb
      exact ⟨arr.setIfInBounds o v, rng, by simp only [World.setCell, Array.getElem?_modify, hh]; simp, by simpa using hn⟩
    · exact ⟨arr, rng, (Below.heap_setCell w ⟨b, o, none⟩ v b' hb).trans hh, hn⟩

/-- Cells of a row that isn't frozen are written. -/
theorem put_row (hR : Rel P base m S H w) {nm : Nat} {e : TypeId} {cs : List AV} (hrow : H[nm]? = some (.row e cs false)) {b q n : Nat} {info : TypeInfo} (r : RowIn P base m S w nm e cs false b q n info)
    {off : Nat} {us : List Value} {ys : List AV} (hu : RepL m S w false us ys) (h1 : ∀ y ∈ ys, one y = true) (hl : off + ys.length ≤ cs.length) :
    Step P base m S H w m S (H.set nm (.row e (lay cs off ys) false)) (w.setCells b (q + off) us) := by
  have hlt : nm < H.length := (List.getElem?_eq_some_iff.1 hrow).1
  obtain ⟨g1, g2, g3, g4, g5, g6, g7⟩ := setCells_heap b us (q + off) w
  have hul := hu.length
  have hsome : ∀ j, j < cs.length → (w.cell? ⟨b, q + j, none⟩).isSome = true := fun j hj => by
    obtain ⟨v, hv, _⟩ := r.cells j cs[j] (by simp [hj])
    rw [hv]; rfl
  have hin : ∀ j (hj : j < us.length), (w.setCells b (q + off) us).cell? ⟨b, q + off + j, none⟩ = some us[j] := World.cell?_setCells_in b us (q + off) w (fun j hj => by
    have := hsome (off + j) (by omega)
    have e1 : q + (off + j) = q + off + j := by omega
    rwa [e1] at this)
  have hout : ∀ b' j, (b' = b → j < q + off ∨ q + off + us.length ≤ j) → (w.setCells b (q + off) us).cell? ⟨b', j, none⟩ = w.cell? ⟨b', j, none⟩ := fun b' j h =>
    World.cell?_setCells_out b us (q + off) w ⟨b', j, none⟩ (fun hb _ => h hb)
  have hS : ∀ b' j, S b' j → (w.setCells b (q + off) us).cell? ⟨b', j, none⟩ = w.cell? ⟨b', j, none⟩ := fun b' j hs => hout b' j (fun e => by subst e; exact absurd hs (r.uns rfl j))
  refine hR.touch ⟨_, hrow, by simp⟩ r.mu (fun k hk => by rw [List.getElem?_set_ne (Ne.symm hk)]) (by simp) (fun o ho => ?_) g1 g2 g6 hS g3 g4 g5 g7 (World.frozen?_setCells b us (q + off) w)
  rw [List.getElem?_set_self hlt] at ho
  cases ho
  have hll := lay_length hl
  refine ⟨b, q, n, info, r.mu, r.base, g6 _ _ _ r.shape, by rw [hll]; exact r.fits, fun j => by rw [World.frozen?_setCells]; exact r.free j, fun j x hx => ?_, r.info, (fun h => by cases h), fun _ => r.uns rfl, fun j hj => absurd hj (r.uns rfl j)⟩
  rw [lay_get hl] at hx
  split at hx
  · rename_i hc
    obtain ⟨v, a1, a2⟩ := hu.get hx
    have hlt2 := (List.getElem?_eq_some_iff.1 a1).1
    have e1 : q + j = q + off + (j - off) := by omega
    refine ⟨v, ?_, Rep.keep (fun _ _ h => h) (fun _ _ h => h) hS g6 a2, h1 x (List.mem_of_getElem? hx)⟩
    rw [e1, hin _ hlt2]
    rw [List.getElem?_eq_getElem hlt2] at a1
    exact a1
  · rename_i hc
    obtain ⟨v, a1, a2, a3⟩ := r.cells j x hx
    refine ⟨v, ?_, Rep.keep (fun _ _ h => h) (fun _ _ h => h) hS g6 a2, a3⟩
    rw [hout b (q + j) (fun _ => by omega)]
    exact a1

theorem there_row {nm : Nat} {e : TypeId} {cs : List AV} {fr : Bool} {b q n : Nat} {info : TypeInfo} (r : RowIn P base m S w nm e cs fr b q n info) {off k : Nat} (hl : off + k ≤ cs.length) : w.there b (q + off) k := by
  intro j hj
  obtain ⟨v, hv, _⟩ := r.cells (off + j) cs[off + j] (by simp [show off + j < cs.length by omega])
  have e1 : q + (off + j) = q + off + j := by omega
  rw [e1] at hv
  have := r.fits
  exact ⟨by rw [hv]; rfl, r.free _⟩

theorem store_ok (hE : EnvOk P E) (hR : Rel P base m S H w) {t : TypeId} {p' v' : Value} {p v x : AV} {nm : Nat} {o : AO} {acc : Acc} (hp : Rep m S w false p' p) (hv : Rep m S w false v' v) (h : storeA E H t p v = some (.put nm o x, acc)) :
    ∃ w' m' S', (Instr.storeAt t p' v').run P w = .ok () w' ∧ Step P base m S H w m' S' (H.set nm o) w' ∧ Gaps slot m H m' (H.set nm o) ∧ x = .tup [] := by
  unfold storeA at h
  cases hi : E.ty t with
  | none => simp [hi] at h
  | some i =>
    simp only [hi, Option.bind_eq_bind, Option.bind_some] at h
    obtain ⟨info, hinf, hsz, _⟩ := ty_info (hE.ty t i hi)
    cases hp with
    | loc nm0 off b q hm =>
      simp only at h
      split at h
      · rename_i e cs hrow
        split at h
        · rename_i hc
          simp at h
          obtain ⟨⟨rfl, rfl, rfl⟩, _⟩ := h
          obtain ⟨b', q', n, inf2, r⟩ := hR.obj nm0 _ hrow
          have hmu := r.mu
          rw [hm] at hmu; cases hmu
          obtain ⟨g1, g2, g3⟩ := cells_rep hv (by intro e; rw [e] at hc; simp at hc; omega)
          have hvs : v'.cells.size = i.size := by simpa [hc.1] using g3
          have hlen : off + (cellsOf v).length ≤ cs.length := by omega
          refine ⟨_, m, S, ?_, put_row hR hrow r g1 g2 hlen, fun k hlt hne hmk => ⟨hmk, fun hd => ?_⟩, rfl⟩
          · refine run_storeAt_mid w b (q + off) t v'.cells ?_ (by simp [hinf, hsz, hvs]) ?_
            · rw [hvs]; exact there_row r (by omega)
            · rw [← Array.all_toList, List.all_eq_true]
              exact repL_oneCell g1 g2
          · have : k ≠ nm0 := fun e => by subst e; rw [hrow] at hd; cases hd
            rw [List.getElem?_set_ne (Ne.symm this)]; exact hd
        · simp at h
      · simp at h
    | _ => simp at h
end ops
end Go.Px
