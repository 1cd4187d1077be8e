/- Operations that change the heap: new objects, stores, appends, copies, maps. -/
import Derived.Test.YtefondfmngjekaaGreatPxD
import Derived.MapKept
set_option linter.unusedVariables false
set_option linter.unusedSimpArgs false
namespace Go.Px
open Go Go.RowKit

section ops
variable {P : Program} {E : Env} {base : Nat} {m : Mu} {S : Sett} {H : Heap} {w : World}

/-- A key's type that is simple: as the model has it. -/
theorem same_ok {d : TypeDesc} {k' q' : Value} {k q : AV} {b : Bool} (hk : Rep m S w false k' k) (hq : Rep m S w false q' q) (h : keyEq (descA d) k q = some b) : Instr.sameNow d k' q' = some b := by
  cases d <;> simp only [descA] at h <;> first
    | (simp [keyEq] at h; done)
    | skip
  · cases k <;> first
      | (simp [keyEq] at h; done)
      | skip
    cases q <;> first
      | (simp [keyEq] at h; done)
      | skip
    obtain rfl := rep_bool hk; obtain rfl := rep_bool hq
    simpa [keyEq, Instr.sameNow] using h
  · cases k <;> first
      | (simp [keyEq] at h; done)
      | skip
    cases q <;> first
      | (simp [keyEq] at h; done)
      | skip
    obtain rfl := rep_int hk; obtain rfl := rep_int hq
    simpa [keyEq, Instr.sameNow] using h
  · cases k <;> first
      | (simp [keyEq] at h; done)
      | skip
    cases q <;> first
      | (simp [keyEq] at h; done)
      | skip
    obtain ⟨sa, rfl, ha⟩ := rep_str hk
    obtain ⟨sb, rfl, hb⟩ := rep_str hq
    have he := bytes_eq sa.data.toList sb.data.toList
    rw [ha, hb] at he
    simp only [keyEq] at h
    simp only [Instr.sameNow]
    rw [beq_toListBytes, Lib.toList_data, Lib.toList_data, he]
    exact h

theorem find_ok {d : TypeDesc} {k' : Value} {k : AV} (hk : Rep m S w false k' k) : ∀ {es' : List MapEntry} {es : List (AV × AV)} {i : Nat}, RepL m S w false (es'.map (·.key)) (es.map (·.1)) → RepL m S w false (es'.map (·.val)) (es.map (·.2)) →
    (findA (descA d) k es i = some none → Instr.findNow d k' es' i = some none) ∧
    (∀ j v, findA (descA d) k es i = some (some (j, v)) → ∃ v', Instr.findNow d k' es' i = some (some (j, v')) ∧ Rep m S w false v' v ∧ i ≤ j ∧ j < i + es.length)
  | [], [], i, _, _ => ⟨fun _ => rfl, fun j v h => by simp [findA] at h⟩
  | [], _ :: _, i, h, _ => by cases h
  | _ :: _, [], i, h, _ => by cases h
  | e :: es', (q, u) :: es, i, h1, h2 => by
    cases h1 with
    | cons _ _ _ _ _ hq t1 =>
      cases h2 with
      | cons _ _ _ _ _ hu t2 =>
        obtain ⟨g1, g2⟩ := find_ok (d := d) hk (i := i + 1) t1 t2
        simp only [findA]
        cases hke : keyEq (descA d) k q with
        | none => exact ⟨fun h => by simp at h, fun j v h => by simp at h⟩
        | some b =>
          have hs := same_ok hk hq hke
          cases b with
          | true =>
            refine ⟨fun h => by simp at h, fun j v h => ?_⟩
            simp at h
            obtain ⟨rfl, rfl⟩ := h
            exact ⟨e.val, by simp [Instr.findNow, hs], hu, Nat.le_refl _, by simp⟩
          | false =>
            refine ⟨fun h => by simpa [Instr.findNow, hs] using g1 h, fun j v h => ?_⟩
            obtain ⟨v', a1, a2, a3, a4⟩ := g2 j v h
            exact ⟨v', by simpa [Instr.findNow, hs] using a1, a2, by omega, by simp; omega⟩

theorem check_simple {t : TypeId} {d : TypeDesc} (hu : P.underlying t = some d) (hd : simpleKey (descA d) = true) (b : Bool) (k : Value) (w : World) : (Instr.checkKey b 10000 t k).run P w = .ok () w := by
  unfold Instr.checkKey
  rw [Sem.run_bind, run_underlying hu]
  cases d <;> simp [descA, simpleKey] at hd <;> rfl

theorem zero_val {t : TypeId} {i : TyI} (ht : TyOk P t i) {y : AV} (hy : mkV i.desc.isAgg i.zero = some y) : ∃ z, (zeroValue t).run P w = .ok z w ∧ Rep m S w false z y := by
  obtain ⟨ds, info, z, hu, hinf, hd, hs, hby, hz, hzc, hz1, hzl, hag, hnag, hst, hcm⟩ := ht
  have hzr : RepL m S w false z.cells.toList i.zero := (zero_rep hzc hz1).weak
  refine ⟨z, by simp [zeroValue, typeInfo, hinf, hz], ?_⟩
  rcases mkV_some hy with ⟨ha, rfl⟩ | ⟨ha, e⟩
  · obtain ⟨cs, rfl⟩ := hag ha
    have := Rep.agg false cs.toList i.zero (by simpa [Value.cells] using hzr) hz1
    simpa using this
  · obtain ⟨_, hc⟩ := hnag ha
    rw [hc, e] at hzr
    cases hzr with
    | cons _ _ _ _ _ h _ => exact h

theorem lookup_ok (hE : EnvOk P E) (hR : Rel P base m S H w) {t : TypeId} {x' k' : Value} {x k r : AV} {ok : Bool} {acc : Acc} (hx : Rep m S w false x' x) (hk : Rep m S w false k' k) (h : lookupA E H t x k ok = some (r, acc)) :
    ∃ v', (Instr.lookup t x' k' ok).run P w = .ok v' w ∧ Rep m S w false v' r := by
  unfold lookupA at h
  cases hi : E.ty t with
  | none => simp [hi] at h
  | some i =>
    simp only [hi, Option.bind_eq_bind, Option.bind_some] at h
    obtain ⟨ds, info, z, hu, hinf, hd, _⟩ := hE.ty t i hi
    split at h
    · rename_i kt vt hds
      obtain rfl := desc_map (hd.symm.trans hds)
      cases hki : E.ty kt with
      | none => simp [hki] at h
      | some ki =>
        simp only [hki, Option.bind_some] at h
        cases hvi : E.ty vt with
        | none => simp [hvi] at h
        | some vi =>
          simp only [hvi, Option.bind_some] at h
          split at h
          · cases h
          · rename_i hsk
            have hsk' : simpleKey ki.desc = true := by simpa using hsk
            obtain ⟨dk, ik, zk, huk, hik, hdk, _⟩ := hE.ty kt ki hki
            have key : ∀ (es : List (AV × AV)) (es' : Array MapEntry) (acc acc1 : Acc), RepL m S w false (es'.toList.map (·.key)) (es.map (·.1)) → RepL m S w false (es'.toList.map (·.val)) (es.map (·.2)) →
                ((findA ki.desc k es 0).bind fun q => match q with
                  | some (_, v) => some (if ok then AV.tup [v, .bool true] else v, acc)
                  | none => (mkV vi.desc.isAgg vi.zero).bind fun z => some (if ok then .tup [z, .bool false] else z, acc)) = some (r, acc1) →
                ∃ v', (do Instr.checkKey es'.isEmpty 10000 kt k'
                          let (v, o) ← match ← Instr.findKey kt k' es'.toList with
                            | some (_, v) => pure (v, true)
                            | none => pure (← zeroValue vt, false)
                          pure (if ok then Value.tuple #[v, .bool o] else v) : Sem Value).run P w = .ok v' w ∧ Rep m S w false v' r := by
              intro es es' acc acc1 h1 h2 hf
              obtain ⟨g1, g2⟩ := find_ok (d := dk) hk (i := 0) h1 h2
              have hck := check_simple (P := P) huk (hdk ▸ hsk') es'.isEmpty k' w
              rw [hdk] at hf
              cases hfa : findA (descA dk) k es 0 with
              | none => simp [hfa] at hf
              | some q =>
                cases q with
                | none =>
                  simp only [hfa, Option.bind_some] at hf
                  cases hm : mkV vi.desc.isAgg vi.zero with
                  | none => simp [hm] at hf
                  | some y =>
                    simp [hm] at hf; obtain ⟨rfl, _⟩ := hf
                    obtain ⟨zz, z1, z2⟩ := zero_val (P := P) (m := m) (S := S) (w := w) (hE.ty vt vi hvi) hm
                    have hfn := g1 hfa
                    cases ok with
                    | true => exact ⟨.tuple #[zz, .bool false], by simp [Sem.run_bind, hck, Instr.findKey, run_underlying huk, hfn, z1], .tup false [zz, .bool false] _ (.cons _ _ _ _ _ z2 (.cons _ _ _ _ _ (.bool _ _) (.nil _)))⟩
                    | false => exact ⟨zz, by simp [Sem.run_bind, hck, Instr.findKey, run_underlying huk, hfn, z1], z2⟩
                | some p =>
                  obtain ⟨j, v⟩ := p
                  simp only [hfa, Option.bind_some] at hf
                  simp at hf; obtain ⟨rfl, _⟩ := hf
                  obtain ⟨v', a1, a2, _⟩ := g2 j v hfa
                  cases ok with
                  | true => exact ⟨.tuple #[v', .bool true], by simp [Sem.run_bind, hck, Instr.findKey, run_underlying huk, a1], .tup false [v', .bool true] _ (.cons _ _ _ _ _ a2 (.cons _ _ _ _ _ (.bool _ _) (.nil _)))⟩
                  | false => exact ⟨v', by simp [Sem.run_bind, hck, Instr.findKey, run_underlying huk, a1], a2⟩
            cases hx with
            | nilmap =>
              simp only [Option.bind_some] at h
              obtain ⟨v', a1, a2⟩ := key [] #[] Acc.none acc (by simpa using RepL.nil false) (by simpa using RepL.nil false) (by simp only [Option.pure_def] at h; exact h)
              refine ⟨v', ?_, a2⟩
              rw [← a1]
              rw [Instr.lookup, Sem.run_bind, run_underlying hu, Result.andThen_ok]
              rfl
            | map nm b hb =>
              simp only at h
              cases hH : H[nm]? with
              | none => simp [hH] at h
              | some ob =>
                cases ob with
                | map kt' vt' es bs ck =>
                  simp only [hH] at h
                  split at h
                  · rename_i hkk
                    obtain ⟨b', es', q1, q2, q3, q4, q5, _⟩ := hR.obj nm _ hH
                    rw [hb] at q1; cases q1
                    obtain ⟨v', a1, a2⟩ := key es es' (Acc.read nm) acc q4 q5 (by simp only [Option.pure_def] at h; exact h)
                    refine ⟨v', ?_, a2⟩
                    rw [← a1]
                    rw [Instr.lookup, Sem.run_bind, run_underlying hu, Result.andThen_ok]
                    simp only [getObj, Sem.run_bind, Sem.run, q3, Result.andThen_ok]
                    rfl
                  · simp at h
                | _ => simp [hH] at h
            | _ => simp at h
    · cases h

/-! ### new objects -/
/-- Where a new name's object is laid. -/
structure SlotOk (m : Mu) (H : Heap) (slot : Option Nat) : Prop where
  free : ∀ nm, slot = some nm → H[nm]? = some .dead ∧ m nm = none

theorem lay_slot {slot : Option Nat} (hR : Rel P base m S H w) (hs : SlotOk m H slot) (o : AO) : Lay H (layNew slot H o).1 o (layNew slot H o).2 ∧ m (layNew slot H o).1 = none := by
  cases slot with
  | none =>
    refine ⟨Lay.append H o, ?_⟩
    cases hm : m H.length with
    | none => exact hm
    | some p => exact absurd (hR.dom _ _ hm) (Nat.lt_irrefl _)
  | some nm =>
    obtain ⟨h1, h2⟩ := hs.free nm rfl
    exact ⟨Lay.set h1 o, h2⟩

def calmO : Obj → Bool
  | .cells _ _ (0, 0) => true
  | .cells _ _ _ => false
  | _ => true

theorem froz_alloc (w : World) (o : Obj) (h : calmO o = true) (a : Addr) : (w.alloc o).frozen? a = w.frozen? a := by
  by_cases hb : a.block < w.heap.size
  · simp [World.frozen?, Below.heap_alloc w o a.block hb]
  · have h1 : w.heap[a.block]? = none := Array.getElem?_eq_none (by omega)
    have h2 : (w.alloc o).heap[a.block]? = if a.block = w.heap.size then some o else none := by
      show (w.heap.push o)[a.block]? = _
      rw [Array.getElem?_push]
      split
      · rfl
      · exact h1
    simp only [World.frozen?, h1, h2]
    by_cases he : a.block = w.heap.size
    · rw [if_pos he]
      cases o with
      | cells c e rng =>
        obtain ⟨lo, hi⟩ := rng
        cases lo with
        | succ n => simp [calmO] at h
        | zero =>
          cases hi with
          | succ n => simp [calmO] at h
          | zero => simp
      | _ => rfl
    · rw [if_neg he]

theorem Born.alloc (w : World) (o : Obj) (h : calmO o = true := by rfl) : Born w (w.alloc o) :=
  ⟨by show (w.heap.push o).size = _; simp, fun b hb => Below.heap_alloc w o b hb, rfl, rfl, rfl, froz_alloc w o h⟩
theorem Born.drew {w w' : World} (h : Born w.drew w') : Born w w' := ⟨h.size, h.old, h.os, h.tape, h.output, h.froz⟩

theorem alloc_new (w : World) (o : Obj) : (w.alloc o).heap[w.heap.size]? = some o := by
  show (w.heap.push o)[w.heap.size]? = _
  simp

/-- A new row of cells, laid under a new name. -/
theorem Rel.newRow {slot : Option Nat} (hR : Rel P base m S H w) (hs : SlotOk m H slot) {w' : World} (hb : Born w w') {e : TypeId} {arr : Array Value} {rng : Nat × Nat} {info : TypeInfo} (hh : w'.heap[w.heap.size]? = some (.cells arr e rng))
    (hfr : ∀ j, w'.frozen? ⟨w.heap.size, j, none⟩ = false) (hi : P.info? e = some info) {vs : List Value} {cs : List AV} (hv : RepL m S w false vs cs) (h1 : ∀ y ∈ cs, one y = true)
    (ha : ∀ (j : Nat) (v : Value), vs[j]? = some v → arr[j]? = some v) (fr : Bool) (hS : fr = true → True) :
    ∃ S', Step P base m S H w (muPut m (layNew slot H (.row e cs fr)).1 w.heap.size 0) S' (layNew slot H (.row e cs fr)).2 w' := by
  obtain ⟨hl, hm⟩ := lay_slot hR hs (.row e cs fr)
  have hlen : vs.length ≤ arr.size := by
    rcases Nat.lt_or_ge arr.size vs.length with hlt | hge
    · have := ha arr.size (vs[arr.size]'hlt) (by simp [hlt])
      simp at this
    · exact hge
  have hcl := hv.length
  let S' : Sett := fun b j => S b j ∨ (b = w.heap.size ∧ fr = true ∧ j < cs.length)
  have hcell : ∀ j, w'.cell? ⟨w.heap.size, j, none⟩ = arr[j]? := fun j => by simp [World.cell?, hh]
  have hSb : ∀ b j, S b j → b < w.heap.size := fun b j h => cell_lt (hR.sett b j h)
  refine ⟨S', hR.born hl hm hb (by simp) (fun b j h => .inl h) (fun b j h hlt => h.resolve_right (fun q => by omega)) (fun j h => ?_) (fun b j h => ?_) ?_⟩
  · rcases h with h | ⟨_, _, h⟩
    · exact absurd (hSb _ _ h) (Nat.lt_irrefl _)
    · rw [hcell, Array.getElem?_eq_getElem (by omega)]; rfl
  · rcases h with h | ⟨h, _⟩
    · exact Nat.le_of_lt (hSb _ _ h)
    · omega
  · refine ⟨w.heap.size, 0, arr.size, info, by simp [muPut], hR.size, ⟨arr, rng, hh, rfl⟩, by omega, hfr, fun j x hx => ?_, hi, fun hf j hj => .inr ⟨rfl, hf, by simpa using hj⟩, fun hf j h => ?_, fun j h => ?_⟩
    · obtain ⟨v, g1, g2⟩ := hv.get hx
      refine ⟨v, by rw [hcell]; simpa using ha j v g1, ?_, h1 x (List.mem_of_getElem? hx)⟩
      refine Rep.keep (fun k p e => ?_) (fun b j h => .inl h) (fun b j h => hb.cell (hSb b j h) j) (fun b e n h => hb.shape h) g2
      unfold muPut; split
      · rename_i hk; subst hk; rw [hm] at e; cases e
      · exact e
    · rcases h with h | ⟨_, h, _⟩
      · exact absurd (hSb _ _ h) (Nat.lt_irrefl _)
      · rw [hf] at h; cases h
    · rcases h with h | ⟨_, _, h⟩
      · exact absurd (hSb _ _ h) (Nat.lt_irrefl _)
      · simpa using h
end ops
end Go.Px
