/- More operations: walks over maps, entries, deletions, makes, capacities, clears. -/
import Derived.Test.YtefondfmngjekaaGreatPxG
import Derived.Test.YtefondfmngjekaaGreatPxFa
import Derived.Laws.MakeOwn
import Derived.Lib.AppendZeros
set_option linter.unusedVariables false
set_option linter.unusedSimpArgs false
namespace Go.Px
open Go Go.RowKit

section ops
variable {P : Program} {E : Env} {base : Nat} {m : Mu} {S : Sett} {H : Heap} {w : World} {slot : Option Nat}

theorem rep_nilmap {nf : Bool} {v : Value} (h : Rep m S w nf v .nilmap) : v = .map none := by cases h; rfl
theorem rep_map {nf : Bool} {v : Value} {nm : Nat} (h : Rep m S w nf v (.map nm)) : ∃ b, v = .map (some b) ∧ m nm = some (b, 0) := by cases h; exact ⟨_, rfl, by assumption⟩
theorem rep_loc {nf : Bool} {v : Value} {nm off : Nat} (h : Rep m S w nf v (.loc nm off)) : ∃ b o, v = .pointer (some ⟨b, o + off, none⟩) ∧ m nm = some (b, o) := by cases h; exact ⟨_, _, rfl, by assumption⟩

theorem set_gaps {nm : Nat} {o0 o : AO} (hH : H[nm]? = some o0) (hne : o0 ≠ .dead) : Gaps slot m H m (H.set nm o) := fun k hlt hk hm => ⟨hm, fun hd => by
  have : k ≠ nm := fun e => by subst e; rw [hH] at hd; cases hd; exact hne rfl
  rw [List.getElem?_set_ne (Ne.symm this)]; exact hd⟩

/-- A new walk. -/
theorem iter_new (hR : Rel P base m S H w) (hs : SlotOk m H slot) {mp : Option Nat} {mb : Option Nat} {since last : Nat} (hm : MpOk m mp mb) :
    Out P base slot m S H w ((do pure (.pointer (some ⟨← newObj (.mapIter mb since #[] last), 0, none⟩)) : Sem Value).run P w) (layNew slot H (.iter mp since [] last)).2 (.loc (layNew slot H (.iter mp since [] last)).1 0) := by
  have hrun : (do pure (.pointer (some ⟨← newObj (.mapIter mb since #[] last), 0, none⟩)) : Sem Value).run P w = .ok (.pointer (some ⟨w.heap.size, 0, none⟩)) (w.alloc (.mapIter mb since #[] last)) := by
    simp [Sem.run_bind]
  rw [hrun]
  obtain ⟨hl, hmn⟩ := lay_slot hR hs (.iter mp since [] last)
  have hst := hR.born (S' := S) hl hmn (Born.alloc w (.mapIter mb since #[] last)) (by simp) (fun _ _ h => h) (fun _ _ h _ => h) (fun j h => absurd (cell_lt (hR.sett _ _ h)) (Nat.lt_irrefl _)) (fun b j h => Nat.le_of_lt (cell_lt (hR.sett _ _ h)))
    ⟨w.heap.size, mb, by simp [muPut], hR.size, alloc_new _ _, by
      cases mp with
      | none => exact hm
      | some mn =>
        obtain ⟨c, h1, h2⟩ := hm
        refine ⟨c, ?_, h2⟩
        unfold muPut; split
        · rename_i hk; rw [← hk, h1] at hmn; cases hmn
        · exact h1⟩
  refine ⟨_, _, _, _, rfl, hst, Gaps.lay, ?_⟩
  simpa using Rep.loc (S := S) (w := w.alloc (.mapIter mb since #[] last)) _ 0 w.heap.size 0 (by simp [muPut])

theorem range_ok (hE : EnvOk P E) (hR : Rel P base m S H w) (hs : SlotOk m H slot) {t : TypeId} {x' : Value} {x : AV} {eff : Eff} {acc : Acc} (hx : Rep m S w false x' x) (h : xRange E H t [x] = some (eff, acc)) :
    EffOk P base slot m S H w ((Instr.range t x').run P w) eff := by
  unfold xRange at h
  split at h
  · rename_i he
    cases he
    obtain rfl := rep_nilmap hx
    simp only [Option.bind_eq_some_iff] at h
    obtain ⟨i, hi, h⟩ := h
    obtain ⟨d, _, _, hu, _, hd, _⟩ := hE.ty t i hi
    split at h
    · rename_i k v hds
      obtain rfl := desc_map (hd.symm.trans hds)
      simp at h; obtain ⟨rfl, _⟩ := h
      have := iter_new (P := P) (since := 0) (last := 0) hR hs (mp := none) (mb := none) rfl
      simp only [EffOk]
      simpa [Instr.range, Sem.run_bind, run_underlying hu] using this
    · cases h
  · rename_i mn he
    cases he
    obtain ⟨b, rfl, hb⟩ := rep_map hx
    simp only [Option.bind_eq_some_iff] at h
    obtain ⟨i, hi, h⟩ := h
    obtain ⟨d, _, _, hu, _, hd, _⟩ := hE.ty t i hi
    split at h
    · rename_i k v kt vt es bs ck hds hH
      obtain rfl := desc_map (hd.symm.trans hds)
      simp at h; obtain ⟨rfl, _⟩ := h
      obtain ⟨b', es', q1, q2, q3, _⟩ := hR.obj mn _ hH
      rw [hb] at q1; cases q1
      have := iter_new (P := P) (since := ck) (last := ck) hR hs (mp := some mn) (mb := some b) ⟨b, hb, rfl⟩
      simp only [EffOk]
      simpa [Instr.range, Sem.run_bind, run_underlying hu, getObj, Sem.run, q3] using this
    · cases h
  · cases h

theorem any_contains (n : Nat) : ∀ seen : List Nat, (seen.any fun x => Nat.beq x n) = seen.contains n
  | [] => rfl
  | y :: ys => by
    simp only [List.any_cons, List.contains_cons]
    rw [any_contains n ys]
    congr 1
    by_cases hy : y = n
    · subst hy; simp
    · have h1 : Nat.beq y n = false := by
        cases hb : Nat.beq y n with
        | false => rfl
        | true => exact absurd (Nat.eq_of_beq_eq_true hb) hy
      rw [h1]
      exact (beq_eq_false_iff_ne.2 (Ne.symm hy)).symm

/-- The entries that a walk hasn't met, in the model. -/
theorem left_ok {seen : List Nat} : ∀ {es' : List MapEntry} {es : List (AV × AV)} {bs : List Nat}, RepL m S w false (es'.map (·.key)) (es.map (·.1)) → RepL m S w false (es'.map (·.val)) (es.map (·.2)) → es'.map (·.born) = bs →
    ∃ L', (es'.filter fun e => !seen.toArray.contains e.born) = L' ∧ RepL m S w false (L'.map (·.key)) ((leftA seen es bs).map (·.1)) ∧ RepL m S w false (L'.map (·.val)) ((leftA seen es bs).map (·.2.1)) ∧ L'.map (·.born) = (leftA seen es bs).map (·.2.2)
  | [], [], bs, h1, h2, h3 => by subst h3; exact ⟨[], rfl, .nil _, .nil _, rfl⟩
  | [], _ :: _, bs, h1, h2, h3 => by cases h1
  | _ :: _, [], bs, h1, h2, h3 => by cases h1
  | e :: es', (k, v) :: es, bs, h1, h2, h3 => by
    subst h3
    simp only [List.map_cons] at h1 h2
    cases h1 with
    | cons _ _ _ _ _ hk hks =>
      cases h2 with
      | cons _ _ _ _ _ hv hvs =>
        obtain ⟨L', g1, g2, g3, g4⟩ := left_ok (seen := seen) hks hvs rfl
        have hc : (seen.any fun x => Nat.beq x e.born) = seen.toArray.contains e.born := by
          rw [List.contains_toArray, any_contains]
        simp only [List.map_cons, leftA, hc, List.filter_cons]
        cases hs : seen.toArray.contains e.born with
        | true => exact ⟨L', by simpa using g1, g2, g3, g4⟩
        | false => exact ⟨e :: L', by simp only [Bool.not_false, if_true]; rw [g1], .cons _ _ _ _ _ hk g2, .cons _ _ _ _ _ hv g3, by simp only [Bool.false_eq_true, if_false, List.map_cons, g4]⟩

/-- A walk's own object turns. -/
theorem iter_touch (hR : Rel P base m S H w) {nm b : Nat} {mp mb : Option Nat} {since last last2 : Nat} {seen seen2 : List Nat} (hH : H[nm]? = some (.iter mp since seen last)) (hm : m nm = some (b, 0)) (hw : w.heap[b]? = some (.mapIter mb since seen.toArray last)) (hmp : MpOk m mp mb) :
    Step P base m S H w m S (H.set nm (.iter mp since seen2 last2)) (w.putObj b (.mapIter mb since seen2.toArray last2)) := by
  have hlt : nm < H.length := (List.getElem?_eq_some_iff.1 hH).1
  have hbl : b < w.heap.size := (Array.getElem?_eq_some_iff.1 hw).1
  have hot : ∀ b', b' ≠ b → (w.putObj b (.mapIter mb since seen2.toArray last2)).heap[b']? = w.heap[b']? := fun b' h => World.putObj_heap_other h
  have hsm : (w.putObj b (.mapIter mb since seen2.toArray last2)).heap[b]? = some (.mapIter mb since seen2.toArray last2) := World.putObj_heap_same hbl
  have hshape : ∀ b' e n, Shape w b' e n → Shape (w.putObj b (.mapIter mb since seen2.toArray last2)) b' e n := fun b' e n ⟨arr, rng, h, hn⟩ => by
    have : b' ≠ b := fun e => by subst e; rw [hw] at h; cases h
    exact ⟨arr, rng, (hot b' this).trans h, hn⟩
  have hcell : ∀ b' j, S b' j → (w.putObj b (.mapIter mb since seen2.toArray last2)).cell? ⟨b', j, none⟩ = w.cell? ⟨b', j, none⟩ := fun b' j h => by
    have hne : b' ≠ b := fun e => by
      subst e
      have := hR.sett b' j h
      simp [World.cell?, hw] at this
    simp [World.cell?, hot b' hne]
  refine hR.touch ⟨_, hH, by simp⟩ hm (fun k hk => by rw [List.getElem?_set_ne (Ne.symm hk)]) (by simp) (fun o ho => ?_) hot World.putObj_size hshape hcell rfl rfl rfl (fun b' q hq => ?_) (fun x => ?_)
  · rw [List.getElem?_set_self hlt] at ho
    cases ho
    obtain ⟨b0, mb0, g1, g2, g3, g4⟩ := hR.obj nm _ hH
    rw [hm] at g1; cases g1
    exact ⟨b, mb, hm, g2, hsm, hmp⟩
  · have : b' ≠ b := fun e => by subst e; rw [hw] at hq; cases hq
    exact ⟨q, (hot b' this).trans hq⟩
  · by_cases hb : x.block = b
    · simp [World.frozen?, hb, hsm, hw]
    · simp [World.frozen?, hot _ hb]

theorem next_ok (hR : Rel P base m S H w) {x' : Value} {x : AV} {eff : Eff} {acc : Acc} {ty : TypeId} (hx : Rep m S w false x' x) (h : xNext H [x] = some (eff, acc)) :
    EffOk P base slot m S H w ((Instr.next x' false ty).run P w) eff := by
  unfold xNext at h
  split at h
  · rename_i nm he
    cases he
    obtain ⟨b, o, rfl, hb⟩ := rep_loc hx
    split at h
    · rename_i since seen last hH
      obtain ⟨b', mb, q1, q2, q3, q4⟩ := hR.obj nm _ hH
      rw [hb] at q1; cases q1
      obtain rfl : mb = none := q4
      simp at h; obtain ⟨rfl, _⟩ := h
      exact ⟨.tuple #[.bool false], by simp [Instr.next, getObj, Sem.run_bind, Sem.run, q3], .tup _ [_] [_] (.cons _ _ _ _ _ (.bool _ _) (.nil _))⟩
    · rename_i mn since seen last hH
      obtain ⟨b', mb, q1, q2, q3, c, q4, q5⟩ := hR.obj nm _ hH
      rw [hb] at q1; cases q1
      subst q5
      split at h
      · rename_i kt vt es bs ck hM
        obtain ⟨b2, es', r1, r2, r3, r4, r5, r6⟩ := hR.obj mn _ hM
        rw [q4] at r1; cases r1
        split at h
        · cases h
        · rename_i hg
          have hguard : (!seen.toArray.isEmpty && !es'.isEmpty && es'.all (fun e => decide (e.born ≥ last))) = false := by
            have hg' : (!seen.isEmpty && !bs.isEmpty && bs.all fun b => Nat.ble last b) = false := Bool.eq_false_iff.2 hg
            rw [← hg', ← r6]
            have e1 : es'.isEmpty = (es'.toList.map (·.born)).isEmpty := by
              cases es' with
              | mk l => cases l <;> rfl
            have e2 : es'.all (fun e => decide (e.born ≥ last)) = (es'.toList.map (·.born)).all fun b => Nat.ble last b := by
              rw [← Array.all_toList, List.all_map]
              congr 1
              funext e
              show decide (last ≤ e.born) = Nat.ble last e.born
              by_cases hle : last ≤ e.born
              · rw [decide_eq_true hle, Nat.ble_eq_true_of_le hle]
              · rw [decide_eq_false hle]
                cases hb2 : Nat.ble last e.born with
                | false => rfl
                | true => exact absurd (Nat.le_of_ble_eq_true hb2) hle
            rw [← e1, e2, List.isEmpty_toArray]
          obtain ⟨L', l1, l2, l3, l4⟩ := left_ok (seen := seen) r4 r5 r6
          have hleft : (es'.filter fun e => !seen.toArray.contains e.born) = L'.toArray := by
            apply Array.ext'
            rw [Array.toList_filter, l1]
          split at h
          · rename_i hL
            rw [hL] at l2 l4
            have : L' = [] := by simpa using l4
            subst this
            simp at h; obtain ⟨rfl, _⟩ := h
            refine ⟨.tuple #[.bool false], ?_, .tup _ [_] [_] (.cons _ _ _ _ _ (.bool _ _) (.nil _))⟩
            simp only [Instr.next, getObj, Sem.run_bind, Sem.run, q3, r3, Result.andThen_ok, hguard, Bool.false_eq_true, if_false, hleft]
            simp [choose, Sem.run, Question.forced]
          · rename_i k v b1 hL
            split at h
            · rename_i hlt
              have hlt' : b1 < since := Nat.le_of_ble_eq_true hlt
              rw [hL] at l2 l3 l4
              obtain ⟨e, rfl⟩ : ∃ e, L' = [e] := by
                have := congrArg List.length l4
                simp at this
                exact List.length_eq_one_iff.1 this
              simp only [List.map_cons, List.map_nil, List.cons.injEq, and_true] at l4
              cases l2 with
              | cons _ _ _ _ _ hk _ =>
                cases l3 with
                | cons _ _ _ _ _ hv _ =>
                  simp at h; obtain ⟨rfl, _⟩ := h
                  have hst := iter_touch (seen2 := seen ++ [b1]) (last2 := ck) hR hH hb q3 ⟨c, q4, rfl⟩
                  have hrun : (Instr.next (.pointer (some ⟨b, 0 + 0, none⟩)) false ty).run P w = .ok (.tuple #[.bool true, e.key, e.val]) (w.putObj b (.mapIter (some c) since (seen ++ [b1]).toArray ck)) := by
                    simp only [Instr.next, getObj, Sem.run_bind, Sem.run, q3, r3, Result.andThen_ok, hguard, Bool.false_eq_true, if_false, hleft, Nat.add_zero]
                    have h1 : decide (e.born < since) = true := decide_eq_true (by rw [l4]; exact hlt')
                    have h2 : decide (e.born ≥ since) = false := decide_eq_false (by rw [l4]; omega)
                    have f1 : (#[e] : Array MapEntry).filter (fun e => decide (e.born < since)) = #[e] := by apply Array.ext'; rw [Array.toList_filter]; simp only [List.filter_cons, h1]; rfl
                    have f2 : (#[e] : Array MapEntry).filter (fun e => decide (e.born ≥ since)) = #[] := by apply Array.ext'; rw [Array.toList_filter]; simp only [List.filter_cons, h2]; rfl
                    rw [show [e].toArray = #[e] from rfl, f1, f2]
                    simp [choose, Sem.run, Question.forced, setObj, q3, World.putObj, l4]
                  simp only [EffOk]
                  rw [hrun]
                  refine ⟨_, _, m, S, rfl, hst, set_gaps hH (by simp), .tup _ [_, _, _] [_, _, _] (.cons _ _ _ _ _ (.bool _ _) (.cons _ _ _ _ _ (hk.ext hst.ext) (.cons _ _ _ _ _ (hv.ext hst.ext) (.nil _))))⟩
            · cases h
          · cases h
      · cases h
    · cases h
  · cases h

/-- The entry that was born then, in the model. -/
theorem born_ok {stamp : Nat} : ∀ {es' : List MapEntry} {es : List (AV × AV)} {i j : Nat} {k v : AV}, RepL m S w false (es'.map (·.key)) (es.map (·.1)) → RepL m S w false (es'.map (·.val)) (es.map (·.2)) → bornA stamp es (es'.map (·.born)) i = some (j, k, v) →
    ∃ n e, j = i + n ∧ es'.find? (fun e => e.born == stamp) = some e ∧ es'.findIdx? (fun e => e.born == stamp) = some n ∧ es'[n]? = some e ∧ es[n]? = some (k, v) ∧ Rep m S w false e.key k ∧ Rep m S w false e.val v
  | [], es, i, j, k, v, h1, h2, h => by cases es <;> simp [bornA] at h
  | e :: es', [], i, j, k, v, h1, h2, h => by cases h1
  | e :: es', (k0, v0) :: es, i, j, k, v, h1, h2, h => by
    simp only [List.map_cons] at h1 h2 h
    cases h1 with
    | cons _ _ _ _ _ hk hks =>
      cases h2 with
      | cons _ _ _ _ _ hv hvs =>
        simp only [bornA] at h
        cases hb : Nat.beq e.born stamp with
        | true =>
          simp only [hb, if_true, Option.some.injEq, Prod.mk.injEq] at h
          obtain ⟨rfl, rfl, rfl⟩ := h
          have he : (e.born == stamp) = true := by rw [Nat.eq_of_beq_eq_true hb]; simp
          exact ⟨0, e, rfl, by rw [List.find?_cons, he], by rw [List.findIdx?_cons, he]; rfl, rfl, rfl, hk, hv⟩
        | false =>
          simp only [hb, Bool.false_eq_true, if_false] at h
          obtain ⟨n, e1, rfl, g1, g2, g3, g4, g5, g6⟩ := born_ok hks hvs h
          have he : (e.born == stamp) = false := by
            refine beq_eq_false_iff_ne.2 fun q => ?_
            rw [q] at hb
            simp at hb
          exact ⟨n + 1, e1, by omega, by rw [List.find?_cons, he]; exact g1, by rw [List.findIdx?_cons, he]; simp [g2], by simpa using g3, by simpa using g4, g5, g6⟩

theorem entry_ok (hR : Rel P base m S H w) {x' : Value} {x : AV} {eff : Eff} {acc : Acc} (hx : Rep m S w false x' x) (h : xEntry H [x] = some (eff, acc)) :
    EffOk P base slot m S H w ((Instr.entry x').run P w) eff := by
  unfold xEntry at h
  split at h
  · rename_i nm he
    cases he
    obtain ⟨b, o, rfl, hb⟩ := rep_loc hx
    split at h
    · rename_i mn since seen last hH
      obtain ⟨b', mb, q1, q2, q3, c, q4, q5⟩ := hR.obj nm _ hH
      rw [hb] at q1; cases q1
      subst q5
      split at h
      · rename_i kt vt es bs ck stamp hM hseen
        obtain ⟨b2, es', r1, r2, r3, r4, r5, r6⟩ := hR.obj mn _ hM
        rw [q4] at r1; cases r1
        split at h
        · rename_i hck
          obtain rfl := Nat.eq_of_beq_eq_true hck
          simp only [Option.map_eq_some_iff] at h
          obtain ⟨⟨j, k, v⟩, hbo, h⟩ := h
          cases h
          subst r6
          obtain ⟨n, e, _, g1, g2, g3, g4, g5, g6⟩ := born_ok r4 r5 hbo
          refine ⟨.tuple #[e.key, e.val], ?_, .tup _ [_, _] [_, _] (.cons _ _ _ _ _ g5 (.cons _ _ _ _ _ g6 (.nil _)))⟩
          have hback : seen.toArray.back? = some stamp := by rw [List.back?_toArray]; exact hseen
          have hf : es'.find? (fun e => e.born == stamp) = some e := by rw [← Array.find?_toList]; exact g1
          simp only [Instr.entry, getObj, Sem.run_bind, Sem.run, q3, r3, Result.andThen_ok, hback, bne_self_eq_false, Bool.false_eq_true, if_false, hf]
          rfl
        · cases h
      · cases h
    · cases h
  · cases h

theorem map_runs {b : Nat} {es' : Array MapEntry} {ck : Nat} (q3 : w.heap[b]? = some (.map es' ck)) : (getObj b).run P w = .ok (.map es' ck) w ∧ ∀ o, (setObj b o).run P w = .ok () (w.putObj b o) :=
  ⟨by simp [getObj, Sem.run, q3], fun o => by simp [setObj, Sem.run, q3, World.putObj]⟩

theorem set_fst {es : List (AV × AV)} {n : Nat} {k v v2 : AV} (h : es[n]? = some (k, v)) : (es.set n (k, v2)).map (·.1) = es.map (·.1) := by
  rw [List.map_set]
  apply List.ext_getElem?
  intro i
  rw [List.getElem?_set, List.getElem?_map]
  split
  · rename_i hi
    subst hi
    have hl := (List.getElem?_eq_some_iff.1 h).1
    rw [if_pos (by simpa using hl), h]; rfl
  · rfl
theorem set_snd {es : List (AV × AV)} {n : Nat} {k k2 v : AV} (h : es[n]? = some (k, v)) : (es.set n (k2, v)).map (·.2) = es.map (·.2) := by
  rw [List.map_set]
  apply List.ext_getElem?
  intro i
  rw [List.getElem?_set, List.getElem?_map]
  split
  · rename_i hi
    subst hi
    have hl := (List.getElem?_eq_some_iff.1 h).1
    rw [if_pos (by simpa using hl), h]; rfl
  · rfl
theorem modify_same (l : List MapEntry) (j : Nat) (F : MapEntry → MapEntry) (g : MapEntry → Value) (hF : ∀ e, g (F e) = g e) : (l.modify j F).map g = l.map g := by
  apply List.ext_getElem?
  intro i
  rw [List.getElem?_map, List.getElem?_modify, List.getElem?_map]
  by_cases hj : j = i
  · subst hj
    cases l[j]? <;> simp [hF]
  · cases l[i]? <;> simp [hj]

theorem entryStore_ok (hR : Rel P base m S H w) {x' s' y' : Value} {x s y : AV} {eff : Eff} {acc : Acc} {t : TypeId} (hx : Rep m S w false x' x) (hs : Rep m S w false s' s) (hy : Rep m S w false y' y) (h : xEntryStore H [x, s, y] = some (eff, acc)) :
    ∃ nm o w', eff = .put nm o (.tup []) ∧ (Instr.entryStore t x' s' y').run P w = .ok () w' ∧ Step P base m S H w m S (H.set nm o) w' ∧ Gaps slot m H m (H.set nm o) := by
  unfold xEntryStore at h
  split at h
  · rename_i nm kk n v he
    cases he
    obtain ⟨b, rfl, hb⟩ := rep_map hx
    obtain rfl := rep_int hs
    split at h
    · rename_i kt vt es bs ck hH
      obtain ⟨b', es', q1, q2, q3, q4, q5, q6⟩ := hR.obj nm _ hH
      rw [hb] at q1; cases q1
      split at h
      · rename_i hn
        obtain ⟨n, rfl⟩ := Int.eq_ofNat_of_zero_le hn
        simp only [Option.map_eq_some_iff, Int.toNat_natCast] at h
        obtain ⟨⟨j, k, v0⟩, hbo, h⟩ := h
        cases h
        subst q6
        obtain ⟨i, e, hj, g1, g2, g3, g4, g5, g6⟩ := born_ok q4 q5 hbo
        simp only [Nat.zero_add] at hj; subst hj
        obtain ⟨hget, hset⟩ := map_runs (P := P) q3
        have hf : es'.findIdx? (fun e => (e.born : Int) == n) = some j := by
          rw [← List.findIdx?_toArray] at g2
          rw [← g2]
          congr 1
          funext e
          by_cases hq : e.born = n
          · simp [hq]
          · have h1 : ¬ ((e.born : Int) = (n : Int)) := fun q => hq (by omega)
            rw [beq_eq_false_iff_ne.2 hq]
            exact beq_eq_false_iff_ne.2 h1
        refine ⟨nm, _, w.putObj b (.map (es'.modify j fun e => { e with val := y' }) ck), rfl, ?_, map_touch hR hH hb q3 ?_ ?_ ?_, set_gaps hH (by simp)⟩
        · simp [Instr.entryStore, Sem.run_bind, hget, asInt, asIntOf, hf, hset]
        · rw [Array.toList_modify, modify_same _ _ (fun e => { e with val := y' }) _ (fun _ => rfl), set_fst g4]; exact q4
        · rw [Array.toList_modify, modify_map _ _ _ _ y' (fun _ => rfl), List.map_set]; exact q5.set j hy
        · rw [Array.toList_modify]; exact modify_born _ _ _ (fun _ => rfl)
      · cases h
    · cases h
  · cases h

/-- What a map's key finds in the model. -/
theorem key_runs (hE : EnvOk P E) {kt : TypeId} {ki : TyI} (hki : E.ty kt = some ki) (hsk : simpleKey ki.desc = true) {es' : Array MapEntry} {es : List (AV × AV)} {k' : Value} {k : AV} (hk : Rep m S w false k' k)
    (q4 : RepL m S w false (es'.toList.map (·.key)) (es.map (·.1))) (q5 : RepL m S w false (es'.toList.map (·.val)) (es.map (·.2))) {r : Option (Nat × AV)} (hf : findA ki.desc k es 0 = some r) :
    (∀ b, (Instr.checkKey b 10000 kt k').run P w = .ok () w) ∧ match r with
      | none => (Instr.findKey kt k' es'.toList).run P w = .ok none w
      | some (j, v) => ∃ v' qk q, (Instr.findKey kt k' es'.toList).run P w = .ok (some (j, v')) w ∧ Rep m S w false v' v ∧ es[j]? = some (q, v) ∧ ((es'[j]?).map (·.key)) = some qk ∧ Instr.sameBits 10000 qk k' = true ∧ j < es'.size := by
  obtain ⟨dk, ik, zk, huk, hik, hdk, _⟩ := hE.ty kt ki hki
  rw [hdk] at hf hsk
  refine ⟨fun b => check_simple (P := P) huk hsk b k' w, ?_⟩
  obtain ⟨g1, g2⟩ := find_ok (d := dk) hk (i := 0) q4 q5
  cases r with
  | none =>
    simp [Instr.findKey, Sem.run_bind, run_underlying huk, g1 hf]
  | some p =>
    obtain ⟨j, v⟩ := p
    obtain ⟨v', a1, a2, a3, a4⟩ := g2 j v hf
    obtain ⟨n, q, hn, hq, hke⟩ := findA_key hf
    simp only [Nat.zero_add] at hn; subst hn
    obtain ⟨qv, b1, b2⟩ := q4.get (i := j) (x := q) (by simp [hq])
    have hsame := same_bits hk b2 hke
    have hkey : (es'[j]?).map (·.key) = some qv := by
      rw [← Array.getElem?_toList, ← List.getElem?_map]; exact b1
    have hjl : j < es'.size := by
      have := (List.getElem?_eq_some_iff.1 b1).1
      simpa using this
    exact ⟨v', qv, q, by simp [Instr.findKey, Sem.run_bind, run_underlying huk, a1], a2, hq, hkey, hsame, hjl⟩

theorem modify_id (l : List MapEntry) (j : Nat) (c : Value) (h : (l.modify j fun e => { e with key := c }).map (·.val) = l.map (·.val)) : True := trivial

theorem mapEntry_ok (hE : EnvOk P E) (hR : Rel P base m S H w) {t : TypeId} {x' k' : Value} {x k : AV} {eff : Eff} {acc : Acc} (hx : Rep m S w false x' x) (hk : Rep m S w false k' k) (h : xMapEntry E H t [x, k] = some (eff, acc)) :
    EffOk P base slot m S H w ((Instr.mapEntry t x' k').run P w) eff := by
  unfold xMapEntry at h
  split at h
  · rename_i nm k0 he
    cases he
    obtain ⟨b, rfl, hb⟩ := rep_map hx
    simp only [Option.bind_eq_some_iff] at h
    obtain ⟨i, hi, h⟩ := h
    obtain ⟨d, _, _, hu, _, hd, _⟩ := hE.ty t i hi
    split at h
    · rename_i kt vt hds
      obtain rfl := desc_map (hd.symm.trans hds)
      simp only [Option.bind_eq_some_iff] at h
      obtain ⟨ki, hki, vi, hvi, h⟩ := h
      split at h
      · rename_i hsk
        split at h
        · rename_i kt' vt' es bs ck hH
          obtain ⟨b', es', q1, q2, q3, q4, q5, q6⟩ := hR.obj nm _ hH
          rw [hb] at q1; cases q1
          obtain ⟨hget, hset⟩ := map_runs (P := P) q3
          split at h
          · rename_i hkk
            subst hkk
            split at h
            · rename_i j v hf
              obtain ⟨hck, v', qk, q, a1, a2, a3, a4, a5, a6⟩ := key_runs hE hki hsk hk q4 q5 hf
              cases h
              have hst : Step P base m S H w m S (H.set nm (.map kt' vt' (es.set j (k, v)) bs ck)) (w.putObj b (.map (es'.modify j fun e => { e with key := k' }) ck)) := map_touch hR hH hb q3
                (by rw [Array.toList_modify, modify_map _ _ _ _ k' (fun _ => rfl), List.map_set]; exact q4.set j hk)
                (by rw [Array.toList_modify, modify_same _ _ (fun e => { e with key := k' }) _ (fun _ => rfl), set_snd a3]; exact q5)
                (by rw [Array.toList_modify, ← q6]; exact modify_born _ _ _ (fun _ => rfl))
              have hborn : ((es'[j]?).map fun e => (e.born : Int)).getD 0 = ((bs.getD j 0 : Nat) : Int) := by
                rw [← q6, List.getD_eq_getElem?_getD, List.getElem?_map, Array.getElem?_toList]
                cases es'[j]? <;> rfl
              refine ⟨.tuple #[v', .int .i64 (bs.getD j 0 : Nat)], _, m, S, ?_, hst, set_gaps hH (by simp), .tup _ [_, _] [_, _] (.cons _ _ _ _ _ (a2.ext hst.ext) (.cons _ _ _ _ _ (.int _ _ _) (.nil _)))⟩
              have hqk : ((es'[j]?).map (·.key)).getD k' = qk := by rw [a4]; rfl
              simp [Instr.mapEntry, Sem.run_bind, run_underlying hu, hget, hck, a1, Instr.keyThatStays, hqk, a5, hset, goInt]
              simpa using hborn
            · rename_i hf
              obtain ⟨hck, a1⟩ := key_runs hE hki hsk hk q4 q5 hf
              simp only [Option.bind_eq_some_iff] at h
              obtain ⟨z, hz, h⟩ := h
              cases h
              obtain ⟨z', hz', hzr⟩ := zero_val (m := m) (S := S) (w := w) (hE.ty vt vi hvi) hz
              have hst : Step P base m S H w m S (H.set nm (.map kt' vt' (es ++ [(k, z)]) (bs ++ [ck]) (ck + 1))) (w.putObj b (.map (es'.push { key := k', val := z', born := ck }) (ck + 1))) := map_touch hR hH hb q3
                (by simp only [Array.toList_push, List.map_append, List.map_cons, List.map_nil]; exact q4.append (.cons _ _ _ _ _ hk (.nil _)))
                (by simp only [Array.toList_push, List.map_append, List.map_cons, List.map_nil]; exact q5.append (.cons _ _ _ _ _ hzr (.nil _)))
                (by simp [q6])
              refine ⟨.tuple #[z', .int .i64 (ck : Nat)], _, m, S, ?_, hst, set_gaps hH (by simp), .tup _ [_, _] [_, _] (.cons _ _ _ _ _ (hzr.ext hst.ext) (.cons _ _ _ _ _ (.int _ _ _) (.nil _)))⟩
              simp [Instr.mapEntry, Sem.run_bind, run_underlying hu, hget, hck, a1, hz', hset, goInt]
            · cases h
          · cases h
        · cases h
      · cases h
    · cases h
  · cases h

theorem RepL.eraseIdx {nf : Bool} : ∀ {vs : List Value} {xs : List AV}, RepL m S w nf vs xs → ∀ i, RepL m S w nf (vs.eraseIdx i) (xs.eraseIdx i)
  | _, _, .nil _, _ => .nil _
  | _, _, .cons _ _ _ _ _ r t, 0 => t
  | _, _, .cons _ _ _ _ _ r t, i + 1 => .cons _ _ _ _ _ r (RepL.eraseIdx t i)

theorem map_eraseIdx {α β : Type} (f : α → β) : ∀ (l : List α) (i : Nat), (l.eraseIdx i).map f = (l.map f).eraseIdx i
  | [], _ => rfl
  | _ :: _, 0 => rfl
  | x :: l, i + 1 => by simp [List.eraseIdx, map_eraseIdx f l i]

theorem delete_ok (hE : EnvOk P E) (hR : Rel P base m S H w) {t ty : TypeId} {ts : List TypeId} {x' k' : Value} {x k : AV} {eff : Eff} {acc : Acc} (hx : Rep m S w false x' x) (hk : Rep m S w false k' k) (h : xDelete E H t [x, k] = some (eff, acc)) :
    EffOk P base slot m S H w ((Builtin.delete_ (t :: ts).toArray ty #[x', k']).run P w) eff := by
  unfold xDelete at h
  split at h
  · rename_i nm k0 he
    cases he
    obtain ⟨b, rfl, hb⟩ := rep_map hx
    simp only [Option.bind_eq_some_iff] at h
    obtain ⟨i, hi, h⟩ := h
    obtain ⟨d, _, _, hu, _, hd, _⟩ := hE.ty t i hi
    split at h
    · rename_i kt vt hds
      obtain rfl := desc_map (hd.symm.trans hds)
      simp only [Option.bind_eq_some_iff] at h
      obtain ⟨ki, hki, h⟩ := h
      split at h
      · rename_i hsk
        split at h
        · rename_i kt' vt' es bs ck hH
          obtain ⟨b', es', q1, q2, q3, q4, q5, q6⟩ := hR.obj nm _ hH
          rw [hb] at q1; cases q1
          obtain ⟨hget, hset⟩ := map_runs (P := P) q3
          split at h
          · rename_i hkk
            subst hkk
            split at h
            · rename_i j v hf
              obtain ⟨hck, v', qk, q, a1, a2, a3, a4, a5, a6⟩ := key_runs hE hki hsk hk q4 q5 hf
              cases h
              have hst : Step P base m S H w m S (H.set nm (.map kt' vt' (es.eraseIdx j) (bs.eraseIdx j) ck)) (w.putObj b (.map (es'.eraseIdxIfInBounds j) ck)) := map_touch hR hH hb q3
                (by rw [Array.toList_eraseIdxIfInBounds, map_eraseIdx, map_eraseIdx]; exact q4.eraseIdx j)
                (by rw [Array.toList_eraseIdxIfInBounds, map_eraseIdx, map_eraseIdx]; exact q5.eraseIdx j)
                (by rw [Array.toList_eraseIdxIfInBounds, map_eraseIdx, q6])
              refine ⟨.tuple #[], _, m, S, ?_, hst, set_gaps hH (by simp), .tup _ [] [] (.nil _)⟩
              simp [Builtin.delete_, Sem.run_bind, run_underlying hu, hget, hck, a1, hset]
            · rename_i hf
              obtain ⟨hck, a1⟩ := key_runs hE hki hsk hk q4 q5 hf
              cases h
              have hst : Step P base m S H w m S (H.set nm (.map kt' vt' es bs ck)) (w.putObj b (.map es' ck)) := map_touch hR hH hb q3 q4 q5 q6
              refine ⟨.tuple #[], _, m, S, ?_, hst, set_gaps hH (by simp), .tup _ [] [] (.nil _)⟩
              simp [Builtin.delete_, Sem.run_bind, run_underlying hu, hget, hck, a1, hset]
            · cases h
          · cases h
        · cases h
      · cases h
    · cases h
  · cases h

theorem makeSlice_ok (hE : EnvOk P E) (hR : Rel P base m S H w) (hs : SlotOk m H slot) {t : TypeId} {n' c' : Value} {n c : AV} {eff : Eff} {acc : Acc} (hn : Rep m S w false n' n) (hc : Rep m S w false c' c) (h : xMakeSlice E t [n, c] = some (eff, acc)) :
    EffOk P base slot m S H w ((Instr.makeSlice t n' c').run P w) eff := by
  unfold xMakeSlice at h
  split at h
  · rename_i k1 n k2 c he
    cases he
    obtain rfl := rep_int hn; obtain rfl := rep_int hc
    simp only [Option.bind_eq_some_iff] at h
    obtain ⟨i, hi, h⟩ := h
    obtain ⟨d, _, _, hu, _, hd, _⟩ := hE.ty t i hi
    split at h
    · rename_i e hds
      obtain rfl := desc_slice (hd.symm.trans hds)
      simp only [Option.bind_eq_some_iff] at h
      obtain ⟨ei, hei, h⟩ := h
      split at h
      · rename_i hcnd
        obtain ⟨h1, h2, h3, h4, h5⟩ := hcnd
        cases h
        obtain ⟨ze, hze, hzr, hz1, hzl, infe, hinfe, hze2⟩ := ty_zero (hE.ty e ei hei) m S w
        obtain ⟨infe', hie', hse, hbe⟩ := ty_info (hE.ty e ei hei)
        rw [hinfe] at hie'; cases hie'
        have hzs : ze.cells.size = ei.size := by have := hzr.length; simp at this; omega
        have hb' : (infe.bytes : Int) * c ≤ 281474976710656 := by
          rw [hbe, Int.mul_comm]
          unfold mostBytes at h3
          omega
        have hrun := run_make (P := P) w t e infe ze hu hinfe hze2 k1 k2 n c h1 h2 hb' (by unfold mostBytes at h4; omega)
        simp only [EffOk]
        rw [hrun]
        have hzz := zeros_rep (m := m) (S := S) (w := w) hzr (by omega) c.toNat
        rw [hse]
        have e1 : madeCells ze.cells (c.toNat * ei.size) = (Array.range (c.toNat * ze.cells.size)).map (ze.cells[· % ze.cells.size]!) := by rw [← hzs]; rfl
        rw [e1]
        refine out_row hR hs hinfe hzz (zerosA_one _ hz1 _) (fun j v hj => by rw [← Array.getElem?_toList]; exact hj) (.inl rfl) (fun nm => .own nm 0 n.toNat ei.size) _ (fun nm S' w' hm hsh => ?_)
        have hle : n.toNat ≤ c.toNat := by omega
        have := Rep.own (S := S') (w := w') nm 0 n.toNat ei.size c.toNat w.heap.size 0 hm hle ⟨e, _, hsh, by simp [hzs]⟩
        simpa using this
      · cases h
    · cases h
  · cases h

theorem cap_ok (hE : EnvOk P E) {t ty : TypeId} {ts : List TypeId} {x' : Value} {x : AV} {eff : Eff} {acc : Acc} (hx : Rep m S w false x' x) (h : xCap E t [x] = some (eff, acc)) :
    EffOk P base slot m S H w ((Builtin.cap_ (t :: ts).toArray ty #[x']).run P w) eff := by
  unfold xCap at h
  split at h
  · rename_i n cells he
    cases he
    simp only [Option.bind_eq_some_iff] at h
    obtain ⟨i, hi, h⟩ := h
    obtain ⟨d, _, _, hu, _, hd, _⟩ := hE.ty t i hi
    split at h
    · rename_i e hds
      obtain rfl := desc_slice (hd.symm.trans hds)
      cases h
      cases hx with
      | nilsl => exact ⟨.int .i64 (0 : Nat), by simp [Builtin.cap_, Sem.run_bind, run_underlying hu, goInt], .int _ _ _⟩
      | sl _ a n c cells full h1 h2 h3 =>
        obtain rfl := h2 rfl
        exact ⟨.int .i64 (c : Nat), by simp [Builtin.cap_, Sem.run_bind, run_underlying hu, goInt], .int _ _ _⟩
    · cases h
  · cases h

theorem clear_ok (hE : EnvOk P E) (hR : Rel P base m S H w) {t ty : TypeId} {ts : List TypeId} {x' : Value} {x : AV} {eff : Eff} {acc : Acc} (hx : Rep m S w false x' x) (h : xClear E H t [x] = some (eff, acc)) :
    EffOk P base slot m S H w ((Builtin.clear_ (t :: ts).toArray ty #[x']).run P w) eff := by
  unfold xClear at h
  split at h
  · rename_i cells full he
    cases he
    simp only [Option.bind_eq_some_iff] at h
    obtain ⟨i, hi, h⟩ := h
    obtain ⟨d, _, _, hu, _, hd, _⟩ := hE.ty t i hi
    split at h
    · rename_i e hds
      obtain rfl := desc_slice (hd.symm.trans hds)
      cases h
      refine ⟨.tuple #[], ?_, .tup _ [] [] (.nil _)⟩
      cases hx <;> simp [Builtin.clear_, Sem.run_bind, run_underlying hu]
    · cases h
  · rename_i nm off n sz he
    cases he
    simp only [Option.bind_eq_some_iff] at h
    obtain ⟨i, hi, h⟩ := h
    obtain ⟨d, _, _, hu, _, hd, _⟩ := hE.ty t i hi
    split at h
    · rename_i e hds
      obtain rfl := desc_slice (hd.symm.trans hds)
      simp only [Option.bind_eq_some_iff] at h
      obtain ⟨ei, hei, h⟩ := h
      split at h
      · rename_i hn0
        subst hn0
        cases h
        refine ⟨.tuple #[], ?_, .tup _ [] [] (.nil _)⟩
        cases hx with
        | own _ _ _ _ c b o h1 h2 h3 => simp [Builtin.clear_, Sem.run_bind, run_underlying hu]
        | own0 _ _ _ b o a h1 => cases a <;> simp [Builtin.clear_, Sem.run_bind, run_underlying hu]
      · rename_i hn0
        split at h
        · rename_i e' cs hrow
          split at h
          · rename_i hc
            obtain ⟨rfl, hc1, hc2⟩ := hc
            cases h
            cases hx with
            | own0 => exact absurd rfl hn0
            | own _ _ _ _ c b o h1 h2 h3 =>
              obtain ⟨ze, hze, hzr, hz1, hzl, infe, hinfe, hze2⟩ := ty_zero (hE.ty e ei hei) m S w
              have hzs : ze.cells.size = ei.size := by have := hzr.length; simp at this; omega
              obtain ⟨b', q', nb, inf2, r⟩ := hR.obj nm _ hrow
              have hmu := r.mu
              rw [h1] at hmu; cases hmu
              have hzz := zeros_rep (m := m) (S := S) (w := w) hzr (by omega) n
              have hzl2 : (zerosA ei.zero n).length = n * ei.size := by rw [zerosA_length, hzl]
              have hput := put_row hR hrow r hzz (zerosA_one _ hz1 n) (off := off) (by rw [hzl2]; exact hc1)
              have hzc : Builtin.zeroCells ze.cells n = (Array.range (n * ze.cells.size)).map (ze.cells[· % ze.cells.size]!) := rfl
              refine ⟨.tuple #[], _, m, S, ?_, hput, set_gaps hrow (by simp), .tup _ [] [] (.nil _)⟩
              have hlen : ((Array.range (n * ze.cells.size)).map (ze.cells[· % ze.cells.size]!)).toList.length = n * ei.size := by simp [hzs]
              have hst := run_storeCells_cells (P := P) b (o + off) ((Array.range (n * ze.cells.size)).map (ze.cells[· % ze.cells.size]!)).toList 0 w
                (fun j hj => (there_row r (off := off) (k := n * ei.size) (by omega) j (by omega)).1)
                (fun j hj => (there_row r (off := off) (k := n * ei.size) (by omega) j (by omega)).2)
                (repL_oneCell hzz (zerosA_one _ hz1 n))
              rw [← hzc] at hst
              simp only [Nat.add_zero] at hst
              obtain ⟨n', rfl⟩ : ∃ q, n = q + 1 := ⟨n - 1, by omega⟩
              simp [Builtin.clear_, Sem.run_bind, run_underlying hu, hze, hst, ← hzc]
          · cases h
        · cases h
    · cases h
  · cases h

theorem run_append_zeros0 (w : World) (t tn ty e : TypeId) (i : TypeInfo) (z : Value) (k kn : IntKind) (a : Option Addr) (ht : P.underlying t = some (.slice e)) (htn : P.underlying tn = some (.int kn)) (hi : P.info? e = some i) (hz : i.zero = some z)
    (n : Nat) (h0 : 0 < n) (hs : 0 < i.size) (h63 : (n : Int) ≤ 9223372036854775807) (h48 : n * i.bytes ≤ 281474976710656) :
    (Builtin.append_ #[t, tn] ty #[.slice a 0 0, .int k n]).run P w =
      .ok (.slice (some ⟨w.heap.size, 0, none⟩) n (grownCap w n 0 e)) (w.drew.alloc (.cells (Builtin.zeroCells z.cells n ++ Builtin.zeroCells z.cells (grownCap w n 0 e - n)) e)) := by
  cases a with
  | none => exact Lib.run_append_nil_zeros (P := P) w t tn ty e i z k kn ht htn hi hz n h0 hs h63 h48
  | some a =>
    have hf : ∀ w : World, (Builtin.firstCells i.size 0 (.slice (some a) 0 0)).run P w = .ok #[] w := fun w => run_firstCells_some w i.size 0 a 0 0 [] (by simp) (by simp)
    have f1 : IntKind.i64.wrap (n : Int) = n := by rw [IntKind.wrap_i64]; omega
    have f2 : ¬ ((n : Int) < 0) := by omega
    have f3 : ¬ (281474976710656 < (n : Int) * (i.bytes : Int)) := by rw [← Int.natCast_mul]; omega
    have f4 : ¬ (9223372036854775807 < (n : Int)) := by omega
    have f5 : ¬ (281474976710656 < Builtin.nextslicecap n 0 * i.bytes) := by rw [nextslicecap_zero h0]; omega
    have f6 : n ≠ 0 := by omega
    have f7 : n * i.size ≠ 0 := Nat.mul_ne_zero f6 (by omega)
    simp [Builtin.append_, Sem.run_bind, run_underlying ht, run_underlying htn, sizeOf, typeInfo, hi, zeroValue, hz, asInt, asIntOf, Question.forced, newRow, grownCap, hf, f1, f2, f3, f4, f5, f6, f7]

theorem appendZ_ok (hE : EnvOk P E) (hR : Rel P base m S H w) (hs : SlotOk m H slot) {t tx ty : TypeId} {kn : IntKind} {s' n' : Value} {s n : AV} {eff : Eff} {acc : Acc} (hsv : Rep m S w false s' s) (hn : Rep m S w false n' n)
    (hk : P.underlying tx = some (.int kn)) (h : xAppendZ E t [s, n] = some (eff, acc)) :
    EffOk P base slot m S H w ((Builtin.append_ #[t, tx] ty #[s', n']).run P w) eff := by
  unfold xAppendZ at h
  split at h
  · rename_i k1 n he
    cases he
    obtain rfl := rep_int hn
    simp only [Option.bind_eq_some_iff] at h
    obtain ⟨i, hi, h⟩ := h
    obtain ⟨d, _, _, hu, _, hd, _⟩ := hE.ty t i hi
    split at h
    · rename_i e hds
      obtain rfl := desc_slice (hd.symm.trans hds)
      simp only [Option.bind_eq_some_iff] at h
      obtain ⟨ei, hei, h⟩ := h
      split at h
      · rename_i hcnd
        obtain ⟨h1, h2, h3, h4⟩ := hcnd
        obtain ⟨n, rfl⟩ := Int.eq_ofNat_of_zero_le (Int.le_of_lt h1)
        simp only [Int.toNat_natCast] at h
        cases h
        obtain ⟨ze, hze, hzr, hz1, hzl, infe, hinfe, hze2⟩ := ty_zero (hE.ty e ei hei) m S w
        obtain ⟨infe', hie', hse, hbe⟩ := ty_info (hE.ty e ei hei)
        rw [hinfe] at hie'; cases hie'
        have hzs : ze.cells.size = ei.size := by have := hzr.length; simp at this; omega
        have h48 : n * infe.bytes ≤ 281474976710656 := by
          rw [hbe]
          unfold mostBytes at h2
          have : ((n * ei.bytes : Nat) : Int) ≤ 281474976710656 := by
            rw [Int.natCast_mul]; omega
          omega
        have key : ∀ a : Option Addr, s' = .slice a 0 0 → EffOk P base slot m S H w ((Builtin.append_ #[t, tx] ty #[s', .int k1 n]).run P w) (.new (.row e (zerosA ei.zero n) false) fun nm => .own nm 0 n ei.size) := fun a ha => by
          subst ha
          simp only [EffOk]
          rw [run_append_zeros0 w t tx ty e infe ze k1 kn a hu hk hinfe hze2 n (by omega) (by omega) (by unfold mostBytes at h3; omega) h48]
          have hzz := zeros_rep (m := m) (S := S) (w := w) hzr (by omega) n
          have hge := grownCap_ge w n 0 e
          refine out_row hR hs hinfe hzz (zerosA_one _ hz1 _) (fun j v hj => ?_) (.inr rfl) (fun nm => .own nm 0 n ei.size) _ (fun nm S' w' hm hsh => ?_)
          · rw [Array.getElem?_append_left (by have := (List.getElem?_eq_some_iff.1 hj).1; simpa [Builtin.zeroCells] using this)]
            rw [← Array.getElem?_toList]; exact hj
          · have := Rep.own (S := S') (w := w') nm 0 n ei.size (grownCap w n 0 e) w.heap.size 0 hm hge ⟨e, _, hsh, by
              simp only [Array.size_append, size_zeroCells, hzs]
              rw [← Nat.add_mul]
              have : n + (grownCap w n 0 e - n) = grownCap w n 0 e := by omega
              rw [this]; omega⟩
            simpa using this
        cases hsv with
        | nilsl => exact key none rfl
        | sl _ a _ c cells full q1 q2 q3 =>
          obtain rfl := q2 rfl
          exact key (some a) rfl
      · cases h
    · cases h
  · cases h
end ops
end Go.Px
