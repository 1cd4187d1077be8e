/- Updates of maps. -/
import Derived.Test.YtefondfmngjekaaGreatPxF
import Derived.MapKept
set_option linter.unusedVariables false
set_option linter.unusedSimpArgs false
namespace Go.Px
open Go Go.RowKit

section ops
variable {P : Program} {E : Env} {base : Nat} {m : Mu} {S : Sett} {H : Heap} {w : World} {slot : Option Nat}

theorem putMap_froz {b : Nat} {es es2 : Array MapEntry} {c c2 : Nat} (hw : w.heap[b]? = some (.map es c)) (x : Addr) : (w.putObj b (.map es2 c2)).frozen? x = w.frozen? x := by
  by_cases hb : x.block = b
  · simp [World.frozen?, hb, World.putObj_heap_same (w := w) (o := .map es2 c2) (Array.getElem?_eq_some_iff.1 hw).1, hw]
  · simp [World.frozen?, World.putObj_heap_other (w := w) (o := .map es2 c2) hb]

theorem updateA_put {t : TypeId} {x k y : AV} {eff : Eff} {acc : Acc} (h : updateA E H t x k y = some (eff, acc)) : ∃ nm ob r, eff = .put nm ob r := by
  unfold updateA at h
  simp only [Option.bind_eq_some_iff] at h
  obtain ⟨i, _, h⟩ := h
  split at h
  · simp only [Option.bind_eq_some_iff] at h
    obtain ⟨ki, _, h⟩ := h
    split at h
    · split at h
      · split at h
        · split at h
          · split at h
            · cases h; exact ⟨_, _, _, rfl⟩
            · cases h; exact ⟨_, _, _, rfl⟩
            · cases h
          · cases h
        · cases h
      · cases h
    · cases h
  · cases h

/-- A map turns. -/
theorem map_touch (hR : Rel P base m S H w) {nm b : Nat} {kt vt : TypeId} {es es2 : List (AV × AV)} {bs bs2 : List Nat} {es' es2' : Array MapEntry} {c c2 : Nat} (hH : H[nm]? = some (.map kt vt es bs c)) (hm : m nm = some (b, 0)) (hw : w.heap[b]? = some (.map es' c))
    (h1 : RepL m S w false (es2'.toList.map (·.key)) (es2.map (·.1))) (h2 : RepL m S w false (es2'.toList.map (·.val)) (es2.map (·.2))) (h3 : es2'.toList.map (·.born) = bs2) :
    Step P base m S H w m S (H.set nm (.map kt vt es2 bs2 c2)) (w.putObj b (.map es2' c2)) := by
  have hlt : nm < H.length := (List.getElem?_eq_some_iff.1 hH).1
  have hbl : b < w.heap.size := (Array.getElem?_eq_some_iff.1 hw).1
  have hot : ∀ b', b' ≠ b → (w.putObj b (.map es2' c2)).heap[b']? = w.heap[b']? := fun b' h => World.putObj_heap_other h
  have hsm : (w.putObj b (.map es2' c2)).heap[b]? = some (.map es2' c2) := World.putObj_heap_same hbl
  have hshape : ∀ b' e n, Shape w b' e n → Shape (w.putObj b (.map es2' c2)) b' e n := fun b' e n ⟨arr, rng, h, hn⟩ => by
    have : b' ≠ b := fun e => by subst e; rw [hw] at h; cases h
    exact ⟨arr, rng, (hot b' this).trans h, hn⟩
  have hcell : ∀ b' j, S b' j → (w.putObj b (.map es2' c2)).cell? ⟨b', j, none⟩ = w.cell? ⟨b', j, none⟩ := fun b' j h => by
    have hne : b' ≠ b := fun e => by
      subst e
      have := hR.sett b' j h
      simp [World.cell?, hw] at this
    simp [World.cell?, hot b' hne]
  refine hR.touch ⟨_, hH, by simp⟩ hm (fun k hk => by rw [List.getElem?_set_ne (Ne.symm hk)]) (by simp) (fun o ho => ?_) hot World.putObj_size hshape hcell rfl rfl rfl (fun b' q hq => ?_) (fun x => putMap_froz hw x)
  · rw [List.getElem?_set_self hlt] at ho
    cases ho
    obtain ⟨b0, e0, g1, g2, g3, g4, g5, g6⟩ := hR.obj nm _ hH
    rw [hm] at g1; cases g1
    exact ⟨b, es2', hm, g2, hsm, RepL.keep (fun _ _ h => h) (fun _ _ h => h) hcell hshape h1, RepL.keep (fun _ _ h => h) (fun _ _ h => h) hcell hshape h2, h3⟩
  · have : b' ≠ b := fun e => by subst e; rw [hw] at hq; cases hq
    exact ⟨q, (hot b' this).trans hq⟩

theorem findA_key {d : TD} {k : AV} : ∀ {es : List (AV × AV)} {i j : Nat} {v : AV}, findA d k es i = some (some (j, v)) → ∃ n q, j = i + n ∧ es[n]? = some (q, v) ∧ keyEq d k q = some true
  | [], i, j, v, h => by simp [findA] at h
  | (q, u) :: es, i, j, v, h => by
    simp only [findA] at h
    split at h
    · rename_i hq
      cases h
      exact ⟨0, q, rfl, rfl, hq⟩
    · obtain ⟨n, q', rfl, h2, h3⟩ := findA_key h
      exact ⟨n + 1, q', by omega, h2, h3⟩
    · cases h

theorem same_bits {d : TypeDesc} {k' q' : Value} {k q : AV} (hk : Rep m S w false k' k) (hq : Rep m S w false q' q) (h : keyEq (descA d) k q = some true) : Instr.sameBits 10000 q' k' = true := by
  unfold keyEq at h
  split at h
  · rename_i _ _ a b
    split at h
    · rename_i hj
      subst hj
      obtain rfl := rep_int hk; obtain rfl := rep_int hq
      simp at h; subst h
      simp [Instr.sameBits]
    · cases h
  · rename_i _ a b
    obtain ⟨sa, rfl, ha⟩ := rep_str hk
    obtain ⟨sb, rfl, hb⟩ := rep_str hq
    simp at h; subst h
    have : sb = sa := by
      have h1 := map_toNat_inj (hb.trans ha.symm)
      cases sa; cases sb
      simp only at h1
      congr 1
      exact Array.ext' h1
    subst this
    show (sb == sb) = true
    have e : (sb == sb) = (sb.data == sb.data) := rfl
    rw [e]; simp
  · rename_i _ a b
    obtain rfl := rep_bool hk; obtain rfl := rep_bool hq
    simp at h; subst h
    simp [Instr.sameBits]
  · cases h

theorem modify_map (l : List MapEntry) (j : Nat) (F : MapEntry → MapEntry) (g : MapEntry → Value) (c : Value) (hF : ∀ e, g (F e) = c) : (l.modify j F).map g = (l.map g).set j c := by
  apply List.ext_getElem?
  intro i
  rw [List.getElem?_map, List.getElem?_modify, List.getElem?_set, List.getElem?_map]
  by_cases hj : j = i
  · subst hj
    cases hl : l[j]? with
    | none => simp; rw [List.getElem?_eq_none_iff] at hl; omega
    | some e =>
      have hlt : j < l.length := (List.getElem?_eq_some_iff.1 hl).1
      simp [hF, hlt]
  · cases l[i]? <;> simp [hj]

theorem modify_born (l : List MapEntry) (j : Nat) (F : MapEntry → MapEntry) (hF : ∀ e, (F e).born = e.born) : (l.modify j F).map (·.born) = l.map (·.born) := by
  apply List.ext_getElem?
  intro i
  rw [List.getElem?_map, List.getElem?_modify, List.getElem?_map]
  by_cases hj : j = i
  · subst hj
    cases l[j]? <;> simp [hF]
  · cases l[i]? <;> simp [hj]

theorem upd_key {es' : Array MapEntry} {es : List (AV × AV)} {j : Nat} {k' y' : Value} {k y : AV} (h : RepL m S w false (es'.toList.map (·.key)) (es.map (·.1))) (hk : Rep m S w false k' k) :
    RepL m S w false ((es'.modify j fun e => { e with key := k', val := y' }).toList.map (·.key)) ((es.set j (k, y)).map (·.1)) := by
  rw [Array.toList_modify, modify_map _ _ _ _ k' (fun _ => rfl), List.map_set]
  exact h.set j hk
theorem upd_val {es' : Array MapEntry} {es : List (AV × AV)} {j : Nat} {k' y' : Value} {k y : AV} (h : RepL m S w false (es'.toList.map (·.val)) (es.map (·.2))) (hy : Rep m S w false y' y) :
    RepL m S w false ((es'.modify j fun e => { e with key := k', val := y' }).toList.map (·.val)) ((es.set j (k, y)).map (·.2)) := by
  rw [Array.toList_modify, modify_map _ _ _ _ y' (fun _ => rfl), List.map_set]
  exact h.set j hy

theorem update_ok (hE : EnvOk P E) (hR : Rel P base m S H w) {t : TypeId} {x' k' y' : Value} {x k y r : AV} {nm : Nat} {o : AO} {acc : Acc} (hx : Rep m S w false x' x) (hk : Rep m S w false k' k) (hy : Rep m S w false y' y) (h : updateA E H t x k y = some (.put nm o r, acc)) :
    ∃ w', (Instr.mapUpdate t x' k' y').run P w = .ok () w' ∧ Step P base m S H w m S (H.set nm o) w' ∧ Gaps slot m H m (H.set nm o) ∧ r = .tup [] := by
  unfold updateA at h
  cases hi : E.ty t with
  | none => simp [hi] at h
  | some i =>
    simp only [hi, Option.bind_some] at h
    obtain ⟨ds, info, z, hu, hinf, hd, _⟩ := hE.ty t i hi
    split at h
    · rename_i kt vt hds
      obtain rfl := desc_map (hd.symm.trans hds)
      cases hki : E.ty kt with
      | none => simp [hki] at h
      | some ki =>
        simp only [hki, Option.bind_some] at h
        split at h
        · rename_i hsk
          obtain ⟨dk, ik, zk, huk, hik, hdk, _⟩ := hE.ty kt ki hki
          cases hx with
          | map nm0 b hb =>
            simp only at h
            cases hH : H[nm0]? with
            | none => simp [hH] at h
            | some ob =>
              cases ob with
              | map kt' vt' es bs ck =>
                simp only [hH] at h
                split at h
                · rename_i hkk
                  subst hkk
                  obtain ⟨b', es', q1, q2, q3, q4, q5, q6⟩ := hR.obj nm0 _ hH
                  rw [hb] at q1; cases q1
                  have hset : ∀ o : Obj, (setObj b o).run P w = .ok () (w.putObj b o) := fun o => by simp [setObj, Sem.run, q3, World.putObj]
                  have hget : (getObj b).run P w = .ok (.map es' ck) w := by simp [getObj, Sem.run, q3]
                  have hck := check_simple (P := P) huk (hdk ▸ hsk) false k' w
                  obtain ⟨g1, g2⟩ := find_ok (d := dk) hk (i := 0) q4 q5
                  rw [hdk] at h
                  have hgap : ∀ o', Gaps slot m H m (H.set nm0 o') := fun o' k0 hlt hne hm0 => ⟨hm0, fun hd0 => by
                    have : k0 ≠ nm0 := fun e => by subst e; rw [hH] at hd0; cases hd0
                    rw [List.getElem?_set_ne (Ne.symm this)]; exact hd0⟩
                  have hklen : es'.toList.length = es.length := by have := q4.length; simpa using this
                  split at h
                  · rename_i j v hf
                    cases h
                    obtain ⟨v', a1, a2, a3, a4⟩ := g2 j v hf
                    obtain ⟨n, q, hn, hq, hke⟩ := findA_key hf
                    simp only [Nat.zero_add] at hn; subst hn
                    obtain ⟨qv, b1, b2⟩ := q4.get (i := j) (x := q) (by simp [hq])
                    have hsame := same_bits hk b2 hke
                    have hkey : ((es'[j]?).map (·.key)).getD k' = qv := by
                      have : (es'.toList[j]?).map (·.key) = some qv := by rw [← List.getElem?_map]; exact b1
                      rw [Array.getElem?_toList] at this
                      rw [this]; rfl
                    refine ⟨w.putObj b (.map (es'.modify j fun e => { e with key := k', val := y' }) ck), ?_, ?_, hgap _, rfl⟩
                    · simp [Instr.mapUpdate, Sem.run_bind, run_underlying hu, hget, hck, Instr.findKey, run_underlying huk, a1, Instr.keyThatStays, hkey, hsame, hset]
                    · exact map_touch hR hH hb q3 (upd_key q4 hk) (upd_val q5 hy) (by rw [← q6, Array.toList_modify]; exact modify_born _ _ _ (fun _ => rfl))
                  · rename_i hf
                    cases h
                    have a1 := g1 hf
                    refine ⟨w.putObj b (.map (es'.push { key := k', val := y', born := ck }) (ck + 1)), ?_, ?_, hgap _, rfl⟩
                    · simp [Instr.mapUpdate, Sem.run_bind, run_underlying hu, hget, hck, Instr.findKey, run_underlying huk, a1, hset]
                    · refine map_touch hR hH hb q3 ?_ ?_ (by simp [q6])
                      · simp only [Array.toList_push, List.map_append, List.map_cons, List.map_nil]
                        exact q4.append (.cons _ _ _ _ _ hk (.nil _))
                      · simp only [Array.toList_push, List.map_append, List.map_cons, List.map_nil]
                        exact q5.append (.cons _ _ _ _ _ hy (.nil _))
                  · cases h
                · cases h
              | _ => simp [hH] at h
          | _ => simp at h
        · cases h
    · cases h
end ops
end Go.Px
