/- An operation is a framed step. -/
import Derived.Test.YtefondfmngjekaaGreatPxI
set_option linter.unusedVariables false
set_option linter.unusedSimpArgs false
namespace Go.Px
open Go

section fr
variable {E : Env} {H H1 : Heap}

theorem Agree.none : Agree Acc.none H H1 := ⟨fun _ h => (by cases h), fun _ h => (by cases h)⟩

theorem loadA_fr {t : TypeId} {p x : AV} {acc : Acc} (h : loadA E H t p = some (x, acc)) (ha : Agree acc H H1) : loadA E H1 t p = some (x, acc) := by
  unfold loadA at h ⊢
  cases hi : E.ty t with
  | none => simp [hi] at h
  | some i =>
    simp only [hi, Option.bind_eq_bind, Option.bind_some] at h ⊢
    split at h
    · exact h
    · rename_i nm off
      split at h
      · rename_i e cs f hr
        split at h
        · rename_i hl
          cases hm : mkV i.desc.isAgg ((cs.drop off).take i.size) with
          | none => simp [hm] at h
          | some y =>
            simp [hm] at h; obtain ⟨rfl, rfl⟩ := h
            obtain ⟨g, hg⟩ := (ha.1 nm (by simp [Acc.read])).row hr
            simp [hg, hl, hm]
        · cases h
      · cases h
    · cases h
theorem loadA_all {t : TypeId} {p x : AV} {acc : Acc} (h : loadA E H t p = some (x, acc)) : acc.all = false := by
  unfold loadA at h
  cases hi : E.ty t with
  | none => simp [hi] at h
  | some i =>
    simp only [hi, Option.bind_eq_bind, Option.bind_some] at h
    split at h
    · split at h
      · rename_i hl
        cases hm : mkV i.desc.isAgg (List.take i.size ‹List AV›) with
        | none => simp [hm] at h
        | some y => simp [hm] at h; obtain ⟨_, rfl⟩ := h; rfl
      · cases h
    · split at h
      · rename_i e cs f hr
        split at h
        · rename_i nm off _ hl
          cases hm : mkV i.desc.isAgg ((cs.drop off).take i.size) with
          | none => simp [hm] at h
          | some y => simp [hm] at h; obtain ⟨_, rfl⟩ := h; rfl
        · cases h
      · cases h
    · cases h

theorem contentA_fr {sz n : Nat} {x : AV} {cs : List AV} {acc : Acc} (h : contentA H sz x = some (n, cs, acc)) (ha : Agree acc H H1 ∨ (∀ nm ∈ acc.rd, sameFr H[nm]? H1[nm]?)) : contentA H1 sz x = some (n, cs, acc) := by
  have ha' : ∀ nm ∈ acc.rd, sameFr H[nm]? H1[nm]? := by rcases ha with h | h; exact h.1; exact h
  unfold contentA at h ⊢
  split at h
  · exact h
  · rename_i nm off n0 sz'
    split at h
    · rename_i e cells f hr
      split at h
      · rename_i hc
        simp at h; obtain ⟨rfl, rfl, rfl⟩ := h
        obtain ⟨g, hg⟩ := (ha' nm (by simp [Acc.read])).row hr
        simp [hg, hc]
      · cases h
    · cases h
  · exact h
  · cases h
theorem contentA_all {sz n : Nat} {x : AV} {cs : List AV} {acc : Acc} (h : contentA H sz x = some (n, cs, acc)) : acc.all = false ∧ acc.wr = [] := by
  unfold contentA at h
  split at h
  · split at h
    · simp at h; obtain ⟨_, _, rfl⟩ := h; exact ⟨rfl, rfl⟩
    · cases h
  · split at h
    · split at h
      · simp at h; obtain ⟨_, _, rfl⟩ := h; exact ⟨rfl, rfl⟩
      · cases h
    · cases h
  · split at h
    · simp at h; obtain ⟨_, _, rfl⟩ := h; exact ⟨rfl, rfl⟩
    · cases h
  · cases h

theorem lookupA_fr {t : TypeId} {m k x : AV} {ok : Bool} {acc : Acc} (h : lookupA E H t m k ok = some (x, acc)) (ha : Agree acc H H1) : lookupA E H1 t m k ok = some (x, acc) ∧ acc.all = false := by
  unfold lookupA at h ⊢
  cases hi : E.ty t with
  | none => simp [hi] at h
  | some i =>
    simp only [hi, Option.bind_eq_bind, Option.bind_some] at h ⊢
    split at h
    · rename_i kt vt hd
      cases h1 : E.ty kt with
      | none => simp [h1] at h
      | some ki =>
        cases h2 : E.ty vt with
        | none => simp [h1, h2] at h
        | some vi =>
          simp only [h1, h2, Option.bind_some] at h ⊢
          split at h
          · cases h
          · rename_i hs
            have key : ∀ (es : List (AV × AV)) (ac : Acc), ((findA ki.desc k es 0).bind fun q => match q with
                  | some (_, v) => (pure (if ok then AV.tup [v, .bool true] else v, ac) : Option (AV × Acc))
                  | none => (mkV vi.desc.isAgg vi.zero).bind fun z => pure (if ok then .tup [z, .bool false] else z, ac)) = some (x, acc) → acc = ac := by
              intro es ac hq
              cases hf : findA ki.desc k es 0 with
              | none => simp [hf] at hq
              | some q =>
                cases q with
                | none =>
                  cases hm : mkV vi.desc.isAgg vi.zero with
                  | none => simp [hf, hm] at hq
                  | some z => simp [hf, hm] at hq; exact hq.2.symm
                | some p => simp [hf] at hq; exact hq.2.symm
            cases m with
            | nilmap =>
              refine ⟨by simpa [hs] using h, ?_⟩
              simp only [Option.bind_some] at h
              rw [key [] Acc.none h]; rfl
            | map nm =>
              simp only at h
              cases hr : H[nm]? with
              | none => simp [hr] at h
              | some ob =>
                cases ob with
                | map kt' vt' es bs ck =>
                  simp only [hr] at h
                  split at h
                  · rename_i hk
                    have hac := key es (Acc.read nm) h
                    have hg := (ha.1 nm (by rw [hac]; simp [Acc.read])).map hr
                    refine ⟨?_, by rw [hac]; rfl⟩
                    simp only [hg, hk, if_true, Option.bind_some, hs]
                    exact h
                  · simp at h
                | _ => simp [hr] at h
            | _ => simp at h
    · cases h

theorem lenA_fr {t : TypeId} {x r : AV} {acc : Acc} (h : lenA E H t x = some (r, acc)) (ha : Agree acc H H1) : lenA E H1 t x = some (r, acc) ∧ acc.all = false := by
  unfold lenA at h ⊢
  cases hi : E.ty t with
  | none => simp [hi] at h
  | some i =>
    simp only [hi, Option.bind_eq_bind, Option.bind_some] at h ⊢
    split at h <;> first
      | (simp at h; obtain ⟨rfl, rfl⟩ := h; rename_i h1; simp [h1, Acc.none]; done)
      | skip
    · rename_i nm h1
      split at h
      · rename_i kt vt es bs ck hr
        simp at h; obtain ⟨rfl, rfl⟩ := h
        have hg := (ha.1 nm (by simp [Acc.read])).map hr
        simp [h1, hg, Acc.read]
      · cases h
    · cases h

def EffWf (eff : Eff) (acc : Acc) : Prop := acc.all = false ∧ match eff with
  | .put nm _ _ => nm ∈ acc.wr
  | .app nm _ _ _ => nm ∈ acc.wr
  | .call _ _ => acc = Acc.none
  | _ => True

theorem storeA_fr {t : TypeId} {p v : AV} {eff : Eff} {acc : Acc} (h : storeA E H t p v = some (eff, acc)) : EffWf eff acc ∧ ∀ {H1 : Heap}, Agree acc H H1 → storeA E H1 t p v = some (eff, acc) := by
  unfold storeA at h ⊢
  cases hi : E.ty t with
  | none => simp [hi] at h
  | some i =>
    simp only [hi, Option.bind_eq_bind, Option.bind_some] at h ⊢
    split at h
    · rename_i nm off
      split at h
      · rename_i e cs hr
        split at h
        · rename_i hc
          simp at h; obtain ⟨rfl, rfl⟩ := h
          refine ⟨⟨rfl, by simp⟩, fun {H1} ha => ?_⟩
          have hg : H1[nm]? = some (.row e cs false) := (ha.2 nm (by simp)).symm.trans hr
          simp [hg, hc]
        · cases h
      · cases h
    · cases h

theorem appendA0_fr {t : TypeId} {s x : AV} {eff : Eff} {acc : Acc} (h : appendA0 E H t s x = some (eff, acc)) : EffWf eff acc ∧ ∀ {H1 : Heap}, Agree acc H H1 → appendA0 E H1 t s x = some (eff, acc) := by
  unfold appendA0 at h ⊢
  cases hi : E.ty t with
  | none => simp [hi] at h
  | some i =>
    simp only [hi, Option.bind_eq_bind, Option.bind_some] at h ⊢
    split at h
    · rename_i e hd
      cases he : E.ty e with
      | none => simp [he] at h
      | some ei =>
        simp only [he, Option.bind_some] at h ⊢
        cases hc : contentA H ei.size x with
        | none => simp [hc] at h
        | some q =>
          obtain ⟨k, new, ac⟩ := q
          obtain ⟨c1, c2⟩ := contentA_all hc
          simp only [hc, Option.bind_some] at h
          have hcf : ∀ {H1 : Heap}, (∀ nm ∈ ac.rd, sameFr H[nm]? H1[nm]?) → contentA H1 ei.size x = some (k, new, ac) := fun ha => contentA_fr hc (.inr ha)
          split at h
          · cases h
          rename_i hz
          split at h
          · rename_i hk
            split at h
            · simp at h; obtain ⟨rfl, rfl⟩ := h
              exact ⟨⟨c1, trivial⟩, fun {H1} ha => by simp [hcf ha.1, hz, hk]⟩
            · simp at h; obtain ⟨rfl, rfl⟩ := h
              exact ⟨⟨c1, trivial⟩, fun {H1} ha => by simp [hcf ha.1, hz, hk]⟩
            · cases h
          · rename_i hk
            split at h
            · split at h
              · rename_i hcc
                simp at h; obtain ⟨rfl, rfl⟩ := h
                exact ⟨⟨c1, trivial⟩, fun {H1} ha => by simp [hcf ha.1, hz, hk, hcc]⟩
              · cases h
            · rename_i nm off n sz
              split at h
              · cases h
              rename_i hsz
              split at h
              · rename_i e' cs fr hr
                split at h
                · rename_i hcc
                  simp at h; obtain ⟨rfl, rfl⟩ := h
                  refine ⟨⟨rfl, by simp⟩, fun {H1} ha => ?_⟩
                  have hg : H1[nm]? = some (.row e' cs fr) := (ha.2 nm (by simp)).symm.trans hr
                  have := hcf ha.1
                  simp [this, hz, hk, hsz, hg, hcc]
                · cases h
              · cases h
            · cases h
    · cases h

theorem contentA_count {sz n : Nat} {x : AV} {cs : List AV} {acc : Acc} (h : contentA H sz x = some (n, cs, acc)) : n = countA x := by
  unfold contentA at h
  split at h
  · split at h
    · cases h; rfl
    · cases h
  · split at h
    · split at h
      · cases h; rfl
      · cases h
    · cases h
  · split at h
    · cases h; rfl
    · cases h
  · cases h

theorem appendA0_app {t : TypeId} {nm off n sz : Nat} {x : AV} {eff : Eff} {acc : Acc} (hx : countA x ≠ 0) (h : appendA0 E H t (.own nm off n sz) x = some (eff, acc)) : nm ∈ acc.wr := by
  unfold appendA0 at h
  simp only [Option.bind_eq_bind, Option.bind_eq_some_iff] at h
  obtain ⟨i, _, h⟩ := h
  split at h
  · simp only [Option.bind_eq_some_iff] at h
    obtain ⟨ei, _, q, hq, h⟩ := h
    obtain ⟨k, new, ac⟩ := q
    have hk := contentA_count hq
    split at h
    · cases h
    split at h
    · rename_i hk0
      exact absurd (hk.symm.trans hk0) hx
    · split at h
      · cases h
      · split at h
        · split at h
          · simp at h; rw [← h.2]; simp
          · cases h
        · cases h
  · cases h

theorem appendA_some {t : TypeId} {s x : AV} {r : Eff × Acc} (h : appendA E H t s x = some r) : ∃ H', appendA0 E H' t s x = some r := by
  unfold appendA at h
  split at h
  · exact ⟨_, h⟩
  · split at h
    · split at h
      · split at h
        · exact ⟨_, h⟩
        · exact ⟨_, h⟩
      · exact ⟨_, h⟩
    · exact ⟨_, h⟩

theorem appendA_fr {t : TypeId} {s x : AV} {eff : Eff} {acc : Acc} (h : appendA E H t s x = some (eff, acc)) : EffWf eff acc ∧ ∀ {H1 : Heap}, Agree acc H H1 → appendA E H1 t s x = some (eff, acc) := by
  unfold appendA at h ⊢
  by_cases h0 : countA x = 0
  · rw [if_pos h0] at h
    obtain ⟨g1, g2⟩ := appendA0_fr h
    exact ⟨g1, fun ha => by rw [if_pos h0]; exact g2 ha⟩
  · simp only [if_neg h0] at h ⊢
    split at h
    · rename_i nm off n sz
      have key : nm ∈ acc.wr → ∀ {H1 : Heap}, Agree acc H H1 → H1[nm]? = H[nm]? := fun hm H1 ha => (ha.2 nm hm).symm
      split at h
      · rename_i e cs hr
        split at h
        · rename_i hlt
          obtain ⟨g1, g2⟩ := appendA0_fr h
          refine ⟨g1, fun {H1} ha => ?_⟩
          have he := key (appendA0_app h0 h) ha
          simp only [he, hr, if_pos hlt]
          refine g2 ⟨fun j hj => ?_, fun j hj => ?_⟩
          · by_cases hjn : j = nm
            · subst hjn
              have hl1 : j < H.length := (List.getElem?_eq_some_iff.1 hr).1
              have hl2 : j < H1.length := (List.getElem?_eq_some_iff.1 (he.trans hr)).1
              rw [List.getElem?_set_self hl1, List.getElem?_set_self hl2]
              exact sameFr.refl _
            · rw [List.getElem?_set_ne (Ne.symm hjn), List.getElem?_set_ne (Ne.symm hjn)]
              exact ha.1 j hj
          · by_cases hjn : j = nm
            · subst hjn
              have hl1 : j < H.length := (List.getElem?_eq_some_iff.1 hr).1
              have hl2 : j < H1.length := (List.getElem?_eq_some_iff.1 (he.trans hr)).1
              rw [List.getElem?_set_self hl1, List.getElem?_set_self hl2]
            · rw [List.getElem?_set_ne (Ne.symm hjn), List.getElem?_set_ne (Ne.symm hjn)]
              exact ha.2 j hj
        · rename_i hlt
          obtain ⟨g1, g2⟩ := appendA0_fr h
          refine ⟨g1, fun {H1} ha => ?_⟩
          have he := key (appendA0_app h0 h) ha
          simp only [he, hr, if_neg hlt]
          exact g2 ha
      · rename_i hr
        obtain ⟨g1, g2⟩ := appendA0_fr h
        refine ⟨g1, fun {H1} ha => ?_⟩
        have he := key (appendA0_app h0 h) ha
        rw [he]
        split
        · rename_i e cs hr2
          exact absurd hr2 (hr e cs)
        · exact g2 ha
    · rename_i hs
      exact appendA0_fr h

theorem bstrA_fr {e : TypeId} {x : AV} {eff : Eff} {acc : Acc} (h : bstrA E H e x = some (eff, acc)) : (EffWf eff acc ∧ ∃ l, eff = .val (.str l)) ∧ ∀ {H1 : Heap}, Agree acc H H1 → bstrA E H1 e x = some (eff, acc) := by
  unfold bstrA at h
  split at h
  · rename_i n cs ac he hc
    simp only [Option.map_eq_some_iff] at h
    obtain ⟨l, hl, he2⟩ := h
    cases he2
    obtain ⟨g1, g2⟩ := contentA_all hc
    refine ⟨⟨⟨g1, by simp⟩, l, rfl⟩, fun {H1} hA => ?_⟩
    unfold bstrA
    rw [he, contentA_fr hc (.inl hA)]
    simp [hl]
  · cases h

theorem convA_fr {src dst : TypeId} {x : AV} {eff : Eff} {acc : Acc} (h : convA E H src dst x = some (eff, acc)) : EffWf eff acc ∧ ∀ {H1 : Heap}, Agree acc H H1 → convA E H1 src dst x = some (eff, acc) := by
  unfold convA at h ⊢
  cases hi : E.ty src with
  | none => simp [hi] at h
  | some i =>
    cases hj : E.ty dst with
    | none => simp [hi, hj] at h
    | some j =>
      simp only [hi, hj, Option.bind_eq_bind, Option.bind_some] at h ⊢
      split at h
      · simp at h; obtain ⟨rfl, rfl⟩ := h; exact ⟨⟨rfl, trivial⟩, fun _ => rfl⟩
      · simp at h; obtain ⟨rfl, rfl⟩ := h; exact ⟨⟨rfl, trivial⟩, fun _ => rfl⟩
      · obtain ⟨⟨h1, _⟩, h2⟩ := bstrA_fr h; exact ⟨h1, fun hA => h2 hA⟩
      · obtain ⟨⟨h1, _⟩, h2⟩ := bstrA_fr h; exact ⟨h1, fun hA => h2 hA⟩
      · cases h

theorem buildSliceA_new {t : TypeId} {len : Nat} {ps : List (Nat × AV)} {eff : Eff} (h : buildSliceA E t len ps = some eff) : ∃ o f, eff = .new o f := by
  unfold buildSliceA at h
  simp only [Option.bind_eq_bind] at h
  cases h1 : E.ty t with
  | none => simp [h1] at h
  | some i =>
    simp only [h1, Option.bind_some] at h
    split at h
    · rename_i e _
      cases h2 : E.ty e with
      | none => simp [h2] at h
      | some ei =>
        simp only [h2, Option.bind_some] at h
        split at h
        · cases h
        · cases h3 : fillA (fun k => some (k * ei.size, ei.size)) (zerosA ei.zero len) ps with
          | none => simp [h3] at h
          | some cs => simp [h3] at h; exact ⟨_, _, h.symm⟩
    · cases h

theorem updateA_fr {t : TypeId} {x k y : AV} {eff : Eff} {acc : Acc} (h : updateA E H t x k y = some (eff, acc)) : EffWf eff acc ∧ ∀ {H1 : Heap}, Agree acc H H1 → updateA E H1 t x k y = some (eff, acc) := by
  unfold updateA at h ⊢
  cases hi : E.ty t with
  | none => simp [hi] at h
  | some i =>
    simp only [hi, Option.bind_some] at h ⊢
    split at h
    · rename_i kt vt hd
      try simp only [hd]
      cases hk : E.ty kt with
      | none => simp [hk] at h
      | some ki =>
        simp only [hk, Option.bind_some] at h ⊢
        by_cases hs : simpleKey ki.desc = true
        · simp only [hs, if_true] at h ⊢
          cases x with
          | map nm =>
            cases hH : H[nm]? with
            | none => simp [hH] at h
            | some ob =>
              cases ob with
              | map kt' vt' es bs ck =>
                simp only [hH] at h
                by_cases hkk : kt' = kt
                · simp only [hkk, if_true] at h
                  have fin : ∀ {e : AO}, eff = .put nm e (.tup []) → acc = ⟨[], [nm], false⟩ → EffWf eff acc ∧ ∀ {H1 : Heap}, Agree acc H H1 → H1[nm]? = some (.map kt' vt' es bs ck) := fun he ha => by
                    subst he ha
                    exact ⟨⟨rfl, by simp⟩, fun {H1} hA => by rw [← hH]; exact (hA.2 nm (by simp)).symm⟩
                  cases hf : findA ki.desc k es 0 with
                  | none => simp [hf] at h
                  | some q =>
                    cases q with
                    | none =>
                      simp only [hf, Option.some.injEq, Prod.mk.injEq] at h
                      obtain ⟨g1, g2⟩ := fin h.1.symm h.2.symm
                      refine ⟨g1, fun {H1} hA => ?_⟩
                      simp only [g2 hA, hkk, if_true, hf, Option.some.injEq, Prod.mk.injEq]
                      exact h
                    | some p =>
                      obtain ⟨jj, v⟩ := p
                      simp only [hf, Option.some.injEq, Prod.mk.injEq] at h
                      obtain ⟨g1, g2⟩ := fin h.1.symm h.2.symm
                      refine ⟨g1, fun {H1} hA => ?_⟩
                      simp only [g2 hA, hkk, if_true, hf, Option.some.injEq, Prod.mk.injEq]
                      exact h
                · simp [hkk] at h
              | _ => simp [hH] at h
          | _ => simp at h
        · simp [hs] at h
    · cases h

/-- The other operations. -/
theorem Agree.wr {acc : Acc} {H H1 : Heap} {nm : Nat} {o : Option AO} (ha : Agree acc H H1) (hn : nm ∈ acc.wr) (h : H[nm]? = o) : H1[nm]? = o := (ha.2 nm hn).symm.trans h

theorem xRange_fr {t : TypeId} {xs : List AV} {eff : Eff} {acc : Acc} (h : xRange E H t xs = some (eff, acc)) : EffWf eff acc ∧ ∀ {H1 : Heap}, Agree acc H H1 → xRange E H1 t xs = some (eff, acc) := by
  unfold xRange at h ⊢
  split at h
  · refine ⟨?_, fun _ => h⟩
    simp only [Option.bind_eq_some_iff] at h
    obtain ⟨i, hi, h⟩ := h
    split at h
    · cases h; exact ⟨rfl, trivial⟩
    · cases h
  · rename_i m
    simp only [Option.bind_eq_some_iff] at h
    obtain ⟨i, hi, h⟩ := h
    split at h
    · rename_i k v kt vt es bs ck hds hH
      cases h
      exact ⟨⟨rfl, trivial⟩, fun {H1} ha => by simp only [hi, Option.bind_some, hds, ha.wr (by simp) hH]⟩
    · cases h
  · cases h

theorem xNext_fr {xs : List AV} {eff : Eff} {acc : Acc} (h : xNext H xs = some (eff, acc)) : EffWf eff acc ∧ ∀ {H1 : Heap}, Agree acc H H1 → xNext H1 xs = some (eff, acc) := by
  unfold xNext at h ⊢
  split at h
  · rename_i nm
    split at h
    · rename_i since seen last hH
      cases h
      exact ⟨⟨rfl, trivial⟩, fun {H1} ha => by simp only [ha.wr (by simp) hH]⟩
    · rename_i mn since seen last hH
      split at h
      · rename_i kt vt es bs ck hM
        split at h
        · cases h
        · rename_i hg
          split at h
          · rename_i hL
            cases h
            exact ⟨⟨rfl, trivial⟩, fun {H1} ha => by simp only [ha.wr (nm := nm) (by simp) hH, ha.wr (nm := mn) (by simp) hM, if_neg hg, hL]⟩
          · rename_i k v b hL
            split at h
            · rename_i hb
              cases h
              exact ⟨⟨rfl, by simp⟩, fun {H1} ha => by simp only [ha.wr (nm := nm) (by simp) hH, ha.wr (nm := mn) (by simp) hM, if_neg hg, hL, if_pos hb]⟩
            · cases h
          · cases h
      · cases h
    · cases h
  · cases h

theorem xEntry_fr {xs : List AV} {eff : Eff} {acc : Acc} (h : xEntry H xs = some (eff, acc)) : EffWf eff acc ∧ ∀ {H1 : Heap}, Agree acc H H1 → xEntry H1 xs = some (eff, acc) := by
  unfold xEntry at h ⊢
  split at h
  · rename_i nm
    split at h
    · rename_i mn since seen last hH
      split at h
      · rename_i kt vt es bs ck stamp hM hs
        split at h
        · rename_i hc
          simp only [Option.map_eq_some_iff] at h
          obtain ⟨⟨j, k, v⟩, hbo, h⟩ := h
          cases h
          exact ⟨⟨rfl, trivial⟩, fun {H1} ha => by simp only [ha.wr (nm := nm) (by simp) hH, ha.wr (nm := mn) (by simp) hM, hs, if_pos hc, hbo, Option.map_some]⟩
        · cases h
      · cases h
    · cases h
  · cases h

theorem xMapEntry_fr {t : TypeId} {xs : List AV} {eff : Eff} {acc : Acc} (h : xMapEntry E H t xs = some (eff, acc)) : EffWf eff acc ∧ ∀ {H1 : Heap}, Agree acc H H1 → xMapEntry E H1 t xs = some (eff, acc) := by
  unfold xMapEntry at h ⊢
  split at h
  · rename_i nm k
    simp only [Option.bind_eq_some_iff] at h
    obtain ⟨i, hi, h⟩ := h
    split at h
    · rename_i kt vt hds
      simp only [Option.bind_eq_some_iff] at h
      obtain ⟨ki, hki, vi, hvi, h⟩ := h
      split at h
      · rename_i hsk
        split at h
        · rename_i kt' vt' es bs ck hH
          split at h
          · rename_i hkk
            split at h
            · rename_i j v hf
              cases h
              exact ⟨⟨rfl, by simp⟩, fun {H1} ha => by simp only [hi, hds, hki, hvi, Option.bind_some, if_pos hsk, ha.wr (nm := nm) (by simp) hH, if_pos hkk, hf]⟩
            · rename_i hf
              simp only [Option.bind_eq_some_iff] at h
              obtain ⟨z, hz, h⟩ := h
              cases h
              exact ⟨⟨rfl, by simp⟩, fun {H1} ha => by simp only [hi, hds, hki, hvi, Option.bind_some, if_pos hsk, ha.wr (nm := nm) (by simp) hH, if_pos hkk, hf, hz]⟩
            · cases h
          · cases h
        · cases h
      · cases h
    · cases h
  · cases h

theorem xEntryStore_fr {xs : List AV} {eff : Eff} {acc : Acc} (h : xEntryStore H xs = some (eff, acc)) : EffWf eff acc ∧ ∀ {H1 : Heap}, Agree acc H H1 → xEntryStore H1 xs = some (eff, acc) := by
  unfold xEntryStore at h ⊢
  split at h
  · rename_i nm kk n v
    split at h
    · rename_i kt vt es bs ck hH
      split at h
      · rename_i hn
        simp only [Option.map_eq_some_iff] at h
        obtain ⟨⟨j, k, v0⟩, hbo, h⟩ := h
        cases h
        exact ⟨⟨rfl, by simp⟩, fun {H1} ha => by simp only [ha.wr (nm := nm) (by simp) hH, if_pos hn, hbo, Option.map_some]⟩
      · cases h
    · cases h
  · cases h

theorem xDelete_fr {t : TypeId} {xs : List AV} {eff : Eff} {acc : Acc} (h : xDelete E H t xs = some (eff, acc)) : EffWf eff acc ∧ ∀ {H1 : Heap}, Agree acc H H1 → xDelete E H1 t xs = some (eff, acc) := by
  unfold xDelete at h ⊢
  split at h
  · rename_i nm k
    simp only [Option.bind_eq_some_iff] at h
    obtain ⟨i, hi, h⟩ := h
    split at h
    · rename_i kt vt hds
      simp only [Option.bind_eq_some_iff] at h
      obtain ⟨ki, hki, h⟩ := h
      split at h
      · rename_i hsk
        split at h
        · rename_i kt' vt' es bs ck hH
          split at h
          · rename_i hkk
            split at h
            · rename_i j v hf
              cases h
              exact ⟨⟨rfl, by simp⟩, fun {H1} ha => by simp only [hi, hds, hki, Option.bind_some, if_pos hsk, ha.wr (nm := nm) (by simp) hH, if_pos hkk, hf]⟩
            · rename_i hf
              cases h
              exact ⟨⟨rfl, by simp⟩, fun {H1} ha => by simp only [hi, hds, hki, Option.bind_some, if_pos hsk, ha.wr (nm := nm) (by simp) hH, if_pos hkk, hf]⟩
            · cases h
          · cases h
        · cases h
      · cases h
    · cases h
  · cases h

theorem xMakeSlice_wf {t : TypeId} {xs : List AV} {eff : Eff} {acc : Acc} (h : xMakeSlice E t xs = some (eff, acc)) : EffWf eff acc := by
  unfold xMakeSlice at h
  split at h
  · simp only [Option.bind_eq_some_iff] at h
    obtain ⟨i, hi, h⟩ := h
    split at h
    · simp only [Option.bind_eq_some_iff] at h
      obtain ⟨ei, hei, h⟩ := h
      split at h
      · cases h; exact ⟨rfl, trivial⟩
      · cases h
    · cases h
  · cases h

theorem xAppendZ_wf {t : TypeId} {xs : List AV} {eff : Eff} {acc : Acc} (h : xAppendZ E t xs = some (eff, acc)) : EffWf eff acc := by
  unfold xAppendZ at h
  split at h
  · simp only [Option.bind_eq_some_iff] at h
    obtain ⟨i, hi, h⟩ := h
    split at h
    · simp only [Option.bind_eq_some_iff] at h
      obtain ⟨ei, hei, h⟩ := h
      split at h
      · cases h; exact ⟨rfl, trivial⟩
      · cases h
    · cases h
  · cases h

theorem xCap_wf {t : TypeId} {xs : List AV} {eff : Eff} {acc : Acc} (h : xCap E t xs = some (eff, acc)) : EffWf eff acc := by
  unfold xCap at h
  split at h
  · simp only [Option.bind_eq_some_iff] at h
    obtain ⟨i, hi, h⟩ := h
    split at h
    · cases h; exact ⟨rfl, trivial⟩
    · cases h
  · cases h

theorem xClear_fr {t : TypeId} {xs : List AV} {eff : Eff} {acc : Acc} (h : xClear E H t xs = some (eff, acc)) : EffWf eff acc ∧ ∀ {H1 : Heap}, Agree acc H H1 → xClear E H1 t xs = some (eff, acc) := by
  unfold xClear at h ⊢
  split at h
  · refine ⟨?_, fun _ => h⟩
    simp only [Option.bind_eq_some_iff] at h
    obtain ⟨i, hi, h⟩ := h
    split at h
    · cases h; exact ⟨rfl, trivial⟩
    · cases h
  · rename_i nm off n sz
    simp only [Option.bind_eq_some_iff] at h
    obtain ⟨i, hi, h⟩ := h
    split at h
    · rename_i e hds
      simp only [Option.bind_eq_some_iff] at h
      obtain ⟨ei, hei, h⟩ := h
      split at h
      · rename_i hn
        cases h
        exact ⟨⟨rfl, trivial⟩, fun {H1} ha => by simp only [hi, hds, hei, Option.bind_some, if_pos hn]⟩
      · rename_i hn
        split at h
        · rename_i e' cs hH
          split at h
          · rename_i hc
            cases h
            exact ⟨⟨rfl, by simp⟩, fun {H1} ha => by simp only [hi, hds, hei, Option.bind_some, if_neg hn, ha.wr (nm := nm) (by simp) hH, if_pos hc]⟩
          · cases h
        · cases h
    · cases h
  · cases h

theorem extA_fr {k : XK} {xs : List AV} {eff : Eff} {acc : Acc} (h : extA E H k xs = some (eff, acc)) : EffWf eff acc ∧ ∀ {H1 : Heap}, Agree acc H H1 → extA E H1 k xs = some (eff, acc) := by
  cases k <;> simp only [extA] at h ⊢
  case range t => exact xRange_fr h
  case next s =>
    cases s with
    | true => cases h
    | false => exact xNext_fr h
  case entry => exact xEntry_fr h
  case mapEntry t => exact xMapEntry_fr h
  case entryStore => exact xEntryStore_fr h
  case delete t => exact xDelete_fr h
  case makeSlice t => exact ⟨xMakeSlice_wf h, fun _ => h⟩
  case cap t => exact ⟨xCap_wf h, fun _ => h⟩
  case clear t => exact xClear_fr h
  case appendZ t => exact ⟨xAppendZ_wf h, fun _ => h⟩

def laysX : XK → Bool
  | .range _ | .makeSlice _ | .appendZ _ => true
  | _ => false

def notLoop (ob : AO) : Prop := ∀ s p tm ps a b, ob ≠ .loop s p tm ps a b

/-- What effects these have. -/
theorem extA_shape {k : XK} {xs : List AV} {eff : Eff} {acc : Acc} (h : extA E H k xs = some (eff, acc)) :
    (∃ v, eff = .val v) ∨ (∃ nm ob v, eff = .put nm ob v ∧ notLoop ob) ∨ (laysX k = true ∧ ∃ ob f, eff = .new ob f ∧ notLoop ob) := by
  have nl : ∀ {nm ob v}, notLoop ob → (∃ v', Eff.put nm ob v = .val v') ∨ (∃ nm' ob' v', Eff.put nm ob v = .put nm' ob' v' ∧ notLoop ob') ∨ (laysX k = true ∧ ∃ ob' f, Eff.put nm ob v = .new ob' f ∧ notLoop ob') := fun h => .inr (.inl ⟨_, _, _, rfl, h⟩)
  cases k <;> simp only [extA] at h
  case range t =>
    unfold xRange at h
    split at h
    · simp only [Option.bind_eq_some_iff] at h
      obtain ⟨i, hi, h⟩ := h
      split at h
      · cases h; exact .inr (.inr ⟨rfl, _, _, rfl, fun _ _ _ _ _ _ q => by cases q⟩)
      · cases h
    · simp only [Option.bind_eq_some_iff] at h
      obtain ⟨i, hi, h⟩ := h
      split at h
      · cases h; exact .inr (.inr ⟨rfl, _, _, rfl, fun _ _ _ _ _ _ q => by cases q⟩)
      · cases h
    · cases h
  case next s =>
    cases s with
    | true => cases h
    | false =>
      simp only [Bool.false_eq_true, if_false] at h
      unfold xNext at h
      split at h
      · split at h
        · cases h; exact .inl ⟨_, rfl⟩
        · split at h
          · split at h
            · cases h
            · split at h
              · cases h; exact .inl ⟨_, rfl⟩
              · split at h
                · cases h; exact nl fun _ _ _ _ _ _ q => by cases q
                · cases h
              · cases h
          · cases h
        · cases h
      · cases h
  case entry =>
    unfold xEntry at h
    split at h
    · split at h
      · split at h
        · split at h
          · simp only [Option.map_eq_some_iff] at h
            obtain ⟨_, _, h⟩ := h
            cases h; exact .inl ⟨_, rfl⟩
          · cases h
        · cases h
      · cases h
    · cases h
  case mapEntry t =>
    unfold xMapEntry at h
    split at h
    · simp only [Option.bind_eq_some_iff] at h
      obtain ⟨i, hi, h⟩ := h
      split at h
      · simp only [Option.bind_eq_some_iff] at h
        obtain ⟨ki, hki, vi, hvi, h⟩ := h
        split at h
        · split at h
          · split at h
            · split at h
              · cases h; exact nl fun _ _ _ _ _ _ q => by cases q
              · simp only [Option.bind_eq_some_iff] at h
                obtain ⟨z, hz, h⟩ := h
                cases h; exact nl fun _ _ _ _ _ _ q => by cases q
              · cases h
            · cases h
          · cases h
        · cases h
      · cases h
    · cases h
  case entryStore =>
    unfold xEntryStore at h
    split at h
    · split at h
      · split at h
        · simp only [Option.map_eq_some_iff] at h
          obtain ⟨_, _, h⟩ := h
          cases h; exact nl fun _ _ _ _ _ _ q => by cases q
        · cases h
      · cases h
    · cases h
  case delete t =>
    unfold xDelete at h
    split at h
    · simp only [Option.bind_eq_some_iff] at h
      obtain ⟨i, hi, h⟩ := h
      split at h
      · simp only [Option.bind_eq_some_iff] at h
        obtain ⟨ki, hki, h⟩ := h
        split at h
        · split at h
          · split at h
            · split at h
              · cases h; exact nl fun _ _ _ _ _ _ q => by cases q
              · cases h; exact nl fun _ _ _ _ _ _ q => by cases q
              · cases h
            · cases h
          · cases h
        · cases h
      · cases h
    · cases h
  case makeSlice t =>
    unfold xMakeSlice at h
    split at h
    · simp only [Option.bind_eq_some_iff] at h
      obtain ⟨i, hi, h⟩ := h
      split at h
      · simp only [Option.bind_eq_some_iff] at h
        obtain ⟨ei, hei, h⟩ := h
        split at h
        · cases h; exact .inr (.inr ⟨rfl, _, _, rfl, fun _ _ _ _ _ _ q => by cases q⟩)
        · cases h
      · cases h
    · cases h
  case appendZ t =>
    unfold xAppendZ at h
    split at h
    · simp only [Option.bind_eq_some_iff] at h
      obtain ⟨i, hi, h⟩ := h
      split at h
      · simp only [Option.bind_eq_some_iff] at h
        obtain ⟨ei, hei, h⟩ := h
        split at h
        · cases h; exact .inr (.inr ⟨rfl, _, _, rfl, fun _ _ _ _ _ _ q => by cases q⟩)
        · cases h
      · cases h
    · cases h
  case cap t =>
    unfold xCap at h
    split at h
    · simp only [Option.bind_eq_some_iff] at h
      obtain ⟨i, hi, h⟩ := h
      split at h
      · cases h; exact .inl ⟨_, rfl⟩
      · cases h
    · cases h
  case clear t =>
    unfold xClear at h
    split at h
    · simp only [Option.bind_eq_some_iff] at h
      obtain ⟨i, hi, h⟩ := h
      split at h
      · cases h; exact .inl ⟨_, rfl⟩
      · cases h
    · simp only [Option.bind_eq_some_iff] at h
      obtain ⟨i, hi, h⟩ := h
      split at h
      · simp only [Option.bind_eq_some_iff] at h
        obtain ⟨ei, hei, h⟩ := h
        split at h
        · cases h; exact .inl ⟨_, rfl⟩
        · split at h
          · split at h
            · cases h; exact nl fun _ _ _ _ _ _ q => by cases q
            · cases h
          · cases h
      · cases h
    · cases h

theorem evalOp_fr {tm : List AV} {o : Oper} {eff : Eff} {acc : Acc} (h : evalOp E tm H o = some (eff, acc)) : EffWf eff acc ∧ ∀ {H1 : Heap}, Agree acc H H1 → evalOp E tm H1 o = some (eff, acc) := by
  have hv : ∀ {x : Option AV}, (x.map fun x => (Eff.val x, Acc.none)) = some (eff, acc) → EffWf eff acc := by
    intro x hx
    cases x with
    | none => simp at hx
    | some x => simp at hx; obtain ⟨rfl, rfl⟩ := hx; exact ⟨rfl, trivial⟩
  unfold evalOp at h ⊢
  cases hop : o.op <;> simp only [hop] at h ⊢ <;> first
    | exact ⟨hv h, fun _ => h⟩
    | (cases h; done)
    | skip
  case pick c a b =>
    split at h
    · rename_i hb; exact ⟨hv h, fun _ => h⟩
    · cases h
  case alloc t =>
    cases hi : E.ty t with
    | none => simp [hi] at h
    | some i => simp [hi] at h ⊢; obtain ⟨rfl, rfl⟩ := h; exact ⟨⟨rfl, trivial⟩, fun _ => ⟨rfl, rfl⟩⟩
  case box t x =>
    cases hi : E.ty t with
    | none => simp [hi] at h
    | some i => simp [hi] at h ⊢; obtain ⟨rfl, rfl⟩ := h; exact ⟨⟨rfl, trivial⟩, fun _ => ⟨rfl, rfl⟩⟩
  case buildSlice t n ps =>
    refine ⟨?_, fun _ => h⟩
    cases hb : buildSliceA E t n (ps.toList.map fun (i, x) => (i, opA tm x)) with
    | none => simp [hb] at h
    | some ef =>
      simp [hb] at h; obtain ⟨rfl, rfl⟩ := h
      obtain ⟨o1, f1, rfl⟩ := buildSliceA_new hb
      exact ⟨rfl, trivial⟩
  case load t a =>
    cases hl : loadA E H t (opA tm a) with
    | none => simp [hl] at h
    | some q =>
      obtain ⟨x, ac⟩ := q
      simp [hl] at h; obtain ⟨rfl, rfl⟩ := h
      exact ⟨⟨loadA_all hl, trivial⟩, fun ha => by simp [loadA_fr hl ha]⟩
  case store t a x =>
    obtain ⟨h1, h2⟩ := storeA_fr h
    exact ⟨h1, fun ha => h2 ha⟩
  case mapUpdate t a x y =>
    obtain ⟨h1, h2⟩ := updateA_fr h
    exact ⟨h1, fun ha => h2 ha⟩
  case range | next | entry | mapEntry | entryStore | makeSlice => exact extA_fr h
  case nilCheck x =>
    split at h
    · rename_i hb; exact ⟨hv (x := some _) h, fun _ => h⟩
    · rename_i hb; exact ⟨hv (x := some _) h, fun _ => h⟩
    · rename_i hb; exact ⟨hv (x := some _) h, fun _ => h⟩
    · cases h
  case convert s d x =>
    obtain ⟨h1, h2⟩ := convA_fr h
    exact ⟨h1, fun ha => h2 ha⟩
  case makeInterface t x =>
    refine ⟨?_, fun _ => h⟩
    cases hi : E.ty t with
    | none => simp [hi] at h
    | some i =>
      simp only [hi, Option.bind_some] at h
      split at h
      · cases h
      · exact hv (x := some _) h
  case makeFunc f fs cs =>
    cases f <;> simp only at h ⊢ <;> first
      | (cases h; done)
      | skip
    refine ⟨?_, fun _ => h⟩
    split at h
    · exact hv (x := some _) h
    · cases h
  case makeMap t r =>
    cases r with
    | some r => simp at h
    | none =>
      simp only at h ⊢
      refine ⟨?_, fun _ => h⟩
      cases hi : E.ty t with
      | none => simp [hi] at h
      | some i =>
        simp only [hi, Option.bind_some] at h
        split at h
        · simp at h; obtain ⟨rfl, rfl⟩ := h; exact ⟨rfl, trivial⟩
        · cases h
  case lookup t x k ok =>
    cases hl : lookupA E H t (opA tm x) (opA tm k) ok with
    | none => simp [hl] at h
    | some q =>
      obtain ⟨y, ac⟩ := q
      simp [hl] at h; obtain ⟨rfl, rfl⟩ := h
      exact ⟨⟨(lookupA_fr hl ⟨fun nm _ => sameFr.refl H[nm]?, fun _ _ => rfl⟩).2, trivial⟩, fun ha => by simp [(lookupA_fr hl ha).1]⟩
  case extract t i =>
    split at h
    · rename_i hb; exact ⟨hv h, fun _ => h⟩
    · cases h
  case call c =>
    cases hc : c.callee with
    | value f =>
      simp only [hc] at h ⊢
      refine ⟨?_, fun _ => h⟩
      cases hca : calleeA tm f with
      | none => simp [hca] at h
      | some q => obtain ⟨t, caps⟩ := q; simp [hca] at h; obtain ⟨rfl, rfl⟩ := h; exact ⟨rfl, rfl⟩
    | invoke r n => simp [hc] at h
    | builtin b =>
      have hx : ∀ {b : Builtin}, (match c.argTypes.toList with
          | t :: _ => (builtinX b t).bind fun k => extA E H k (c.args.toList.map (opA tm))
          | [] => Option.none) = some (eff, acc) → EffWf eff acc ∧ ∀ {H1 : Heap}, Agree acc H H1 → (match c.argTypes.toList with
          | t :: _ => (builtinX b t).bind fun k => extA E H1 k (c.args.toList.map (opA tm))
          | [] => Option.none) = some (eff, acc) := fun {b} h => by
        split at h
        · simp only [Option.bind_eq_some_iff] at h
          obtain ⟨k, hk, h⟩ := h
          obtain ⟨g1, g2⟩ := extA_fr h
          exact ⟨g1, fun ha => by simp only [hk, Option.bind_some]; exact g2 ha⟩
        · cases h
      cases b <;> simp only [hc] at h ⊢ <;> first
        | exact ⟨hv h, fun _ => h⟩
        | (cases h; done)
        | exact hx h
        | skip
      · split at h
        · rename_i t t2 s x h1 h2
          cases hi : E.ty t2 with
          | none => simp [hi] at h
          | some i =>
            simp only [hi, Option.bind_some] at h
            split at h
            · rename_i hd
              obtain ⟨g1, g2⟩ := appendA_fr h
              exact ⟨g1, fun ha => by simp [h1, h2, hi, hd, g2 ha]⟩
            · rename_i hd
              obtain ⟨g1, g2⟩ := appendA_fr h
              exact ⟨g1, fun ha => by simp [h1, h2, hi, hd, g2 ha]⟩
            · rename_i kn hd
              obtain ⟨g1, g2⟩ := extA_fr h
              exact ⟨g1, fun ha => by simp [h1, h2, hi, hd, g2 ha]⟩
            · cases h
        · cases h
      · split at h
        · rename_i t x h1 h2
          cases hl : lenA E H t (opA tm x) with
          | none => simp [hl] at h
          | some q =>
            obtain ⟨y, ac⟩ := q
            simp [hl] at h; obtain ⟨rfl, rfl⟩ := h
            exact ⟨⟨(lenA_fr hl ⟨fun nm _ => sameFr.refl H[nm]?, fun _ _ => rfl⟩).2, trivial⟩, fun ha => by simp [h1, h2, (lenA_fr hl ha).1]⟩
        · cases h
end fr
end Go.Px
