/- Freezing: a value as it stands; a pure function's call. -/
import Derived.Test.YtefondfmngjekaaGreatPxG
import Derived.Test.YtefondfmngjekaaGreatPxI
set_option linter.unusedVariables false
set_option linter.unusedSimpArgs false
namespace Go.Px
open Go

/-- The settled cells, with those of some rows. -/
def Sx (m : Mu) (S : Sett) (H : Heap) (ns : List Nat) : Sett := fun b j => S b j ∨ ∃ nm e cs fr o, nm ∈ ns ∧ H[nm]? = some (.row e cs fr) ∧ m nm = some (b, o) ∧ o ≤ j ∧ j < o + cs.length

theorem Sx.mono {m : Mu} {S : Sett} {H : Heap} {ns ns' : List Nat} (h : ∀ x, x ∈ ns → x ∈ ns') : ∀ b j, Sx m S H ns b j → Sx m S H ns' b j := fun b j hs => by
  rcases hs with hs | ⟨nm, e, cs, fr, o, h1, h2⟩
  · exact .inl hs
  · exact .inr ⟨nm, e, cs, fr, o, h _ h1, h2⟩

section
variable {P : Program} {E : Env} {base : Nat} {m : Mu} {S : Sett} {H : Heap} {w : World}

theorem Rep.more {S' : Sett} {nf : Bool} {v : Value} {x : AV} (h : Rep m S w nf v x) (hs : ∀ b j, S b j → S' b j) : Rep m S' w nf v x := Rep.keep (fun _ _ h => h) hs (fun _ _ _ => rfl) (fun _ _ _ h => h) h
theorem RepL.more {S' : Sett} {nf : Bool} {v : List Value} {x : List AV} (h : RepL m S w nf v x) (hs : ∀ b j, S b j → S' b j) : RepL m S' w nf v x := RepL.keep (fun _ _ h => h) hs (fun _ _ _ => rfl) (fun _ _ _ h => h) h

theorem fz_one {k : Nat} {v x : AV} {ns : List Nat} (h : fz E H k v = some (x, ns)) (h1 : one v = true) : one x = true := by
  cases k with
  | zero => simp [fz] at h
  | succ k =>
    cases v with
    | own nm off n sz =>
      simp only [fz] at h
      split at h
      · rename_i e cs fr hr
        split at h
        · cases hl : fzL (fz E H k) cs with
          | none => simp [hl] at h
          | some q => simp [hl] at h; obtain ⟨rfl, _⟩ := h; rfl
        · cases h
      · cases h
    | loc nm off =>
      simp only [fz] at h
      split at h
      · rename_i e cs fr hr
        split at h
        · cases hl : fzL (fz E H k) cs with
          | none => simp [hl] at h
          | some q => simp [hl] at h; obtain ⟨rfl, _⟩ := h; rfl
        · cases h
      · cases h
    | clo f cs =>
      simp only [fz] at h
      cases hl : fzL (fz E H k) cs with
      | none => simp [hl] at h
      | some q => simp [hl] at h; obtain ⟨rfl, _⟩ := h; rfl
    | iface t y =>
      simp only [fz] at h
      cases hl : fz E H k y with
      | none => simp [hl] at h
      | some q => simp [hl] at h; obtain ⟨rfl, _⟩ := h; rfl
    | undef => simp [one] at h1
    | agg cs => simp [one] at h1
    | tup cs => simp [one] at h1
    | yield l => simp [fz] at h
    | map l => simp [fz] at h
    | _ => simp [fz] at h; obtain ⟨rfl, _⟩ := h; exact h1

theorem fzL_get {f : AV → Option (AV × List Nat)} : ∀ {l : List AV} {r : List AV} {ns : List Nat}, fzL f l = some (r, ns) → r.length = l.length ∧ ∀ (i : Nat) (v : AV), l[i]? = some v → ∃ x ms, r[i]? = some x ∧ f v = some (x, ms) ∧ ∀ y, y ∈ ms → y ∈ ns
  | [], r, ns, h => by
    simp [fzL] at h
    obtain ⟨rfl, rfl⟩ := h
    exact ⟨rfl, fun i v hv => by simp at hv⟩
  | v :: l, r, ns, h => by
    simp only [fzL, Option.bind_eq_bind] at h
    cases hv : f v with
    | none => simp [hv] at h
    | some q =>
      obtain ⟨x, ms⟩ := q
      cases hl : fzL f l with
      | none => simp [hv, hl] at h
      | some q2 =>
        obtain ⟨xs, ms2⟩ := q2
        simp [hv, hl] at h
        obtain ⟨rfl, rfl⟩ := h
        obtain ⟨g1, g2⟩ := fzL_get hl
        refine ⟨by simp [g1], fun i u hu => ?_⟩
        cases i with
        | zero => simp at hu; subst hu; exact ⟨x, ms, rfl, hv, fun y hy => List.mem_append_left _ hy⟩
        | succ i =>
          obtain ⟨y, ms3, a1, a2, a3⟩ := g2 i u (by simpa using hu)
          exact ⟨y, ms3, by simpa using a1, a2, fun z hz => List.mem_append_right _ (a3 z hz)⟩

theorem fzL_rep {k : Nat} (ih : ∀ {v' : Value} {v x : AV} {ns : List Nat}, Rep m S w false v' v → fz E H k v = some (x, ns) → Rep m (Sx m S H ns) w true v' x) {vs' : List Value} {vs r : List AV} {ns : List Nat}
    (h : RepL m S w false vs' vs) (hf : fzL (fz E H k) vs = some (r, ns)) : RepL m (Sx m S H ns) w true vs' r := by
  obtain ⟨g1, g2⟩ := fzL_get hf
  refine RepL.of_get (by rw [g1, h.length]) fun i x hx => ?_
  have hi : i < vs.length := by rw [← g1]; exact (List.getElem?_eq_some_iff.1 hx).1
  obtain ⟨y, ms, a1, a2, a3⟩ := g2 i vs[i] (by simp [hi])
  rw [hx] at a1; cases a1
  obtain ⟨v', b1, b2⟩ := h.get (i := i) (x := vs[i]) (by simp [hi])
  exact ⟨v', b1, (ih b2 a2).more (Sx.mono a3)⟩

theorem fzL_one {k : Nat} {vs r : List AV} {ns : List Nat} (hf : fzL (fz E H k) vs = some (r, ns)) (h1 : ∀ x ∈ vs, one x = true) : ∀ x ∈ r, one x = true := by
  obtain ⟨g1, g2⟩ := fzL_get hf
  intro x hx
  obtain ⟨i, hi⟩ := List.getElem?_of_mem hx
  have hlt : i < vs.length := by rw [← g1]; exact (List.getElem?_eq_some_iff.1 hi).1
  obtain ⟨y, ms, a1, a2, _⟩ := g2 i vs[i] (by simp [hlt])
  rw [hi] at a1; cases a1
  exact fz_one a2 (h1 _ (List.getElem_mem hlt))

/-- A row of the heap, frozen. -/
theorem row_frozen (hR : Rel P base m S H w) {k : Nat} (ih : ∀ {v' : Value} {v x : AV} {ns : List Nat}, Rep m S w false v' v → fz E H k v = some (x, ns) → Rep m (Sx m S H ns) w true v' x) {nm : Nat} {e : TypeId} {cs : List AV} {fr : Bool}
    (hrow : H[nm]? = some (.row e cs fr)) {l : List AV} {ns : List Nat} (hf : fzL (fz E H k) cs = some (l, ns)) {b o : Nat} (hm : m nm = some (b, o)) : Row m (Sx m S H (nm :: ns)) w ⟨b, o, none⟩ l := by
  obtain ⟨b', o', n, i, r⟩ := hR.obj nm _ hrow
  have hmu := r.mu
  rw [hm] at hmu; cases hmu
  obtain ⟨g1, g2⟩ := fzL_get hf
  refine Row.of_get fun i x hx => ?_
  have hlt : i < cs.length := by rw [← g1]; exact (List.getElem?_eq_some_iff.1 hx).1
  obtain ⟨y, ms, a1, a2, a3⟩ := g2 i cs[i] (by simp [hlt])
  rw [hx] at a1; cases a1
  obtain ⟨v, c1, c2, c3⟩ := r.cells i cs[i] (by simp [hlt])
  exact ⟨.inr ⟨nm, e, cs, fr, o, by simp, hrow, hm, by omega, by omega⟩, v, c1, (ih c2 a2).more (Sx.mono fun y hy => List.mem_cons_of_mem _ (a3 y hy)), fz_one a2 c3⟩

/-- A VALUE AS IT STANDS. -/
theorem fz_rep (hR : Rel P base m S H w) : ∀ (k : Nat) {v' : Value} {v x : AV} {ns : List Nat}, Rep m S w false v' v → fz E H k v = some (x, ns) → Rep m (Sx m S H ns) w true v' x := by
  intro k
  induction k with
  | zero => intro v' v x ns _ h; simp [fz] at h
  | succ k ih =>
    intro v' v x ns hv h
    have hS : ∀ b j, S b j → Sx m S H ns b j := fun b j h => .inl h
    cases hv with
    | undef => simp [fz] at h
    | bool => simp [fz] at h; obtain ⟨rfl, rfl⟩ := h; exact .bool _ _
    | int => simp [fz] at h; obtain ⟨rfl, rfl⟩ := h; exact .int _ _ _
    | str _ s l hs => simp [fz] at h; obtain ⟨rfl, rfl⟩ := h; exact .str _ _ _ hs
    | nilsl _ full => simp [fz] at h; obtain ⟨rfl, rfl⟩ := h; exact .nilsl _ _
    | sl _ a n c cells full h1 h2 h3 => simp [fz] at h; obtain ⟨rfl, rfl⟩ := h; exact .sl _ a n c cells full h1 h2 (Row.keep (fun _ _ h => h) hS (fun _ _ _ => rfl) (fun _ _ _ h => h) h3)
    | own nm off n sz c b o h1 h2 h3 =>
      simp only [fz] at h
      split at h
      · rename_i e cs fr hrow
        split at h
        · rename_i hle
          cases hl : fzL (fz E H k) cs with
          | none => simp [hl] at h
          | some q =>
            obtain ⟨l, ms⟩ := q
            simp [hl] at h; obtain ⟨rfl, rfl⟩ := h
            have hrw := row_frozen hR ih hrow hl h1
            refine .sl _ _ n c _ false h2 (fun h => by cases h) ?_
            by_cases hne : l = []
            · subst hne; simp; exact .nil _
            · have := (hrw.drop off).take (n * sz)
              rw [addr_add] at this
              exact this
        · cases h
      · cases h
    | own0 nm off sz b o a h1 =>
      simp only [fz] at h
      split at h
      · rename_i e cs fr hrow
        split at h
        · cases hl : fzL (fz E H k) cs with
          | none => simp [hl] at h
          | some q =>
            obtain ⟨l, ms⟩ := q
            simp [hl] at h; obtain ⟨rfl, rfl⟩ := h
            cases a with
            | none => exact .nilsl _ _
            | some a => exact .sl _ a 0 0 [] false (Nat.le_refl _) (fun h => by cases h) (.nil _)
        · cases h
      · cases h
    | agg _ cs xs hl h1 =>
      simp only [fz] at h
      cases hf : fzL (fz E H k) xs with
      | none => simp [hf] at h
      | some q =>
        obtain ⟨l, ms⟩ := q
        simp [hf] at h; obtain ⟨rfl, rfl⟩ := h
        exact .agg _ _ _ (fzL_rep ih hl hf) (fzL_one hf h1)
    | tup _ cs xs hl =>
      simp only [fz] at h
      cases hf : fzL (fz E H k) xs with
      | none => simp [hf] at h
      | some q =>
        obtain ⟨l, ms⟩ := q
        simp [hf] at h; obtain ⟨rfl, rfl⟩ := h
        exact .tup _ _ _ (fzL_rep ih hl hf)
    | clo _ f cs xs hl =>
      simp only [fz] at h
      cases hf : fzL (fz E H k) xs with
      | none => simp [hf] at h
      | some q =>
        obtain ⟨l, ms⟩ := q
        simp [hf] at h; obtain ⟨rfl, rfl⟩ := h
        exact .clo _ _ _ _ (fzL_rep ih hl hf)
    | yield l b hm => simp [fz] at h
    | nilFunc => simp [fz] at h; obtain ⟨rfl, rfl⟩ := h; exact .nilFunc _
    | nilIface => simp [fz] at h; obtain ⟨rfl, rfl⟩ := h; exact .nilIface _
    | iface _ t v0 x0 h0 =>
      simp only [fz] at h
      cases hf : fz E H k x0 with
      | none => simp [hf] at h
      | some q =>
        obtain ⟨y, ms⟩ := q
        simp [hf] at h; obtain ⟨rfl, rfl⟩ := h
        exact .iface _ _ _ _ (ih h0 hf)
    | ref _ a cells h1 h2 => simp [fz] at h; obtain ⟨rfl, rfl⟩ := h; exact .ref _ _ _ (Row.keep (fun _ _ h => h) hS (fun _ _ _ => rfl) (fun _ _ _ h => h) h1) h2
    | loc nm off b o h1 =>
      simp only [fz] at h
      split at h
      · rename_i e cs fr hrow
        split at h
        · rename_i hlt
          cases hl : fzL (fz E H k) cs with
          | none => simp [hl] at h
          | some q =>
            obtain ⟨l, ms⟩ := q
            simp [hl] at h; obtain ⟨rfl, rfl⟩ := h
            have hrw := row_frozen hR ih hrow hl h1
            have hlen := (fzL_get hl).1
            have hne : l ≠ [] := fun e => by rw [e] at hlen; simp at hlen; omega
            refine .ref _ _ _ ?_ (fun e => ?_)
            · have := hrw.drop off
              rw [addr_add] at this
              exact this
            · have := congrArg List.length e
              simp at this; omega
        · cases h
      · cases h
    | nilptr => simp [fz] at h; obtain ⟨rfl, rfl⟩ := h; exact .nilptr _
    | map nm b h1 => simp [fz] at h
    | nilmap => simp [fz] at h; obtain ⟨rfl, rfl⟩ := h; exact .nilmap _
    | res _ k n r M h0 h1 => simp [fz] at h; obtain ⟨rfl, rfl⟩ := h; exact .res _ k n r M h0 h1

/-- A few scalars lie nowhere. -/
theorem flat1_rep {m' : Mu} {S' : Sett} {w' : World} {v : Value} {x : AV} (h : Rep m S w true v x) (hf : flat1 x = true) : Rep m' S' w' true v x := by
  cases h <;> simp [flat1] at hf <;> first
    | exact .bool _ _
    | exact .int _ _ _
    | (exact .str _ _ _ (by assumption))
    | exact .nilFunc _
    | exact .nilIface _
    | exact .nilptr _
    | exact .nilmap _
    | (exact .res _ _ _ _ _ (by assumption) (by assumption))
theorem flatL_rep {m' : Mu} {S' : Sett} {w' : World} : ∀ {v : List Value} {x : List AV}, RepL m S w true v x → x.all flat1 = true → RepL m' S' w' true v x
  | _, _, .nil _, _ => .nil _
  | _, _, .cons _ v x vs xs h t, hf => by
    simp only [List.all_cons, Bool.and_eq_true] at hf
    exact .cons _ _ _ _ _ (flat1_rep h hf.1) (flatL_rep t hf.2)
theorem flat_rep {m' : Mu} {S' : Sett} {w' : World} {v : Value} {x : AV} (h : Rep m S w true v x) (hf : flat x = true) : Rep m' S' w' true v x := by
  cases h with
  | agg _ cs xs hl h1 => exact .agg _ _ _ (flatL_rep hl hf) h1
  | tup _ cs xs hl => exact .tup _ _ _ (flatL_rep hl hf)
  | iface _ t v x h => exact .iface _ _ _ _ (flat1_rep h hf)
  | bool => exact .bool _ _
  | int => exact .int _ _ _
  | str _ s l hs => exact .str _ _ _ hs
  | nilFunc => exact .nilFunc _
  | nilIface => exact .nilIface _
  | nilptr => exact .nilptr _
  | nilmap => exact .nilmap _
  | res _ k n r M h0 h1 => exact .res _ k n r M h0 h1
  | _ => simp [flat, flat1] at hf
end
end Go.Px
