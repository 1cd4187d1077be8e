/- A pure function's call: what its caller keeps. -/
import Derived.Test.YtefondfmngjekaaGreatPxM
set_option linter.unusedVariables false
set_option linter.unusedSimpArgs false
namespace Go.Px
open Go

section
variable {P : Program} {E : Env} {base : Nat} {m : Mu} {S : Sett} {H : Heap} {w : World}

def m0 : Mu := fun _ => none

theorem Sx.where {ns : List Nat} (hR : Rel P base m S H w) : ∀ b j, Sx m S H ns b j → S b j ∨ (base ≤ b ∧ b < w.heap.size) := fun b j h => by
  rcases h with h | ⟨nm, e, cs, fr, o, h1, h2, h3, _⟩
  · exact .inl h
  · obtain ⟨b', q, h4, h5, h6⟩ := (hR.obj nm _ h2).mu (by simp)
    rw [h3] at h4; cases h4
    exact .inr ⟨h5, h6⟩

theorem Sx.sett {ns : List Nat} (hR : Rel P base m S H w) : ∀ b j, Sx m S H ns b j → (w.cell? ⟨b, j, none⟩).isSome = true := fun b j h => by
  rcases h with h | ⟨nm, e, cs, fr, o, h1, h2, h3, h4, h5⟩
  · exact hR.sett b j h
  · obtain ⟨b', o', n, i, r⟩ := hR.obj nm _ h2
    have hm := r.mu
    rw [h3] at hm; cases hm
    obtain ⟨d, rfl⟩ := Nat.exists_eq_add_of_le h4
    obtain ⟨v, hv, _⟩ := r.cells d cs[d] (by simp [show d < cs.length by omega])
    rw [hv]; rfl

/-- What a pure function starts from. -/
theorem callee_rel {ns : List Nat} (hR : Rel P base m S H w) : Rel P w.heap.size m0 (Sx m S H ns) [] w :=
  ⟨Nat.le_refl _, fun _ _ h => (by cases h), fun _ _ h => (by simp at h), fun _ _ _ _ _ ⟨_, h, _⟩ => (by simp at h), Sx.sett hR⟩

theorem callee_args {k : Nat} {args' : List Value} {args fargs : List AV} {ns : List Nat} (hR : Rel P base m S H w) (ha : RepL m S w false args' args) (hf : fzL (fz E H k) args = some (fargs, ns)) : RepL m0 (Sx m S H ns) w false args' fargs :=
  RepL.plain (fun _ _ h => h) (fun _ _ _ => rfl) false (fzL_rep (fun h1 h2 => fz_rep hR k h1 h2) ha hf)

theorem markAll_get (H : Heap) (ns : List Nat) (nm : Nat) : (markAll H ns)[nm]? = (H[nm]?).map fun o => if nm ∈ ns then mkO o else o := by
  rw [markAll_mapIdx, List.getElem?_mapIdx]

theorem markAll_length (H : Heap) (ns : List Nat) : (markAll H ns).length = H.length := by rw [markAll_mapIdx]; simp

/-- WHAT A PURE FUNCTION LEAVES. -/
theorem pure_call (hR : Rel P base m S H w) {k k2 : Nat} {args fargs : List AV} {ns : List Nat} (hf : fzL (fz E H k) args = some (fargs, ns)) {m2 : Mu} {S2 : Sett} {H2 : Heap} {w2 : World}
    (hk : Step P w.heap.size m0 (Sx m S H ns) [] w m2 S2 H2 w2) {v : Value} {r r' : AV} {ns2 : List Nat} (hv : Rep m2 S2 w2 false v r) (hfr : fz E H2 k2 r = some (r', ns2)) :
    ∃ S', Step P base m S H w m S' (if flat r' then H else markAll H ns) w2 ∧ Rep m S' w2 false v r' := by
  have hrep := fz_rep hk.rel k2 hv hfr
  have hold : ∀ b, b < w.heap.size → w2.heap[b]? = w.heap[b]? := fun b hb => hk.ext.other b hb (fun nm o ⟨_, h, _⟩ => by simp at h)
  have hcell : ∀ b j, S b j → w2.cell? ⟨b, j, none⟩ = w.cell? ⟨b, j, none⟩ := fun b j h => hk.ext.cell b j (.inl h)
  have hlt : ∀ nm o b q, H[nm]? = some o → o ≠ .dead → m nm = some (b, q) → b < w.heap.size := fun nm o b q h1 h2 h3 => by
    obtain ⟨b', q', h4, _, h6⟩ := (hR.obj nm o h1).mu h2
    rw [h3] at h4; cases h4; exact h6
  by_cases hfl : flat r' = true
  · rw [if_pos hfl]
    refine ⟨S, ⟨⟨Nat.le_trans hR.size hk.ext.size, hR.dom, fun nm o ho => ?_, hR.inj, fun b j h => by rw [hcell b j h]; exact hR.sett b j h⟩,
      ⟨fun _ _ h => h, fun _ _ h => h, hcell, hk.ext.shape, fun b hb _ => hold b hb, hk.ext.size, hk.ext.os, hk.ext.tape, hk.ext.output, hk.ext.loop, hk.ext.froz⟩, fun nm b o hl e _ => ⟨nm, o, hl, e⟩, Nat.le_refl _, fun _ _ h => .inl h⟩, (flat_rep hrep hfl).weak⟩
    by_cases hd : o = .dead
    · subst hd; trivial
    · exact (hR.obj nm o ho).keep (fun _ _ h => h) (fun _ _ h => h) hcell hk.ext.shape fun b q hm => ⟨hold b (hlt nm o b q ho hd hm), fun _ h => h⟩
  · rw [if_neg hfl]
    let S' := Sx m2 S2 H2 ns2
    have hsub0 : ∀ b j, Sx m S H ns b j → S' b j := fun b j h => .inl (hk.ext.sub b j h)
    have hsub : ∀ b j, S b j → S' b j := fun b j h => hsub0 b j (.inl h)
    have hnew : ∀ b j, S' b j → b < w.heap.size → Sx m S H ns b j := fun b j h hb => by
      rcases Sx.where hk.rel b j h with h | h
      · rcases hk.grow b j h with h | h
        · exact h
        · omega
      · omega
    have hlive : ∀ nm, live (markAll H ns) nm → live H nm := fun nm ⟨o, h, hne⟩ => by
      rw [markAll_get] at h
      cases ho : H[nm]? with
      | none => simp [ho] at h
      | some o0 =>
        refine ⟨o0, ho, fun e => ?_⟩
        subst e
        simp [ho, mkO] at h
        exact hne h.symm
    have hsx : ∀ nm o b q j, H[nm]? = some o → o ≠ .dead → m nm = some (b, q) → S' b j → S b j ∨ (nm ∈ ns ∧ ∃ e cs fr, o = .row e cs fr ∧ q ≤ j ∧ j < q + cs.length) := fun nm o b q j h1 h2 h3 h4 => by
      rcases hnew b j h4 (hlt nm o b q h1 h2 h3) with h | ⟨nm', e, cs, fr, o', g1, g2, g3, g4, g5⟩
      · exact .inl h
      · have hnn := hR.inj nm nm' b q o' ⟨o, h1, h2⟩ ⟨_, g2, by simp⟩ h3 g3
        subst hnn
        rw [h1] at g2; cases g2
        rw [h3] at g3; cases g3
        exact .inr ⟨g1, e, cs, fr, rfl, g4, g5⟩
    refine ⟨S', ⟨⟨Nat.le_trans hR.size hk.ext.size, fun nm p h => by rw [markAll_length]; exact hR.dom nm p h, fun nm o' ho' => ?_, fun nm nm' b o o' h1 h2 => hR.inj nm nm' b o o' (hlive nm h1) (hlive nm' h2), Sx.sett hk.rel⟩,
      ⟨fun _ _ h => h, hsub, hcell, hk.ext.shape, fun b hb _ => hold b hb, hk.ext.size, hk.ext.os, hk.ext.tape, hk.ext.output, hk.ext.loop, hk.ext.froz⟩, fun nm b o hl e _ => ⟨nm, o, hlive nm hl, e⟩, by rw [markAll_length]; exact Nat.le_refl _, fun b j h => ?_⟩,
      Rep.plain (fun _ _ h => h) (fun _ _ _ => rfl) false hrep⟩
    · rw [markAll_get] at ho'
      cases ho : H[nm]? with
      | none => simp [ho] at ho'
      | some o =>
        simp only [ho, Option.map_some, Option.some.injEq] at ho'
        by_cases hd : o = .dead
        · subst hd
          simp [mkO] at ho'; subst ho'; trivial
        · by_cases hc : nm ∈ ns ∧ ∃ e cs fr, o = .row e cs fr
          · obtain ⟨hn, e, cs, fr, rfl⟩ := hc
            simp [hn, mkO] at ho'; subst ho'
            obtain ⟨b, q, n, i, r⟩ := hR.obj nm _ ho
            have hb := hlt nm _ b q ho (by simp) r.mu
            have hc2 : ∀ j, w2.cell? ⟨b, j, none⟩ = w.cell? ⟨b, j, none⟩ := fun j => by simp [World.cell?, hold b hb]
            refine ⟨b, q, n, i, r.mu, r.base, hk.ext.shape _ _ _ r.shape, r.fits, fun j => by have := r.free j; simpa [World.frozen?, hold b hb] using this, fun j x hx => ?_, r.info, fun _ j hj => hsub0 _ _ (.inr ⟨nm, e, cs, fr, q, hn, ho, r.mu, by omega, by omega⟩), (fun h => by cases h), fun j h => ?_⟩
            · obtain ⟨u, h1, h2, h3⟩ := r.cells j x hx
              exact ⟨u, (hc2 _).trans h1, Rep.keep (fun _ _ h => h) hsub hcell hk.ext.shape h2, h3⟩
            · rcases hsx nm _ b q j ho (by simp) r.mu h with h | ⟨_, e', cs', fr', he, _, h2⟩
              · exact r.top j h
              · cases he; exact h2
          · have heq : o' = o := by
              rw [← ho']
              split
              · rename_i hn
                cases o with
                | row e cs fr => exact absurd ⟨hn, _, _, _, rfl⟩ hc
                | _ => rfl
              · rfl
            subst heq
            refine (hR.obj nm o' ho).keep (fun _ _ h => h) hsub hcell hk.ext.shape fun b q hm => ⟨hold b (hlt nm o' b q ho hd hm), fun j hj => ?_⟩
            rcases hsx nm o' b q j ho hd hm hj with h | ⟨hn, e, cs, fr, he, _⟩
            · exact h
            · exact absurd ⟨hn, e, cs, fr, he⟩ hc
    · rcases Sx.where hk.rel b j h with h | h
      · rcases hk.grow b j h with h | h
        · rcases Sx.where hR b j h with h | h
          · exact .inl h
          · exact .inr h.1
        · exact .inr (Nat.le_trans hR.size h)
      · exact .inr (Nat.le_trans hR.size h.1)
end
end Go.Px
