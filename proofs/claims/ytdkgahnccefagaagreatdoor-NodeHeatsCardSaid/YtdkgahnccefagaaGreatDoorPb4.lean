/- The abstract machine, part 4: PxBd PxMm PxPo. -/
import Derived.Test.YtdkgahnccefagaaGreatDoorPb3
import Derived.ChangeSame
import Derived.RowKit3
/- strings.Builder as told functions: what copyCheck and String do (their walks at a seat are still to be written). -/
set_option linter.unusedVariables false
set_option linter.unusedSimpArgs false
namespace Go.Px
open Go

/-- copyCheck, of a builder that is the first field of a row of type 'tR' and 'len' cells: one that has not been written yet takes its own address; one that has it stays. -/
def checkB (tR len : Nat) (H : Heap) (nm off : Nat) : Option (Eff × Acc) :=
  match H[nm]? with
  | some (.row e (.nilptr :: cs) false) => if off = 0 ∧ e = tR ∧ cs.length + 1 = len then some (.put nm (.row e (.loc nm 0 :: cs) false) (.tup []), ⟨[], [nm], false⟩) else none
  | some (.row e (.loc nm' off' :: cs) false) => if off = 0 ∧ nm' = nm ∧ off' = 0 then some (.put nm (.row e (.loc nm' off' :: cs) false) (.tup []), ⟨[], [nm], false⟩) else none
  | _ => none
def sayCheckB (tR len : Nat) : List AV → Option (Heap → Option (Eff × Acc))
  | [.loc nm off] => some fun H => checkB tR len H nm off
  | _ => none

/-- String: the bytes of the buffer (its first element's type is 'tB'), which the model freezes then: its name dies. -/
def stringB (tB : Nat) (H : Heap) (nm off : Nat) : Option (Eff × Acc) :=
  match H[nm]? with
  | some (.row e cs _) => match cs[off + 1]? with
    | some (.own nm2 0 n 1) => match H[nm2]? with
      | some (.row e2 cs2 _) => if e2 = tB ∧ n ≤ cs2.length ∧ n ≠ 0 ∧ n ≤ 1000000 then (bytesA (cs2.take n)).map fun l => (.put nm2 .dead (.str l), ⟨[], [nm, nm2], false⟩) else none
      | _ => none
    | _ => none
  | _ => none
def sayStringB (tB : Nat) : List AV → Option (Heap → Option (Eff × Acc))
  | [.loc nm off] => some fun H => stringB tB H nm off
  | _ => none

theorem sayCheckB_fr (tR len : Nat) : SayFr (sayCheckB tR len) := by
  intro args p hq H eff acc h
  unfold sayCheckB at hq
  split at hq
  · rename_i nm off
    cases hq
    simp only [checkB] at h
    split at h
    · rename_i e cs hr
      split at h
      · rename_i hc
        cases h
        exact ⟨⟨⟨rfl, by simp⟩, fun t a h => by simp at h, fun H1 hA => by
          have h1 : H1[nm]? = some (.row e (.nilptr :: cs) false) := by rw [← hr]; exact (hA.2 nm (by simp)).symm
          simp only [checkB, h1, if_pos hc]⟩, LiveAcc.wr1 (Live.row hr), trivial⟩
      · cases h
    · rename_i e nm' off' cs hr
      split at h
      · rename_i hc
        cases h
        exact ⟨⟨⟨rfl, by simp⟩, fun t a h => by simp at h, fun H1 hA => by
          have h1 : H1[nm]? = some (.row e (.loc nm' off' :: cs) false) := by rw [← hr]; exact (hA.2 nm (by simp)).symm
          simp only [checkB, h1, if_pos hc]⟩, LiveAcc.wr1 (Live.row hr), trivial⟩
      · cases h
    · cases h
  · cases hq

theorem sayCheckB_nl (tR len : Nat) : ∀ args p, sayCheckB tR len args = some p → ∀ H eff acc, p H = some (eff, acc) → ∃ nm e cs f v, eff = .put nm (.row e cs f) v := by
  intro args p hq H eff acc h
  unfold sayCheckB at hq
  split at hq
  · cases hq
    simp only [checkB] at h
    split at h
    · split at h
      · cases h; exact ⟨_, _, _, _, _, rfl⟩
      · cases h
    · split at h
      · cases h; exact ⟨_, _, _, _, _, rfl⟩
      · cases h
    · cases h
  · cases hq

section
variable {P : Program} {f : Nat}
/-- copyCheck at a seat, out of its two walks. -/
theorem sayCheckB_ok {tR len : Nat} {fn : Func} (hf : P.funcs[f]? = some fn) (hname : (fn.name == "runtime.NumGoroutine") = false) (hb : fn.body.isSome = true)
    (hused : ∀ b w, w.cell? ⟨b, 0, none⟩ = some (.pointer (some ⟨b, 0, none⟩)) → Calls P f #[.pointer (some ⟨b, 0, none⟩)] w fun e w' => e = .returned (.tuple #[]) ∧ w' = w)
    (hfresh : ∀ b w n, w.cell? ⟨b, 0, none⟩ = some (.pointer none) → len ≤ n → w.shape? b = some (tR, n) → w.frozen? ⟨b, 0, none⟩ = false → Calls P f #[.pointer (some ⟨b, 0, none⟩)] w fun e w' => e = .returned (.tuple #[]) ∧ w' = w.setCell ⟨b, 0, none⟩ (.pointer (some ⟨b, 0, none⟩))) : SayOk P f (sayCheckB tR len) := by
  intro args p hq H eff acc h base sl m S w args' hR hs ha
  unfold sayCheckB at hq
  split at hq
  · rename_i nm off
    cases hq
    obtain ⟨l, hl⟩ : ∃ l, l = args'.toList := ⟨_, rfl⟩
    rw [← hl] at ha
    cases ha with
    | cons _ v _ vs _ r1 t1 =>
      cases t1
      cases r1 with
      | loc _ _ b o hm =>
        have harr : args' = #[.pointer (some ⟨b, o + off, none⟩)] := by apply Array.ext'; simpa using hl.symm
        subst harr
        simp only [checkB] at h
        split at h
        · rename_i e cs hr
          split at h
          · rename_i hc
            obtain ⟨rfl, rfl, hlen⟩ := hc
            cases h
            obtain ⟨b', o', n, info, r⟩ := hR.obj nm _ hr
            have hmu := r.mu
            rw [hm] at hmu; cases hmu
            have hz := r.z
            subst hz
            obtain ⟨v0, c1, c2, _⟩ := r.cells 0 .nilptr rfl
            cases c2
            have hst := put_row (off := 0) (us := [.pointer (some ⟨b, 0, none⟩)]) (ys := [.loc nm 0]) hR hr r (.cons _ _ _ _ _ (by simpa using Rep.loc (m := m) (S := S) (w := w) nm 0 b 0 hm) (.nil _)) (by simp [one]) (by simp)
            refine ⟨_, _, rfl, .inl ⟨enters hf hname hb _ _, fun k => back_of ⟨_, _, m, S, rfl, ?_, Gaps.set_live hr (by simp), .tup _ _ _ (.nil _)⟩ (hfresh b w n c1 (by have := r.fits; simp at this; omega) ?_ (r.free 0)) k⟩⟩
            · simpa [lay, World.setCells] using hst
            · obtain ⟨arr, rng, hh, hn⟩ := r.shape
              simp [World.shape?, hh, hn]
          · cases h
        · rename_i e nm' off' cs hr
          split at h
          · rename_i hc
            obtain ⟨rfl, rfl, rfl⟩ := hc
            cases h
            obtain ⟨b', o', n, info, r⟩ := hR.obj nm' _ hr
            have hmu := r.mu
            rw [hm] at hmu; cases hmu
            have hz := r.z
            subst hz
            obtain ⟨v0, c1, c2, _⟩ := r.cells 0 (.loc nm' 0) rfl
            cases c2 with
            | loc _ _ b2 o2 hm2 =>
              rw [hm] at hm2; cases hm2
              refine ⟨_, _, rfl, .inl ⟨enters hf hname hb _ _, fun k => back_of ⟨_, w, m, S, rfl, ?_, Gaps.set_live hr (by simp), .tup _ _ _ (.nil _)⟩ (hused b w (by simpa using c1)) k⟩⟩
              have : H.set nm' (.row e (.loc nm' 0 :: cs) false) = H := by
                apply List.ext_getElem?
                intro i
                by_cases hi : i = nm'
                · subst hi; rw [List.getElem?_set_self (List.getElem?_eq_some_iff.1 hr).1, hr]
                · rw [List.getElem?_set_ne (fun h => hi h.symm)]
              rw [this]; exact Step.refl hR
          · cases h
        · cases h
  · cases hq
end

theorem sayStringB_fr (tB : Nat) : SayFr (sayStringB tB) := by
  intro args p hq H eff acc h
  unfold sayStringB at hq
  split at hq
  · rename_i nm off
    cases hq
    simp only [stringB] at h
    split at h
    · rename_i e cs fr hr
      split at h
      · rename_i nm2 n hc
        split at h
        · rename_i e2 cs2 fr2 hr2
          split at h
          · rename_i hn
            simp only [Option.map_eq_some_iff] at h
            obtain ⟨l, hl, h⟩ := h
            cases h
            refine ⟨⟨⟨rfl, by simp⟩, fun t a h => by simp at h, fun H1 hA => ?_⟩, LiveAcc.wr2 (Live.row hr) (Live.row hr2), trivial⟩
            have h1 : H1[nm]? = some (.row e cs fr) := by rw [← hr]; exact (hA.2 nm (by simp)).symm
            have h2 : H1[nm2]? = some (.row e2 cs2 fr2) := by rw [← hr2]; exact (hA.2 nm2 (by simp)).symm
            simp only [stringB, h1, hc, h2, if_pos hn, hl, Option.map_some]
          · cases h
        · cases h
      · cases h
    · cases h
  · cases hq

theorem sayStringB_nl (tB : Nat) : ∀ args p, sayStringB tB args = some p → ∀ H eff acc, p H = some (eff, acc) → ∃ nm v, eff = .put nm .dead v := by
  intro args p hq H eff acc h
  unfold sayStringB at hq
  split at hq
  · cases hq
    simp only [stringB] at h
    split at h
    · split at h
      · split at h
        · split at h
          · simp only [Option.map_eq_some_iff] at h
            obtain ⟨l, hl, h⟩ := h
            cases h; exact ⟨_, _, rfl⟩
          · cases h
        · cases h
      · cases h
    · cases h
  · cases hq

theorem bytes_u8 {m : Mu} {S : Sett} {w : World} : ∀ {vs : List Value} {cs : List AV} {l : List Nat}, RepL m S w false vs cs → bytesA cs = some l → ∃ bs : List UInt8, vs = bs.map (fun b => Value.int .u8 b.toNat) ∧ bs.map UInt8.toNat = l
  | _, _, l, .nil _, h => by simp [bytesA] at h; subst h; exact ⟨[], rfl, rfl⟩
  | _, _, l, .cons _ v x vs xs hv t, h => by
    cases x with
    | int k n =>
      cases k <;> simp only [bytesA] at h <;> try (cases h; done)
      split at h
      · rename_i hn
        simp only [Option.map_eq_some_iff] at h
        obtain ⟨l', h1, rfl⟩ := h
        obtain ⟨bs, rfl, h2⟩ := bytes_u8 t h1
        obtain rfl := rep_int hv
        refine ⟨UInt8.ofNat n.toNat :: bs, ?_, ?_⟩
        · simp only [List.map_cons, UInt8.toNat_ofNat']
          congr 1
          congr 1
          omega
        · simp only [List.map_cons, h2, UInt8.toNat_ofNat']
          congr 1
          omega
      · cases h
    | _ => simp [bytesA] at h

theorem freeze_heap (w : World) (g n b : Nat) : (w.freeze ⟨g, 0, none⟩ n).heap[b]? = w.heap[b]? ∨ (b = g ∧ ∃ arr e r r', w.heap[b]? = some (.cells arr e r) ∧ (w.freeze ⟨g, 0, none⟩ n).heap[b]? = some (.cells arr e r')) := by
  unfold World.freeze
  split
  · exact .inl rfl
  · simp only [Array.getElem?_modify]
    by_cases hb : g = b
    · subst hb
      rw [if_pos rfl]
      cases hh : w.heap[g]? with
      | none => exact .inl rfl
      | some o =>
        cases o with
        | cells arr e r => obtain ⟨lo, hi⟩ := r; exact .inr ⟨rfl, arr, e, (lo, hi), _, rfl, rfl⟩
        | _ => exact .inl rfl
    · rw [if_neg hb]; exact .inl rfl
theorem freeze_size (w : World) (a : Addr) (n : Nat) : (w.freeze a n).heap.size = w.heap.size := by
  unfold World.freeze; split <;> simp
theorem freeze_os (w : World) (a : Addr) (n : Nat) : (w.freeze a n).os = w.os ∧ (w.freeze a n).tape = w.tape ∧ (w.freeze a n).output = w.output := by
  unfold World.freeze; split <;> exact ⟨rfl, rfl, rfl⟩

/-- An object's own block, and it alone, turns; its cells may be frozen. -/
theorem Rel.touchF {P : Program} {base : Nat} {m : Mu} {S : Sett} {H H' : Heap} {w w' : World} {nm b q : Nat} (h : Rel P base m S H w) (hlv : live H nm) (hmu : m nm = some (b, q))
    (hH : ∀ k, k ≠ nm → H'[k]? = H[k]?) (hlen : H'.length = H.length) (hlv' : ∀ o, H'[nm]? = some o → ObjIn P base m S w' nm o)
    (hw : ∀ b', b' ≠ b → w'.heap[b']? = w.heap[b']?) (hsz : w'.heap.size = w.heap.size) (hshape : ∀ b e n, Shape w b e n → Shape w' b e n)
    (hcell : ∀ b j, S b j → w'.cell? ⟨b, j, none⟩ = w.cell? ⟨b, j, none⟩) (hos : w'.os = w.os) (ht : w'.tape = w.tape) (hout : w'.output = w.output) (hlp : ∀ (b : Nat) (r : Loop), w.heap[b]? = some (Obj.loop r) → ∃ r', w'.heap[b]? = some (Obj.loop r')) : Step P base m S H w m S H' w' := by
  have hlive : ∀ k, live H' k → live H k := fun k ⟨o, e, hne⟩ => by
    by_cases hk : k = nm
    · subst hk; exact hlv
    · exact ⟨o, (hH k hk) ▸ e, hne⟩
  refine ⟨⟨by have := h.size; omega, fun k p e => by rw [hlen]; exact h.dom k p e, ?_, fun k k' b q q' hk hk' => h.inj k k' b q q' (hlive k hk) (hlive k' hk'), fun b j hs => by rw [hcell b j hs]; exact h.sett b j hs⟩,
    ⟨fun _ _ e => e, fun _ _ e => e, hcell, hshape, fun b' _ hno => hw b' (fun e => hno nm q hlv (e ▸ hmu)), by omega, hos, ht, hout, hlp⟩, fun k b q hk e _ => ⟨k, q, hlive k hk, e⟩, by omega, fun _ _ h => .inl h⟩
  intro k o e
  by_cases hk : k = nm
  · subst hk; exact hlv' o e
  · rw [hH k hk] at e
    by_cases hd : o = .dead
    · subst hd; trivial
    · refine (h.obj k o e).keep (fun _ _ e => e) (fun _ _ e => e) hcell hshape fun b' q' e2 => ⟨hw b' (fun eb => hk (h.inj k nm b q' q ⟨o, e, hd⟩ hlv (eb ▸ e2) hmu)), fun _ e => e⟩

theorem freeze_step {P : Program} {base : Nat} {m : Mu} {S : Sett} {H : Heap} {w : World} {nm g q : Nat} (h : Rel P base m S H w) (hlv : live H nm) (hmu : m nm = some (g, q)) (n : Nat) : Step P base m S H w m S (H.set nm .dead) (w.drew.freeze ⟨g, 0, none⟩ n) := by
  obtain ⟨o1, o2, o3⟩ := freeze_os w.drew ⟨g, 0, none⟩ n
  have hlt : nm < H.length := by obtain ⟨o, e, _⟩ := hlv; exact (List.getElem?_eq_some_iff.1 e).1
  have key := fun b => freeze_heap w.drew g n b
  have hd : ∀ b : Nat, w.drew.heap[b]? = w.heap[b]? := fun b => rfl
  refine h.touchF hlv hmu (fun k hk => by rw [List.getElem?_set_ne (Ne.symm hk)]) (by simp) (fun o e => ?_) (fun b hb => ?_) (by rw [freeze_size]; rfl) (fun b e k hs => ?_) (fun b j hs => ?_) o1 o2 o3 (fun b r hr => ?_)
  · rw [List.getElem?_set_self hlt] at e; cases e; trivial
  · rcases key b with h1 | ⟨h1, _⟩
    · exact h1
    · exact absurd h1 hb
  · obtain ⟨arr, rng, hh, hn⟩ := hs
    rcases key b with h1 | ⟨h1, arr', e', r, r', h2, h3⟩
    · exact ⟨arr, rng, h1.trans hh, hn⟩
    · rw [hd, hh] at h2; cases h2
      exact ⟨arr, r', h3, hn⟩
  · rcases key b with h1 | ⟨h1, arr', e', r, r', h2, h3⟩
    · simp only [World.cell?, h1, hd]
    · rw [hd] at h2
      simp only [World.cell?, h3, h2]
  · rcases key b with h1 | ⟨h1, arr', e', r0, r', h2, h3⟩
    · exact ⟨r, h1.trans hr⟩
    · rw [hd, hr] at h2; cases h2

section
variable {P : Program} {f : Nat}
/-- String at a seat, out of its walk. -/
theorem sayStringB_ok {tB : Nat} {fn : Func} (hf : P.funcs[f]? = some fn) (hname : (fn.name == "runtime.NumGoroutine") = false) (hb : fn.body.isSome = true)
    (hread : ∀ (b off g c : Nat) (l : List UInt8) (w : World) (k : Nat), w.cell? ⟨b, off + 1, none⟩ = some (.slice (some ⟨g, 0, none⟩) l.length c) → l ≠ [] → l.length ≤ c → l.length ≤ 1000000 → w.shape? g = some (tB, k) → l.length ≤ k → (∀ j x, l[j]? = some x → w.cell? ⟨g, j, none⟩ = some (.int .u8 x.toNat)) →
      Calls P f #[.pointer (some ⟨b, off, none⟩)] w fun e w' => e = .returned (.string ⟨l.toArray⟩) ∧ w' = w.drew.freeze ⟨g, 0, none⟩ l.length) : SayOk P f (sayStringB tB) := by
  intro args p hq H eff acc h base sl m S w args' hR hs ha
  unfold sayStringB at hq
  split at hq
  · rename_i nm off
    cases hq
    obtain ⟨l, hl⟩ : ∃ l, l = args'.toList := ⟨_, rfl⟩
    rw [← hl] at ha
    cases ha with
    | cons _ v _ vs _ r1 t1 =>
      cases t1
      cases r1 with
      | loc _ _ b o hm =>
        have harr : args' = #[.pointer (some ⟨b, o + off, none⟩)] := by apply Array.ext'; simpa using hl.symm
        subst harr
        simp only [stringB] at h
        split at h
        · rename_i e cs fr hr
          split at h
          · rename_i nm2 n hc
            split at h
            · rename_i e2 cs2 fr2 hr2
              split at h
              · rename_i hn
                obtain ⟨rfl, hn1, hn0, hn2⟩ := hn
                simp only [Option.map_eq_some_iff] at h
                obtain ⟨l, hl, h⟩ := h
                cases h
                obtain ⟨b', o', n', info, r⟩ := hR.obj nm _ hr
                have hmu := r.mu
                rw [hm] at hmu; cases hmu
                obtain ⟨b2, o2, k, info2, r2⟩ := hR.obj nm2 _ hr2
                have hz := r2.z
                subst hz
                obtain ⟨v0, c1, c2, _⟩ := r.cells (off + 1) _ hc
                cases c2 with
                | own0 => exact absurd rfl hn0
                | own _ _ _ _ c b3 o3 hm3 hle hsh =>
                  have hmu2 := r2.mu
                  rw [hm3] at hmu2; cases hmu2
                  obtain ⟨us, hus, hrl⟩ : ∃ us : List Value, us.length = n ∧ (∀ j x, us[j]? = some x → w.cell? ⟨b2, j, none⟩ = some x) ∧ RepL m S w false us (cs2.take n) := by
                    have hall : ∀ j, j < n → ∃ x, w.cell? ⟨b2, j, none⟩ = some x ∧ ∀ y, cs2[j]? = some y → Rep m S w false x y := fun j hj => by
                      obtain ⟨x, h1, h2, _⟩ := r2.cells j (cs2[j]'(by omega)) (List.getElem?_eq_getElem (by omega))
                      exact ⟨x, by simpa using h1, fun y hy => by rw [List.getElem?_eq_getElem (by omega)] at hy; cases hy; exact h2⟩
                    refine ⟨(List.range n).map fun j => (w.cell? ⟨b2, j, none⟩).getD Go.undef, by simp, fun j x hx => ?_, ?_⟩
                    · by_cases hj : j < n
                      · obtain ⟨y, h1, _⟩ := hall j hj
                        simp [hj, h1] at hx
                        subst hx; exact h1
                      · simp [hj] at hx
                    · refine RepL.of_get (by simp; omega) fun i y hy => ?_
                      have hi : i < n := by
                        rw [List.getElem?_take] at hy
                        split at hy
                        · assumption
                        · cases hy
                      rw [List.getElem?_take, if_pos hi] at hy
                      obtain ⟨x, h1, h2⟩ := hall i hi
                      exact ⟨x, by simp [hi, h1], h2 y hy⟩
                  obtain ⟨hcell, hrep⟩ := hrl
                  obtain ⟨bs, rfl, hbl⟩ := bytes_u8 hrep hl
                  have hlen : bs.length = n := by simpa using hus
                  subst hlen
                  obtain ⟨arr, rng, hh, hsz⟩ := r2.shape
                  refine ⟨_, _, rfl, .inl ⟨enters hf hname hb _ _, fun k' => back_of ⟨_, _, m, S, rfl, freeze_step hR ⟨_, hr2, by simp⟩ hm3 bs.length, Gaps.set_live hr2 (by simp), .str _ _ _ (by simpa using hbl)⟩
                    (hread b (o + off) b2 c bs w k (by simpa [Nat.add_assoc] using c1) (fun e => hn0 (by rw [e]; rfl)) hle hn2 (by simp [World.shape?, hh, hsz]) (by have := r2.fits; omega) (fun j x hx => ?_)) k'⟩⟩
                  exact hcell j _ (by simp [hx])
              · cases h
            · cases h
          · cases h
        · cases h
  · cases hq
end

theorem rowAt_more {P : Program} {g : TypeId → Bool} {e : TypeId} {c : Nat} (hc : 1 ≤ c) : ∀ {d : Nat}, rowAt P g d e 1 0 1 = true → rowAt P g d e c 0 1 = true
  | 0, h => by simp [rowAt] at h
  | d + 1, h => by
    unfold rowAt at h ⊢
    simp only at h ⊢
    split at h
    · cases h
    · rename_i h0
      rw [if_neg h0]
      simp only [Nat.zero_div, Nat.zero_mod, Bool.or_eq_true, Bool.and_eq_true, decide_eq_true_eq] at h ⊢
      rcases h with ⟨⟨h1, h2⟩, h3⟩ | ⟨h1, h2⟩
      · exact .inl ⟨⟨h1, by omega⟩, h3⟩
      · exact .inr ⟨by omega, h2⟩
theorem lies_more {P : Program} {e u : TypeId} {c : Nat} (hd : P.depth ≠ 0) (hc : 1 ≤ c) (h : rowAt P (sameLayout P P.depth · u) P.depth e 1 0 1 = true) : liesAt P P.depth e c 0 u 1 = true := by
  have h2 := rowAt_more hc h
  generalize hD : P.depth = D at *
  cases D with
  | zero => exact absurd rfl hd
  | succ D => unfold liesAt; simp only [Bool.or_eq_true]; exact .inl (by rw [hD]; exact h2)
end Go.Px
/- Told calls: a table of arguments and answers, each reckoned by itself. -/
set_option linter.unusedVariables false
set_option linter.unusedSimpArgs false
namespace Go.Px
open Go

def eqK (a b : IntKind) : Bool := Nat.beq (kcode a) (kcode b)
def eqNL : List Nat → List Nat → Bool
  | [], [] => true
  | a :: l, b :: m => if Nat.beq a b then eqNL l m else false
  | _, _ => false
theorem eqNL_ok : ∀ {l m : List Nat}, eqNL l m = true → l = m
  | [], [], _ => rfl
  | a :: l, b :: m, h => by
    simp only [eqNL] at h
    split at h
    · rename_i h1
      rw [Nat.eq_of_beq_eq_true h1, eqNL_ok h]
    · cases h
  | [], _ :: _, h => by cases h
  | _ :: _, [], h => by cases h
def eqI : Int → Int → Bool
  | .ofNat a, .ofNat b => Nat.beq a b
  | .negSucc a, .negSucc b => Nat.beq a b
  | _, _ => false
theorem eqI_ok : ∀ {a b : Int}, eqI a b = true → a = b
  | .ofNat a, .ofNat b, h => by rw [Nat.eq_of_beq_eq_true h]
  | .negSucc a, .negSucc b, h => by rw [Nat.eq_of_beq_eq_true h]
  | .ofNat _, .negSucc _, h => by cases h
  | .negSucc _, .ofNat _, h => by cases h

mutual
/-- The same value, both of them frozen. -/
def eqV : AV → AV → Bool
  | .bool a, .bool b => a == b
  | .int j a, .int k b => if eqK j k then eqI a b else false
  | .str a, .str b => eqNL a b
  | .sl n a f, .sl m b g => if Nat.beq n m then (if f == g then eqVL a b else false) else false
  | .agg a, .agg b => eqVL a b
  | .tup a, .tup b => eqVL a b
  | .clo f a, .clo g b => if Nat.beq f g then eqVL a b else false
  | .nilFunc, .nilFunc => true
  | .nilIface, .nilIface => true
  | .iface t a, .iface u b => if Nat.beq t u then eqV a b else false
  | .ref a, .ref b => eqVL a b
  | .nilptr, .nilptr => true
  | .nilmap, .nilmap => true
  | _, _ => false
def eqVL : List AV → List AV → Bool
  | [], [] => true
  | a :: l, b :: m => if eqV a b then eqVL l m else false
  | _, _ => false
end

mutual
theorem eqV_ok : ∀ {a b : AV}, eqV a b = true → a = b
  | .bool a, b, h => by cases b <;> simp [eqV] at h; subst h; rfl
  | .int j a, b, h => by
    cases b <;> simp [eqV] at h
    obtain ⟨h1, h2⟩ := h
    rw [kcode_inj (Nat.eq_of_beq_eq_true h1), eqI_ok h2]
  | .str a, b, h => by cases b <;> simp [eqV] at h; rw [eqNL_ok h]
  | .sl n a f, b, h => by
    cases b <;> simp [eqV] at h
    obtain ⟨rfl, rfl, h3⟩ := h
    rw [eqVL_ok h3]
  | .agg a, b, h => by cases b <;> simp [eqV] at h; rw [eqVL_ok h]
  | .tup a, b, h => by cases b <;> simp [eqV] at h; rw [eqVL_ok h]
  | .clo f a, b, h => by
    cases b <;> simp [eqV] at h
    obtain ⟨rfl, h3⟩ := h
    rw [eqVL_ok h3]
  | .nilFunc, b, h => by cases b <;> simp [eqV] at h; rfl
  | .nilIface, b, h => by cases b <;> simp [eqV] at h; rfl
  | .iface t a, b, h => by
    cases b <;> simp [eqV] at h
    obtain ⟨rfl, h3⟩ := h
    rw [eqV_ok h3]
  | .ref a, b, h => by cases b <;> simp [eqV] at h; rw [eqVL_ok h]
  | .nilptr, b, h => by cases b <;> simp [eqV] at h; rfl
  | .nilmap, b, h => by cases b <;> simp [eqV] at h; rfl
  | .undef, b, h => by cases b <;> simp [eqV] at h
  | .own .., b, h => by cases b <;> simp [eqV] at h
  | .yield _, b, h => by cases b <;> simp [eqV] at h
  | .loc .., b, h => by cases b <;> simp [eqV] at h
  | .map _, b, h => by cases b <;> simp [eqV] at h
  | .res .., b, h => by cases b <;> simp [eqV] at h
theorem eqVL_ok : ∀ {a b : List AV}, eqVL a b = true → a = b
  | [], [], _ => rfl
  | a :: l, b :: m, h => by
    simp only [eqVL] at h
    split at h
    · rename_i h1
      rw [eqV_ok h1, eqVL_ok h]
    · cases h
  | [], _ :: _, h => by cases h
  | _ :: _, [], h => by cases h
end

/-- A table of arguments and answers: the last argument is looked at first. -/
def memoF : List (List AV × AV) → List AV → Option AV
  | [], _ => none
  | (a, r) :: l, x => if eqVL a.reverse x then some r else memoF l x
def memoQ (l : List (List AV × AV)) (x : List AV) : Option AV := memoF l x.reverse
theorem memoF_ok : ∀ {l : List (List AV × AV)} {x : List AV} {r : AV}, memoF l x = some r → (x.reverse, r) ∈ l
  | (a, r0) :: l, x, r, h => by
    simp only [memoF] at h
    split at h
    · rename_i h1
      cases h
      rw [← eqVL_ok h1, List.reverse_reverse]; exact List.mem_cons_self ..
    · exact List.mem_cons_of_mem _ (memoF_ok h)
theorem memoQ_ok {l : List (List AV × AV)} {x : List AV} {r : AV} (h : memoQ l x = some r) : (x, r) ∈ l := by
  have := memoF_ok h
  rwa [List.reverse_reverse] at this

/-- Does a call answer so? -/
def saysR (x : Option (AV × Heap × Acc)) (r : AV) : Bool := match x with
  | some (v, _, _) => eqV v r
  | none => false
theorem saysR_ok {x : Option (AV × Heap × Acc)} {r : AV} (h : saysR x r = true) : ∃ H acc, x = some (r, H, acc) := by
  unfold saysR at h
  split at h
  · rw [eqV_ok h]; exact ⟨_, _, rfl⟩
  · cases h
end Go.Px
/- The row's last step, behind a walk that may have frozen cells of its own new blocks (after Derived/ChangeSame.lean's post_of_same). -/
namespace Go.Px
open Go Go.ChangeShapes Go.WideShapes Go.RowKit

theorem GrownO.frame {w w' : World} (h : GrownO w w') (p : MemPlace → Prop) : w.keptBut w' p := World.keptBut_mono (fun _ h => h.elim) h.1

variable {H : Type} {enc : TypeId × Value → H} {P : Program}
theorem post_of_sameO {f : Func} {s : ChangeSpec} {apart fresh handsOn again : Bool} {W W' : World} {args : Array Value} {v : Value} {ds gs : List (DataW H)} {before pa pv : List MemPlace}
    (hW : DataW.Whole enc P f.params.toList s.vars apart W args.toList ds gs before)
    (hres : ∀ (b : Nat) (sp : Nat → Bool) (hd : Bool), DataW.TrodAll enc P W' b sp hd f.resultTypes.toList (v.resultList f.resultTypes.size) (s.fn H (ds ++ gs)).results [])
    (hargs : ∀ sp : Nat → Bool, (∀ p ∈ before, sp p.block = true) → DataW.TrodAll enc P W' 0 sp true f.params.toList args.toList (s.fn H (ds ++ gs)).args pa)
    (hvars : ∀ sp : Nat → Bool, (∀ p ∈ before, sp p.block = true) → DataW.TrodVars enc P W' sp s.vars (s.fn H (ds ++ gs)).vars pv)
    (hps : before = pa ++ pv) (hk : W.keptBut W' (· ∈ before)) (hfz : ∀ a : Addr, a.block < W.heap.size → W'.frozen? a = W.frozen? a)
    (hok : ∀ (j : Nat) (t : TypeId) (r : Value), f.resultTypes[j]? = some t → (v.resultList f.resultTypes.size)[j]? = some r → Value.okWide P W' .any 0 t r) :
    s.post enc P f apart fresh handsOn again W args v W' := by
  have hold : ∀ p ∈ before, (fun b => decide (b < W.heap.size)) p.block = true := fun p hp => by simpa using hW.lt p hp
  have hlt := hW.lt
  refine ⟨ds, gs, before, [], pa, pv, hW, hres _ _ _, hargs _ hold, hvars _ hold, World.keptBut_mono (fun p hp => ⟨hp, ?_⟩) hk, fun _ => ?_⟩
  · rw [hps, List.mem_append] at hp
    exact Or.inr hp
  · obtain ⟨_, _, _, _, _, hz, hn⟩ := hW
    refine ⟨hok, _, _, ([] ++ pa) ++ pv, ⟨[] ++ pa, pv, trodAll_append (hargs _ (fun _ _ => rfl)) (hres _ _ _), hvars _ (fun _ _ => rfl), rfl, ?_, ?_⟩, ?_⟩
    · intro b off hp
      have hp' : MemPlace.cell b off ∈ before := by rw [hps]; simpa using hp
      rw [hfz _ (hlt _ hp')]
      exact hz b off hp'
    · intro ha
      have := hn ha
      rw [hps] at this
      simpa using this
    · intro p hp _
      rw [hps]
      simpa using hp
end Go.Px
