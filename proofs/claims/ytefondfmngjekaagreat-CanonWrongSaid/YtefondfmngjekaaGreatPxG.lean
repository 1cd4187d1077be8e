/- Appends, copies, conversions, map updates: the rest of the effects. -/
import Derived.Test.YtefondfmngjekaaGreatPxF
import Derived.Deep.Upon
set_option linter.unusedVariables false
set_option linter.unusedSimpArgs false
namespace Go.Px
open Go Go.RowKit

/-- What an effect says of the model's result. -/
def EffOk (P : Program) (base : Nat) (sl : Option Nat) (m : Mu) (S : Sett) (H : Heap) (w : World) (res : Result Value) : Eff → Prop
  | .val x => ∃ v', res = .ok v' w ∧ Rep m S w false v' x
  | .new o f => Out P base sl m S H w res (layNew sl H o).2 (f (layNew sl H o).1)
  | .put nm o x => Out P base sl m S H w res (H.set nm o) x
  | .app nm o n sz => Out P base sl m S H w res (layNew sl (H.set nm .dead) o).2 (.own (layNew sl (H.set nm .dead) o).1 0 n sz)
  | .call _ _ => False

section ops
variable {P : Program} {E : Env} {base : Nat} {m : Mu} {S : Sett} {H : Heap} {w : World} {slot : Option Nat}

theorem SlotOk.kill (hs : SlotOk m H slot) (nm : Nat) : SlotOk m (H.set nm .dead) slot := ⟨fun k hk => by
  obtain ⟨h1, h2⟩ := hs.free k hk
  refine ⟨?_, h2⟩
  by_cases e : k = nm
  · subst e
    rw [List.getElem?_set_self (List.getElem?_eq_some_iff.1 h1).1]
  · rw [List.getElem?_set_ne (Ne.symm e)]; exact h1⟩

theorem Gaps.app {nm : Nat} {o : AO} {b q : Nat} : Gaps slot m H (muPut m (layNew slot (H.set nm .dead) o).1 b q) (layNew slot (H.set nm .dead) o).2 := by
  intro k hlt hne hm
  obtain ⟨h1, h2⟩ := Gaps.lay (sl := slot) (m := m) (H := H.set nm .dead) (o := o) (b := b) (q := q) k (by simpa using hlt) hne hm
  refine ⟨h1, fun hd => h2 ?_⟩
  by_cases e : k = nm
  · subst e; rw [List.getElem?_set_self hlt]
  · rw [List.getElem?_set_ne (Ne.symm e)]; exact hd

theorem firstCells_own {b q n c sz : Nat} {vs : List Value} (hl : vs.length = n * sz) (hr : w.rangeAt b q vs) : (Builtin.firstCells sz n (.slice (some ⟨b, q, none⟩) n c)).run P w.drew = .ok vs.toArray w.drew :=
  run_firstCells_some w.drew sz n _ n c vs hl (fun j u hj => by rw [addr_add]; exact hr j u hj)

theorem arr_left {vs : List Value} {z : Array Value} (j : Nat) (v : Value) (hj : vs[j]? = some v) : (vs.toArray ++ z)[j]? = some v := by
  rw [Array.getElem?_append_left (by have := (List.getElem?_eq_some_iff.1 hj).1; simpa using this)]
  simpa using hj
theorem froz_row {w : World} {b : Nat} {arr : Array Value} {e : TypeId} (hh : w.heap[b]? = some (.cells arr e (0, 0))) (j : Nat) : w.frozen? ⟨b, j, none⟩ = false := by simp [World.frozen?, hh]

theorem append0_ok (hE : EnvOk P E) (hR : Rel P base m S H w) (hs : SlotOk m H slot) {t tx ty : TypeId} {s' x' : Value} {s x : AV} {eff : Eff} {acc : Acc} (hsv : Rep m S w false s' s) (hxv : Rep m S w false x' x)
    (hk : (∃ e', P.underlying tx = some (.slice e')) ∨ P.underlying tx = some .string) (h : appendA0 E H t s x = some (eff, acc)) :
    EffOk P base slot m S H w ((Builtin.append_ #[t, tx] ty #[s', x']).run P w) eff := by
  unfold appendA0 at h
  cases hi : E.ty t with
  | none => simp [hi] at h
  | some i =>
    simp only [hi, Option.bind_eq_bind, Option.bind_some] at h
    obtain ⟨ds, info, z, hu, hinf, hd, _⟩ := hE.ty t i hi
    split at h
    · rename_i e hds
      obtain rfl := desc_slice (hd.symm.trans hds)
      cases hei : E.ty e with
      | none => simp [hei] at h
      | some ei =>
        simp only [hei, Option.bind_some] at h
        obtain ⟨infe, hinfe, hse, hbe⟩ := ty_info (hE.ty e ei hei)
        obtain ⟨ze, hze, hzr, hz1, hzl, infe', hinfe', hze2⟩ := ty_zero (hE.ty e ei hei) m S w
        rw [hinfe] at hinfe'; cases hinfe'
        have hzs : ze.cells.size = ei.size := by have := hzr.length; simp at this; omega
        cases hcx : contentA H ei.size x with
        | none => simp [hcx] at h
        | some q =>
          obtain ⟨k, new, acx⟩ := q
          simp only [hcx, Option.bind_some] at h
          obtain ⟨news, n1, n2, n3, hsrc⟩ := content_ok (P := P) hR hxv hcx hk
          rw [← hse] at hsrc
          split at h
          · cases h
          rename_i hsz0
          split at h
          · rename_i hk0
            subst hk0
            have hnil : news = [] := by
              have := n1.length
              rw [n3] at this
              simpa using this
            subst hnil
            cases hsv with
            | nilsl _ full =>
              simp at h
              obtain ⟨rfl, _⟩ := h
              exact ⟨_, run_append_nothing w t tx ty e infe hu hinfe none 0 0 (Nat.le_refl _) x' hsrc, .nilsl _ _⟩
            | sl _ a n c cells full h1 h2 h3 =>
              simp at h
              obtain ⟨rfl, _⟩ := h
              exact ⟨_, run_append_nothing w t tx ty e infe hu hinfe (some a) n c h1 x' hsrc, .sl _ a n c cells full h1 h2 h3⟩
            | own nm off n sz c b o h1 h2 h3 =>
              simp at h
              obtain ⟨rfl, _⟩ := h
              exact ⟨_, run_append_nothing w t tx ty e infe hu hinfe _ n c h2 x' hsrc, .own nm off n sz c b o h1 h2 h3⟩
            | own0 nm off sz b o a h1 =>
              simp at h
              obtain ⟨rfl, _⟩ := h
              exact ⟨_, run_append_nothing w t tx ty e infe hu hinfe a 0 0 (Nat.le_refl _) x' hsrc, .own0 nm off sz b o a h1⟩
            | _ => simp at h
          · rename_i hk0
            -- the arm that grows, out of a settled row
            have grow : ∀ (base0 : Option Addr) (n c : Nat) (olds : List Value) (cells : List AV) , RepL m S w false olds cells → (∀ y ∈ cells, one y = true) → cells.length = n * ei.size → c < n + k → n ≤ c →
                (Builtin.firstCells infe.size n (.slice base0 n c)).run P w.drew = .ok olds.toArray w.drew → (n + k) * ei.bytes ≤ mostBytes → n + k ≤ mostBytes →
                (Builtin.append_ #[t, tx] ty #[.slice base0 n c, x']).run P w = .ok (.slice (some ⟨w.heap.size, 0, none⟩) (n + k) (grownCap w (n + k) c e))
                  (w.drew.alloc (.cells ((olds ++ news).toArray ++ Builtin.zeroCells ze.cells (grownCap w (n + k) c e - (n + k))) e)) ∧
                RepL m S w false (olds ++ news) (cells ++ new) ∧ (∀ y ∈ cells ++ new, one y = true) ∧
                ((olds ++ news).toArray ++ Builtin.zeroCells ze.cells (grownCap w (n + k) c e - (n + k))).size = grownCap w (n + k) c e * ei.size := by
              intro base0 n c olds cells g1 g2 g3 g4 g5 g6 g7 g8
              refine ⟨run_append_grow_src w t tx ty e infe ze hu hinfe hze2 base0 n c olds g6 x' k news hsrc g4 ?_ ?_, g1.append n1, fun y hy => ?_, ?_⟩
              · unfold mostBytes at g8; omega
              · rw [hbe]
                refine growslice_fits g4 (Nat.le_trans g7 (by unfold mostBytes; omega))
              · rcases List.mem_append.1 hy with hy | hy
                · exact g2 y hy
                · exact n2 y hy
              · have hge := grownCap_ge w (n + k) c e
                have e1 := g1.length
                have e2 := n1.length
                simp only [Array.size_append, List.size_toArray, List.length_append, size_zeroCells, hzs, e1, e2, g3, n3]
                rw [← Nat.add_mul, ← Nat.add_mul]
                congr 1; omega
            cases hsv with
            | nilsl _ full =>
              cases full with
              | false => simp at h
              | true =>
                simp only at h
                split at h
                · rename_i hc
                  simp at h
                  obtain ⟨rfl, _⟩ := h
                  obtain ⟨r1, r2, r3, r4⟩ := grow none 0 0 [] [] (.nil _) (fun _ h => by cases h) (by simp) (by omega) (Nat.le_refl _) (run_firstCells_none w.drew infe.size 0 0 0) hc.2.1 hc.2.2
                  simp only [Nat.zero_add, List.nil_append] at r1 r2 r3 r4
                  simp only [EffOk]
                  rw [r1]
                  refine out_row hR hs hinfe r2 r3 arr_left (.inr rfl) (fun nm => .own nm 0 k ei.size) _ (fun nm S' w' hm hsh => ?_)
                  simpa using Rep.own (S := S') (w := w') nm 0 k ei.size (grownCap w k 0 e) w.heap.size 0 hm (grownCap_ge _ _ _ _) ⟨e, _, hsh, by omega⟩
                · cases h
            | sl _ a n c cells full h1 h2 h3 =>
              cases full with
              | false => simp at h
              | true =>
                obtain rfl := h2 rfl
                simp only at h
                split at h
                · rename_i hc
                  simp at h
                  obtain ⟨rfl, _⟩ := h
                  obtain ⟨vs, v1, v2, v3⟩ := h3.vals
                  have hlen : vs.length = c * infe.size := by rw [v1.length, hse]; exact hc.1
                  have hfc : (Builtin.firstCells infe.size c (.slice (some a) c c)).run P w.drew = .ok vs.toArray w.drew := run_firstCells_some w.drew _ c a c c vs hlen (fun j u hj => by
                    have hne : cells ≠ [] := by
                      intro e0
                      have hq := v1.length
                      rw [e0, List.length_nil] at hq
                      have hlt := (List.getElem?_eq_some_iff.1 hj).1
                      omega
                    rw [h3.addr hne, addr_add]
                    exact v3 j u hj)
                  obtain ⟨r1, r2, r3, r4⟩ := grow (some a) c c vs cells v1.weak v2 hc.1 (by omega) (Nat.le_refl _) hfc hc.2.1 hc.2.2
                  simp only [EffOk]
                  rw [r1]
                  refine out_row hR hs hinfe r2 r3 arr_left (.inr rfl) (fun nm => .own nm 0 (c + k) ei.size) _ (fun nm S' w' hm hsh => ?_)
                  simpa using Rep.own (S := S') (w := w') nm 0 (c + k) ei.size (grownCap w (c + k) c e) w.heap.size 0 hm (grownCap_ge _ _ _ _) ⟨e, _, hsh, by omega⟩
                · cases h
            | own0 nm off sz b o a h1 =>
              simp only at h
              split at h
              · cases h
              rename_i hsz
              obtain rfl : sz = ei.size := by simpa using hsz
              split at h
              · rename_i e' cs fr hrow
                split at h
                · rename_i hc
                  obtain ⟨rfl, hc1, hc2, hc3⟩ := hc
                  simp at h
                  obtain ⟨rfl, _⟩ := h
                  have hfc : (Builtin.firstCells infe.size 0 (.slice a 0 0)).run P w.drew = .ok #[] w.drew := by
                    cases a with
                    | none => exact run_firstCells_none w.drew infe.size 0 0 0
                    | some a => exact run_firstCells_some w.drew infe.size 0 a 0 0 [] (by simp) (by simp)
                  have hdrop : cs.drop off = [] := List.drop_of_length_le (by omega)
                  obtain ⟨r1, r2, r3, r4⟩ := grow a 0 0 [] [] (.nil _) (fun _ h => by cases h) (by simp) (by omega) (Nat.le_refl _) hfc hc2 hc3
                  simp only [Nat.zero_add, List.nil_append] at r1 r2 r3 r4
                  have hk1 := hR.kill nm
                  have hh := alloc_new w.drew (.cells (news.toArray ++ Builtin.zeroCells ze.cells (grownCap w k 0 e' - k)) e')
                  obtain ⟨S', hst⟩ := hk1.rel.newRow (hs.kill nm) (Born.drew (Born.alloc w.drew _)) hh (fun j => froz_row hh j) hinfe r2 r3
                    arr_left fr (fun _ => trivial)
                  simp only [EffOk]
                  rw [r1, hdrop]
                  refine ⟨_, _, _, S', rfl, hk1.trans hst, Gaps.app, ?_⟩
                  simpa using Rep.own (S := S') _ 0 k ei.size (grownCap w k 0 e') w.heap.size 0 (by simp [muPut]) (grownCap_ge _ _ _ _) ⟨e', _, ⟨_, _, hh, rfl⟩, by omega⟩
                · cases h
              · cases h
            | own nm off n sz c b o h1 h2 h3 =>
              simp only at h
              split at h
              · cases h
              rename_i hsz
              obtain rfl : sz = ei.size := by simpa using hsz
              split at h
              · rename_i e' cs fr hrow
                split at h
                · rename_i hc
                  obtain ⟨rfl, hc1, hc2, hc3⟩ := hc
                  simp at h
                  obtain ⟨rfl, _⟩ := h
                  obtain ⟨b', o', nb, inf2, r⟩ := hR.obj nm _ hrow
                  have hmu := r.mu
                  rw [h1] at hmu; cases hmu
                  obtain ⟨vs, v1, v2, v3⟩ := r.vals off (n * ei.size)
                  have htk : (cs.drop off).take (n * ei.size) = cs.drop off := List.take_of_length_le (by simp; omega)
                  rw [htk] at v1 v2
                  have hdl : (cs.drop off).length = n * ei.size := by simp; omega
                  have hlen : vs.length = n * infe.size := by rw [v1.length, hse, hdl]
                  by_cases hroom : n + k ≤ c
                  · obtain ⟨eb, kb, hshb, hkb⟩ := h3
                    obtain ⟨arr, rng, hheap, harr⟩ := hshb
                    obtain ⟨arr2, rng2, hheap2, harr2⟩ := r.shape
                    rw [hheap] at hheap2
                    cases hheap2
                    have hmul : n * ei.size + k * ei.size ≤ c * ei.size := by rw [← Nat.add_mul]; exact Nat.mul_le_mul_right _ hroom
                    have hnl : news.length = k * ei.size := by rw [n1.length, n3]
                    have hcell : ∀ j, j < nb → (w.cell? ⟨b, j, none⟩).isSome = true := fun j hj => by
                      have : j < arr.size := by omega
                      simp [World.cell?, hheap, this]
                    have hrun := run_append_room_src w t tx ty e' infe hu hinfe b (o + off) n c x' k news hsrc hroom (fun j hj => hcell _ (by rw [hse]; omega)) (fun j hj => r.free _)
                    rw [hse] at hrun
                    simp only [EffOk]
                    rw [hrun]
                    let q' := o + off
                    let pos := o + off + n * ei.size
                    let S' : Sett := fun b1 j => S b1 j ∨ (b1 = b ∧ fr = true ∧ pos ≤ j ∧ j < pos + news.length)
                    obtain ⟨g1, g2, g3, g4, g5, g6, g7⟩ := setCells_heap b news pos w
                    have hin : ∀ j (hj : j < news.length), (w.setCells b pos news).cell? ⟨b, pos + j, none⟩ = some news[j] := World.cell?_setCells_in b news pos w (fun j hj => hcell _ (by omega))
                    have hout : ∀ b1 j, (b1 = b → j < pos ∨ pos + news.length ≤ j) → (w.setCells b pos news).cell? ⟨b1, j, none⟩ = w.cell? ⟨b1, j, none⟩ := fun b1 j h =>
                      World.cell?_setCells_out b news pos w ⟨b1, j, none⟩ (fun hb _ => h hb)
                    have hS : ∀ b1 j, S b1 j → (w.setCells b pos news).cell? ⟨b1, j, none⟩ = w.cell? ⟨b1, j, none⟩ := fun b1 j hsj => hout b1 j (fun eb1 => by
                      subst eb1
                      have := r.top j hsj
                      left; omega)
                    have hlay := lay_slot (hR.kill nm).rel (hs.kill nm) (.row e' (cs.drop off ++ new) fr)
                    have hsub : ∀ b1 j, S b1 j → S' b1 j := fun b1 j h => .inl h
                    have hst := hR.heir (S' := S') (w' := w.setCells b pos news) (q' := q') ⟨_, hrow, by simp⟩ h1 hlay.1 hlay.2 (by simp) hsub (fun b1 j h hne => h.resolve_right (fun q => hne q.1))
                      (fun j h => by
                        rcases h with h | ⟨_, _, h3, h4⟩
                        · rw [hS b j h]; exact hR.sett b j h
                        · obtain ⟨d, rfl⟩ := Nat.exists_eq_add_of_le h3
                          rw [hin d (by omega)]; rfl)
                      ⟨b, q', nb, inf2, by simp [muPut], r.base, g6 _ _ _ r.shape, by simp only [List.length_append, hdl, n3]; omega, fun j => by rw [World.frozen?_setCells]; exact r.free j, fun j y hy => by
                        by_cases hj : j < n * ei.size
                        · rw [List.getElem?_append_left (by omega), List.getElem?_drop] at hy
                          obtain ⟨v, a1, a2, a3⟩ := r.cells _ y hy
                          have e1 : o + (off + j) = q' + j := by omega
                          rw [e1] at a1
                          refine ⟨v, (hout b (q' + j) (fun _ => .inl (by omega))).trans a1, Rep.keep (fun k p e0 => ?_) hsub hS g6 a2, a3⟩
                          unfold muPut; split
                          · rename_i hkk; subst hkk; rw [hlay.2] at e0; cases e0
                          · exact e0
                        · rw [List.getElem?_append_right (by omega), hdl] at hy
                          obtain ⟨v, a1, a2⟩ := n1.get hy
                          have hlt2 := (List.getElem?_eq_some_iff.1 a1).1
                          have e1 : q' + j = pos + (j - n * ei.size) := by omega
                          rw [List.getElem?_eq_getElem hlt2] at a1
                          refine ⟨v, by rw [e1, hin _ hlt2]; exact a1, Rep.keep (fun k p e0 => ?_) hsub hS g6 a2, n2 y (List.mem_of_getElem? hy)⟩
                          unfold muPut; split
                          · rename_i hkk; subst hkk; rw [hlay.2] at e0; cases e0
                          · exact e0,
                      r.info, fun hf j hj => by
                        simp only [List.length_append, hdl, n3] at hj
                        by_cases hj2 : j < n * ei.size
                        · left
                          have := r.setl hf (off + j) (by omega)
                          have e1 : o + (off + j) = q' + j := by omega
                          rwa [e1] at this
                        · right; exact ⟨rfl, hf, by omega, by omega⟩,
                      fun hf j h => by
                        rcases h with h | ⟨_, h, _⟩
                        · exact r.uns hf j h
                        · rw [hf] at h; exact absurd h (by simp),
                      fun j h => by
                        simp only [List.length_append, hdl, n3]
                        rcases h with h | ⟨_, _, _, h⟩
                        · have := r.top j h; omega
                        · omega⟩
                      g1 g2 g6 hS g3 g4 g5 g7 (World.frozen?_setCells b news pos w)
                    refine ⟨_, _, _, S', rfl, hst, Gaps.app, ?_⟩
                    simpa using Rep.own (S := S') (w := w.setCells b pos news) _ 0 (n + k) ei.size c b q' (by simp [muPut]) hroom ⟨_, _, g6 _ _ _ ⟨arr, rng, hheap, harr⟩, by omega⟩
                  · have hfc := firstCells_own (P := P) (c := c) hlen v3
                    obtain ⟨r1, r2, r3, r4⟩ := grow _ n c vs (cs.drop off) v1 v2 hdl (by omega) h2 hfc hc2 hc3
                    have hk1 := hR.kill nm
                    have hh := alloc_new w.drew (.cells ((vs ++ news).toArray ++ Builtin.zeroCells ze.cells (grownCap w (n + k) c e' - (n + k))) e')
                    obtain ⟨S', hst⟩ := hk1.rel.newRow (hs.kill nm) (Born.drew (Born.alloc w.drew _)) hh (fun j => froz_row hh j) hinfe r2 r3
                      arr_left fr (fun _ => trivial)
                    simp only [EffOk]
                    rw [r1]
                    refine ⟨_, _, _, S', rfl, hk1.trans hst, Gaps.app, ?_⟩
                    simpa using Rep.own (S := S') _ 0 (n + k) ei.size (grownCap w (n + k) c e') w.heap.size 0 (by simp [muPut]) (grownCap_ge _ _ _ _) ⟨e', _, ⟨_, _, hh, rfl⟩, by omega⟩
                · cases h
              · cases h
            | _ => simp at h
    · cases h
/-- A row of which less is known. -/
theorem shrink (hR : Rel P base m S H w) {nm : Nat} {e : TypeId} {cs : List AV} (hrow : H[nm]? = some (.row e cs false)) (n : Nat) : Step P base m S H w m S (H.set nm (.row e (cs.take n) false)) w := by
  obtain ⟨b, q, k, info, r⟩ := hR.obj nm _ hrow
  have hlt : nm < H.length := (List.getElem?_eq_some_iff.1 hrow).1
  refine hR.touch ⟨_, hrow, by simp⟩ r.mu (fun k hk => by rw [List.getElem?_set_ne (Ne.symm hk)]) (by simp) (fun o ho => ?_) (fun _ _ => rfl) rfl (fun _ _ _ h => h) (fun _ _ _ => rfl) rfl rfl rfl (fun _ r h => ⟨r, h⟩) (fun _ => rfl)
  rw [List.getElem?_set_self hlt] at ho
  cases ho
  refine ⟨b, q, k, info, r.mu, r.base, r.shape, ?_, r.free, fun j x hx => r.cells j x ?_, r.info, (fun h => by cases h), r.uns, fun j hj => absurd hj (r.uns rfl j)⟩
  · have := r.fits
    simp only [List.length_take]; omega
  · rw [List.getElem?_take] at hx
    split at hx
    · exact hx
    · cases hx

theorem appendA0_own {t : TypeId} {nm off n sz : Nat} {x : AV} {eff : Eff} {acc : Acc} (h : appendA0 E H t (.own nm off n sz) x = some (eff, acc)) : (∃ y, eff = .val y) ∨ ∃ o k sz', eff = .app nm o k sz' := by
  unfold appendA0 at h
  simp only [Option.bind_eq_bind, Option.bind_eq_some_iff] at h
  obtain ⟨i, _, h⟩ := h
  split at h
  · simp only [Option.bind_eq_some_iff] at h
    obtain ⟨ei, _, q, _, h⟩ := h
    split at h
    · cases h
    split at h
    · simp at h; exact .inl ⟨_, h.1.symm⟩
    · split at h
      · cases h
      · split at h
        · split at h
          · simp at h; exact .inr ⟨_, _, _, h.1.symm⟩
          · cases h
        · cases h
  · cases h

theorem append_ok (hE : EnvOk P E) (hR : Rel P base m S H w) (hs : SlotOk m H slot) {t tx ty : TypeId} {s' x' : Value} {s x : AV} {eff : Eff} {acc : Acc} (hsv : Rep m S w false s' s) (hxv : Rep m S w false x' x)
    (hk : (∃ e', P.underlying tx = some (.slice e')) ∨ P.underlying tx = some .string) (h : appendA E H t s x = some (eff, acc)) :
    EffOk P base slot m S H w ((Builtin.append_ #[t, tx] ty #[s', x']).run P w) eff := by
  unfold appendA at h
  split at h
  · exact append0_ok hE hR hs hsv hxv hk h
  split at h
  · rename_i nm off n sz
    split at h
    · rename_i e cs hrow
      split at h
      · have hst := shrink hR hrow (off + n * sz)
        have hne : ∀ k, H[k]? = some .dead → k ≠ nm := fun k hk e => by subst e; rw [hrow] at hk; cases hk
        have hs2 : SlotOk m (H.set nm (.row e (cs.take (off + n * sz)) false)) slot := ⟨fun k hk => by
          obtain ⟨h1, h2⟩ := hs.free k hk
          exact ⟨by rw [List.getElem?_set_ne (Ne.symm (hne k h1))]; exact h1, h2⟩⟩
        have := append0_ok (slot := slot) (ty := ty) hE hst.rel hs2 hsv hxv hk h
        rcases appendA0_own h with ⟨y, rfl⟩ | ⟨o, k, sz', rfl⟩
        · exact this
        · obtain ⟨v', w', m', S', h1, h2, h3, h4⟩ := this
          simp only [List.set_set] at h2 h3 h4
          refine ⟨v', w', m', S', h1, hst.trans h2, fun j hlt hj hmj => ?_, h4⟩
          obtain ⟨g1, g2⟩ := h3 j (by simpa using hlt) hj hmj
          exact ⟨g1, fun hd => g2 (by rw [List.getElem?_set_ne (Ne.symm (hne j hd))]; exact hd)⟩
      · exact append0_ok hE hR hs hsv hxv hk h
    · exact append0_ok hE hR hs hsv hxv hk h
  · exact append0_ok hE hR hs hsv hxv hk h
end ops
end Go.Px
