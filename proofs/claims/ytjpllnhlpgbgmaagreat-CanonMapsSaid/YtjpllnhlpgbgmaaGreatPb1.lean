/- The abstract machine, part 1: PxG PxFa PxGa PxH PxI PxJ PxLv PxK. -/
import Derived.Test.YtjpllnhlpgbgmaaGreatPb0
import Derived.Deep.Upon
import Derived.MapKept
import Derived.Laws.MakeOwn
import Derived.Lib.AppendZeros
import Derived.Laws.BytesString
import Derived.CallsIn
import Derived.OrdersIn
set_option linter.unusedVariables false
set_option linter.unusedSimpArgs false
namespace Go.Px
open Go Go.RowKit
def EffOk (P : Program) (base : Nat) (sl : Option Nat) (m : Mu) (S : Sett) (H : Heap) (w : World) (res : Result Value) : Eff → Prop
 | .val x => ∃ v', res = .ok v' w ∧ Rep m S w false v' x
 | .new o f => Out P base sl m S H w res (layNew sl H o).2 (f (layNew sl H o).1)
 | .put nm o x => Out P base sl m S H w res (H.set nm o) x
 | .app nm o n sz => Out P base sl m S H w res (layNew sl (H.set nm .dead) o).2 (.own (layNew sl (H.set nm .dead) o).1 0 n sz)
 | .call _ _ => False
section ops
variable {P : Program} {E : Env} {base : Nat} {m : Mu} {S : Sett} {H : Heap} {w : World} {slot : Option Nat}
theorem SlotOk.kill (hs : SlotOk m H slot) (nm : Nat) : SlotOk m (H.set nm .dead) slot := ⟨fun k hk => by
 obtain ⟨h1, h2⟩ := hs.free k hk
 refine ⟨?_, h2⟩
 by_cases e : k = nm
 ·subst e
  rw [List.getElem?_set_self (List.getElem?_eq_some_iff.1 h1).1]
 ·rw [List.getElem?_set_ne (Ne.symm e)]; exact h1⟩
theorem Gaps.app {nm : Nat} {o : AO} {b q : Nat} : Gaps slot m H (muPut m (layNew slot (H.set nm .dead) o).1 b q) (layNew slot (H.set nm .dead) o).2 := by
 intro k hlt hne hm
 obtain ⟨h1, h2⟩ := Gaps.lay (sl := slot) (m := m) (H := H.set nm .dead) (o := o) (b := b) (q := q) k (by simpa using hlt) hne hm
 refine ⟨h1, fun hd => h2 ?_⟩
 by_cases e : k = nm
 ·subst e; rw [List.getElem?_set_self hlt]
 ·rw [List.getElem?_set_ne (Ne.symm e)]; exact hd
theorem firstCells_own {b q n c sz : Nat} {vs : List Value} (hl : vs.length = n * sz) (hr : w.rangeAt b q vs) : (Builtin.firstCells sz n (.slice (some ⟨b, q, none⟩) n c)).run P w.drew = .ok vs.toArray w.drew :=
 run_firstCells_some w.drew sz n _ n c vs hl (fun j u hj => by rw [addr_add]; exact hr j u hj)
theorem arr_left {vs : List Value} {z : Array Value} (j : Nat) (v : Value) (hj : vs[j]? = some v) : (vs.toArray ++ z)[j]? = some v := by
 rw [Array.getElem?_append_left (by have := (List.getElem?_eq_some_iff.1 hj).1; simpa using this)]
 simpa using hj
theorem froz_row {w : World} {b : Nat} {arr : Array Value} {e : TypeId} (hh : w.heap[b]? = some (.cells arr e (0, 0))) (j : Nat) : w.frozen? ⟨b, j, none⟩ = false := by simp [World.frozen?, hh]
theorem append0_ok (hE : EnvOk P E) (hR : Rel P base m S H w) (hs : SlotOk m H slot) {t tx ty : TypeId} {s' x' : Value} {s x : AV} {eff : Eff} {acc : Acc} (hsv : Rep m S w false s' s) (hxv : Rep m S w false x' x)
  (hk : (∃ e', P.underlying tx = some (.slice e')) ∨ P.underlying tx = some .string) (h : appendA0 E H t s x = some (eff, acc)) :
  EffOk P base slot m S H w ((Builtin.append_ #[t, tx] ty #[s', x']).run P w) eff := by
 unfold appendA0 at h
 cases hi : E.ty t with
 | none => simp [hi] at h
 | some i =>
  simp only [hi, Option.bind_eq_bind, Option.bind_some] at h
  obtain ⟨ds, info, z, hu, hinf, hd, _⟩ := hE.ty t i hi
  split at h
  ·rename_i e hds
   obtain rfl := desc_slice (hd.symm.trans hds)
   cases hei : E.ty e with
   | none => simp [hei] at h
   | some ei =>
    simp only [hei, Option.bind_some] at h
    obtain ⟨infe, hinfe, hse, hbe⟩ := ty_info (hE.ty e ei hei)
    obtain ⟨ze, hze, hzr, hz1, hzl, infe', hinfe', hze2⟩ := ty_zero (hE.ty e ei hei) m S w
    rw [hinfe] at hinfe'; cases hinfe'
    have hzs : ze.cells.size = ei.size := by have := hzr.length; simp at this; omega
    cases hcx : contentA H ei.size x with
    | none => simp [hcx] at h
    | some q =>
     obtain ⟨k, new, acx⟩ := q
     simp only [hcx, Option.bind_some] at h
     obtain ⟨news, n1, n2, n3, hsrc⟩ := content_ok (P := P) hR hxv hcx hk
     rw [← hse] at hsrc
     split at h
     ·cases h
     rename_i hsz0
     split at h
     ·rename_i hk0
      subst hk0
      have hnil : news = [] := by
       have := n1.length
       rw [n3] at this
       simpa using this
      subst hnil
      cases hsv with
      | nilsl _ full =>
       simp at h
       obtain ⟨rfl, _⟩ := h
       exact ⟨_, run_append_nothing w t tx ty e infe hu hinfe none 0 0 (Nat.le_refl _) x' hsrc, .nilsl _ _⟩
      | sl _ a n c cells full h1 h2 h3 =>
       simp at h
       obtain ⟨rfl, _⟩ := h
       exact ⟨_, run_append_nothing w t tx ty e infe hu hinfe (some a) n c h1 x' hsrc, .sl _ a n c cells full h1 h2 h3⟩
      | own nm off n sz c b o h1 h2 h3 =>
       simp at h
       obtain ⟨rfl, _⟩ := h
       exact ⟨_, run_append_nothing w t tx ty e infe hu hinfe _ n c h2 x' hsrc, .own nm off n sz c b o h1 h2 h3⟩
      | own0 nm off sz b o a h1 =>
       simp at h
       obtain ⟨rfl, _⟩ := h
       exact ⟨_, run_append_nothing w t tx ty e infe hu hinfe a 0 0 (Nat.le_refl _) x' hsrc, .own0 nm off sz b o a h1⟩
      | _ => simp at h
     ·rename_i hk0
      have grow : ∀ (base0 : Option Addr) (n c : Nat) (olds : List Value) (cells : List AV) , RepL m S w false olds cells → (∀ y ∈ cells, one y = true) → cells.length = n * ei.size → c < n + k → n ≤ c →
        (Builtin.firstCells infe.size n (.slice base0 n c)).run P w.drew = .ok olds.toArray w.drew → (n + k) * ei.bytes ≤ mostBytes → n + k ≤ mostBytes →
        (Builtin.append_ #[t, tx] ty #[.slice base0 n c, x']).run P w = .ok (.slice (some ⟨w.heap.size, 0, none⟩) (n + k) (grownCap w (n + k) c e))
         (w.drew.alloc (.cells ((olds ++ news).toArray ++ Builtin.zeroCells ze.cells (grownCap w (n + k) c e - (n + k))) e)) ∧
        RepL m S w false (olds ++ news) (cells ++ new) ∧ (∀ y ∈ cells ++ new, one y = true) ∧
        ((olds ++ news).toArray ++ Builtin.zeroCells ze.cells (grownCap w (n + k) c e - (n + k))).size = grownCap w (n + k) c e * ei.size := by
       intro base0 n c olds cells g1 g2 g3 g4 g5 g6 g7 g8
       refine ⟨run_append_grow_src w t tx ty e infe ze hu hinfe hze2 base0 n c olds g6 x' k news hsrc g4 ?_ ?_, g1.append n1, fun y hy => ?_, ?_⟩
       ·unfold mostBytes at g8; omega
       ·rw [hbe]
        refine growslice_fits g4 (Nat.le_trans g7 (by unfold mostBytes; omega))
       ·rcases List.mem_append.1 hy with hy | hy
        ·exact g2 y hy
        ·exact n2 y hy
       ·have hge := grownCap_ge w (n + k) c e
        have e1 := g1.length
        have e2 := n1.length
        simp only [Array.size_append, List.size_toArray, List.length_append, size_zeroCells, hzs, e1, e2, g3, n3]
        rw [← Nat.add_mul, ← Nat.add_mul]
        congr 1; omega
      cases hsv with
      | nilsl _ full =>
       cases full with
       | false => simp at h
       | true =>
        simp only at h
        split at h
        ·rename_i hc
         simp at h
         obtain ⟨rfl, _⟩ := h
         obtain ⟨r1, r2, r3, r4⟩ := grow none 0 0 [] [] (.nil _) (fun _ h => by cases h) (by simp) (by omega) (Nat.le_refl _) (run_firstCells_none w.drew infe.size 0 0 0) hc.2.1 hc.2.2
         simp only [Nat.zero_add, List.nil_append] at r1 r2 r3 r4
         simp only [EffOk]
         rw [r1]
         refine out_row hR hs hinfe r2 r3 arr_left (.inr rfl) (fun nm => .own nm 0 k ei.size) _ (fun nm S' w' hm hsh => ?_)
         simpa using Rep.own (S := S') (w := w') nm 0 k ei.size (grownCap w k 0 e) w.heap.size 0 hm (grownCap_ge _ _ _ _) ⟨e, _, hsh, by omega⟩
        ·cases h
      | sl _ a n c cells full h1 h2 h3 =>
       cases full with
       | false => simp at h
       | true =>
        obtain rfl := h2 rfl
        simp only at h
        split at h
        ·rename_i hc
         simp at h
         obtain ⟨rfl, _⟩ := h
         obtain ⟨vs, v1, v2, v3⟩ := h3.vals
         have hlen : vs.length = c * infe.size := by rw [v1.length, hse]; exact hc.1
         have hfc : (Builtin.firstCells infe.size c (.slice (some a) c c)).run P w.drew = .ok vs.toArray w.drew := run_firstCells_some w.drew _ c a c c vs hlen (fun j u hj => by
          have hne : cells ≠ [] := by
           intro e0
           have hq := v1.length
           rw [e0, List.length_nil] at hq
           have hlt := (List.getElem?_eq_some_iff.1 hj).1
           omega
          rw [h3.addr hne, addr_add]
          exact v3 j u hj)
         obtain ⟨r1, r2, r3, r4⟩ := grow (some a) c c vs cells v1.weak v2 hc.1 (by omega) (Nat.le_refl _) hfc hc.2.1 hc.2.2
         simp only [EffOk]
         rw [r1]
         refine out_row hR hs hinfe r2 r3 arr_left (.inr rfl) (fun nm => .own nm 0 (c + k) ei.size) _ (fun nm S' w' hm hsh => ?_)
         simpa using Rep.own (S := S') (w := w') nm 0 (c + k) ei.size (grownCap w (c + k) c e) w.heap.size 0 hm (grownCap_ge _ _ _ _) ⟨e, _, hsh, by omega⟩
        ·cases h
      | own0 nm off sz b o a h1 =>
       simp only at h
       split at h
       ·cases h
       rename_i hsz
       have hsz2 : sz = ei.size ∧ off = 0 := by simpa using hsz
       obtain ⟨hsz3, hoff⟩ := hsz2
       obtain rfl : sz = ei.size := hsz3
       split at h
       ·rename_i e' cs fr hrow
        split at h
        ·rename_i hc
         obtain ⟨rfl, hc1, hc2, hc3⟩ := hc
         simp at h
         obtain ⟨rfl, _⟩ := h
         have hfc : (Builtin.firstCells infe.size 0 (.slice a 0 0)).run P w.drew = .ok #[] w.drew := by
          cases a with
          | none => exact run_firstCells_none w.drew infe.size 0 0 0
          | some a => exact run_firstCells_some w.drew infe.size 0 a 0 0 [] (by simp) (by simp)
         have hdrop : cs.drop off = [] := List.drop_of_length_le (by omega)
         obtain ⟨r1, r2, r3, r4⟩ := grow a 0 0 [] [] (.nil _) (fun _ h => by cases h) (by simp) (by omega) (Nat.le_refl _) hfc hc2 hc3
         simp only [Nat.zero_add, List.nil_append] at r1 r2 r3 r4
         have hk1 := hR.kill nm
         have hh := alloc_new w.drew (.cells (news.toArray ++ Builtin.zeroCells ze.cells (grownCap w k 0 e' - k)) e')
         obtain ⟨S', hst⟩ := hk1.rel.newRow (hs.kill nm) (Born.drew (Born.alloc w.drew _)) hh (fun j => froz_row hh j) hinfe r2 r3
          arr_left fr (fun _ => trivial)
         simp only [EffOk]
         rw [r1, hdrop]
         refine ⟨_, _, _, S', rfl, hk1.trans hst, Gaps.app, ?_⟩
         simpa using Rep.own (S := S') _ 0 k ei.size (grownCap w k 0 e') w.heap.size 0 (by simp [muPut]) (grownCap_ge _ _ _ _) ⟨e', _, ⟨_, _, hh, rfl⟩, by omega⟩
        ·cases h
       ·cases h
      | own nm off n sz c b o h1 h2 h3 =>
       simp only at h
       split at h
       ·cases h
       rename_i hsz
       have hsz2 : sz = ei.size ∧ off = 0 := by simpa using hsz
       obtain ⟨hsz3, hoff⟩ := hsz2
       obtain rfl : sz = ei.size := hsz3
       split at h
       ·rename_i e' cs fr hrow
        split at h
        ·rename_i hc
         obtain ⟨rfl, hc1, hc2, hc3⟩ := hc
         simp at h
         obtain ⟨rfl, _⟩ := h
         obtain ⟨b', o', nb, inf2, r⟩ := hR.obj nm _ hrow
         have hmu := r.mu
         rw [h1] at hmu; cases hmu
         obtain ⟨vs, v1, v2, v3⟩ := r.vals off (n * ei.size)
         have htk : (cs.drop off).take (n * ei.size) = cs.drop off := List.take_of_length_le (by simp; omega)
         rw [htk] at v1 v2
         have hdl : (cs.drop off).length = n * ei.size := by simp; omega
         have hlen : vs.length = n * infe.size := by rw [v1.length, hse, hdl]
         by_cases hroom : n + k ≤ c
         ·obtain ⟨eb, kb, hshb, hkb⟩ := h3
          obtain ⟨arr, rng, hheap, harr⟩ := hshb
          obtain ⟨arr2, rng2, hheap2, harr2⟩ := r.shape
          rw [hheap] at hheap2
          cases hheap2
          have hmul : n * ei.size + k * ei.size ≤ c * ei.size := by rw [← Nat.add_mul]; exact Nat.mul_le_mul_right _ hroom
          have hnl : news.length = k * ei.size := by rw [n1.length, n3]
          have hcell : ∀ j, j < nb → (w.cell? ⟨b, j, none⟩).isSome = true := fun j hj => by
           have : j < arr.size := by omega
           simp [World.cell?, hheap, this]
          have hrun := run_append_room_src w t tx ty e' infe hu hinfe b (o + off) n c x' k news hsrc hroom (fun j hj => hcell _ (by rw [hse]; omega)) (fun j hj => r.free _ (.inr (by rw [hse]; omega)))
          rw [hse] at hrun
          simp only [EffOk]
          rw [hrun]
          let q' := o + off
          let pos := o + off + n * ei.size
          let S' : Sett := fun b1 j => S b1 j ∨ (b1 = b ∧ fr = true ∧ pos ≤ j ∧ j < pos + news.length)
          obtain ⟨g1, g2, g3, g4, g5, g6, g7⟩ := setCells_heap b news pos w
          have hin : ∀ j (hj : j < news.length), (w.setCells b pos news).cell? ⟨b, pos + j, none⟩ = some news[j] := World.cell?_setCells_in b news pos w (fun j hj => hcell _ (by omega))
          have hout : ∀ b1 j, (b1 = b → j < pos ∨ pos + news.length ≤ j) → (w.setCells b pos news).cell? ⟨b1, j, none⟩ = w.cell? ⟨b1, j, none⟩ := fun b1 j h =>
           World.cell?_setCells_out b news pos w ⟨b1, j, none⟩ (fun hb _ => h hb)
          have hS : ∀ b1 j, S b1 j → (w.setCells b pos news).cell? ⟨b1, j, none⟩ = w.cell? ⟨b1, j, none⟩ := fun b1 j hsj => hout b1 j (fun eb1 => by
           subst eb1
           have := r.top j hsj
           left; omega)
          have hlay := lay_slot (hR.kill nm).rel (hs.kill nm) (.row e' (cs.drop off ++ new) fr)
          have hsub : ∀ b1 j, S b1 j → S' b1 j := fun b1 j h => .inl h
          have hst := hR.heir (S' := S') (w' := w.setCells b pos news) (q' := q') ⟨_, hrow, by simp⟩ h1 hlay.1 hlay.2 (by simp) hsub (fun b1 j h hne => h.resolve_right (fun q => hne q.1))
           (fun j h => by
            rcases h with h | ⟨_, _, h3, h4⟩
            ·rw [hS b j h]; exact hR.sett b j h
            ·obtain ⟨d, rfl⟩ := Nat.exists_eq_add_of_le h3
             rw [hin d (by omega)]; rfl)
           ⟨b, q', nb, inf2, by simp [muPut], r.base, g6 _ _ _ r.shape, by simp only [List.length_append, hdl, n3]; omega, fun j hq => by rw [World.frozen?_setCells]; exact r.free j (hq.imp_right fun h => by simp only [List.length_append, hdl, n3] at h; omega), (fun arr e' lo hi h => by obtain ⟨a0, h0⟩ := setCells_rng _ _ _ _ _ _ _ _ h; exact r.ord _ _ _ _ h0), fun j y hy => by
            by_cases hj : j < n * ei.size
            ·rw [List.getElem?_append_left (by omega), List.getElem?_drop] at hy
             obtain ⟨v, a1, a2, a3⟩ := r.cells _ y hy
             have e1 : o + (off + j) = q' + j := by omega
             rw [e1] at a1
             refine ⟨v, (hout b (q' + j) (fun _ => .inl (by omega))).trans a1, Rep.keep (fun k p e0 => ?_) hsub hS g6 a2, a3⟩
             unfold muPut; split
             ·rename_i hkk; subst hkk; rw [hlay.2] at e0; cases e0
             ·exact e0
            ·rw [List.getElem?_append_right (by omega), hdl] at hy
             obtain ⟨v, a1, a2⟩ := n1.get hy
             have hlt2 := (List.getElem?_eq_some_iff.1 a1).1
             have e1 : q' + j = pos + (j - n * ei.size) := by omega
             rw [List.getElem?_eq_getElem hlt2] at a1
             refine ⟨v, by rw [e1, hin _ hlt2]; exact a1, Rep.keep (fun k p e0 => ?_) hsub hS g6 a2, n2 y (List.mem_of_getElem? hy)⟩
             unfold muPut; split
             ·rename_i hkk; subst hkk; rw [hlay.2] at e0; cases e0
             ·exact e0,
           r.info, fun hf j hj => by
            simp only [List.length_append, hdl, n3] at hj
            by_cases hj2 : j < n * ei.size
            ·left
             have := r.setl hf (off + j) (by omega)
             have e1 : o + (off + j) = q' + j := by omega
             rwa [e1] at this
            ·right; exact ⟨rfl, hf, by omega, by omega⟩,
           fun hf j h => by
            rcases h with h | ⟨_, h, _⟩
            ·exact r.uns hf j h
            ·rw [hf] at h; exact absurd h (by simp),
           fun j h => by
            simp only [List.length_append, hdl, n3]
            rcases h with h | ⟨_, _, _, h⟩
            ·have := r.top j h; omega
            ·omega,
           by have := r.z; omega⟩
           g1 g2 g6 hS g3 g4 g5 g7 (World.frozen?_setCells b news pos w)
          refine ⟨_, _, _, S', rfl, hst, Gaps.app, ?_⟩
          simpa using Rep.own (S := S') (w := w.setCells b pos news) _ 0 (n + k) ei.size c b q' (by simp [muPut]) hroom ⟨_, _, g6 _ _ _ ⟨arr, rng, hheap, harr⟩, by omega⟩
         ·have hfc := firstCells_own (P := P) (c := c) hlen v3
          obtain ⟨r1, r2, r3, r4⟩ := grow _ n c vs (cs.drop off) v1 v2 hdl (by omega) h2 hfc hc2 hc3
          have hk1 := hR.kill nm
          have hh := alloc_new w.drew (.cells ((vs ++ news).toArray ++ Builtin.zeroCells ze.cells (grownCap w (n + k) c e' - (n + k))) e')
          obtain ⟨S', hst⟩ := hk1.rel.newRow (hs.kill nm) (Born.drew (Born.alloc w.drew _)) hh (fun j => froz_row hh j) hinfe r2 r3
           arr_left fr (fun _ => trivial)
          simp only [EffOk]
          rw [r1]
          refine ⟨_, _, _, S', rfl, hk1.trans hst, Gaps.app, ?_⟩
          simpa using Rep.own (S := S') _ 0 (n + k) ei.size (grownCap w (n + k) c e') w.heap.size 0 (by simp [muPut]) (grownCap_ge _ _ _ _) ⟨e', _, ⟨_, _, hh, rfl⟩, by omega⟩
        ·cases h
       ·cases h
      | _ => simp at h
  ·cases h
theorem shrink (hR : Rel P base m S H w) {nm : Nat} {e : TypeId} {cs : List AV} (hrow : H[nm]? = some (.row e cs false)) (n : Nat) : Step P base m S H w m S (H.set nm (.row e (cs.take n) false)) w := by
 obtain ⟨b, q, k, info, r⟩ := hR.obj nm _ hrow
 have hlt : nm < H.length := (List.getElem?_eq_some_iff.1 hrow).1
 refine hR.touch ⟨_, hrow, by simp⟩ r.mu (fun k hk => by rw [List.getElem?_set_ne (Ne.symm hk)]) (by simp) (fun o ho => ?_) (fun _ _ => rfl) rfl (fun _ _ _ h => h) (fun _ _ _ => rfl) rfl rfl rfl (fun _ r h => ⟨r, h⟩) (fun _ => rfl)
 rw [List.getElem?_set_self hlt] at ho
 cases ho
 refine ⟨b, q, k, info, r.mu, r.base, r.shape, ?_, (fun j _ => r.free j (.inl rfl)), r.ord, fun j x hx => r.cells j x ?_, r.info, (fun h => by cases h), r.uns, fun j hj => absurd hj (r.uns rfl j), r.z⟩
 ·have := r.fits
  simp only [List.length_take]; omega
 ·rw [List.getElem?_take] at hx
  split at hx
  ·exact hx
  ·cases hx
theorem appendA0_own {t : TypeId} {nm off n sz : Nat} {x : AV} {eff : Eff} {acc : Acc} (h : appendA0 E H t (.own nm off n sz) x = some (eff, acc)) : (∃ y, eff = .val y) ∨ ∃ o k sz', eff = .app nm o k sz' := by
 unfold appendA0 at h
 simp only [Option.bind_eq_bind, Option.bind_eq_some_iff] at h
 obtain ⟨i, _, h⟩ := h
 split at h
 ·simp only [Option.bind_eq_some_iff] at h
  obtain ⟨ei, _, q, _, h⟩ := h
  split at h
  ·cases h
  split at h
  ·simp at h; exact .inl ⟨_, h.1.symm⟩
  ·split at h
   ·cases h
   ·split at h
    ·split at h
     ·simp at h; exact .inr ⟨_, _, _, h.1.symm⟩
     ·cases h
    ·cases h
 ·cases h
theorem append_ok (hE : EnvOk P E) (hR : Rel P base m S H w) (hs : SlotOk m H slot) {t tx ty : TypeId} {s' x' : Value} {s x : AV} {eff : Eff} {acc : Acc} (hsv : Rep m S w false s' s) (hxv : Rep m S w false x' x)
  (hk : (∃ e', P.underlying tx = some (.slice e')) ∨ P.underlying tx = some .string) (h : appendA E H t s x = some (eff, acc)) :
  EffOk P base slot m S H w ((Builtin.append_ #[t, tx] ty #[s', x']).run P w) eff := by
 unfold appendA at h
 split at h
 ·exact append0_ok hE hR hs hsv hxv hk h
 split at h
 ·rename_i nm off n sz
  split at h
  ·rename_i e cs hrow
   split at h
   ·have hst := shrink hR hrow (off + n * sz)
    have hne : ∀ k, H[k]? = some .dead → k ≠ nm := fun k hk e => by subst e; rw [hrow] at hk; cases hk
    have hs2 : SlotOk m (H.set nm (.row e (cs.take (off + n * sz)) false)) slot := ⟨fun k hk => by
     obtain ⟨h1, h2⟩ := hs.free k hk
     exact ⟨by rw [List.getElem?_set_ne (Ne.symm (hne k h1))]; exact h1, h2⟩⟩
    have := append0_ok (slot := slot) (ty := ty) hE hst.rel hs2 hsv hxv hk h
    rcases appendA0_own h with ⟨y, rfl⟩ | ⟨o, k, sz', rfl⟩
    ·exact this
    ·obtain ⟨v', w', m', S', h1, h2, h3, h4⟩ := this
     simp only [List.set_set] at h2 h3 h4
     refine ⟨v', w', m', S', h1, hst.trans h2, fun j hlt hj hmj => ?_, h4⟩
     obtain ⟨g1, g2⟩ := h3 j (by simpa using hlt) hj hmj
     exact ⟨g1, fun hd => g2 (by rw [List.getElem?_set_ne (Ne.symm (hne j hd))]; exact hd)⟩
   ·exact append0_ok hE hR hs hsv hxv hk h
  ·exact append0_ok hE hR hs hsv hxv hk h
 ·exact append0_ok hE hR hs hsv hxv hk h
end ops
end Go.Px
set_option linter.unusedVariables false
set_option linter.unusedSimpArgs false
namespace Go.Px
open Go Go.RowKit
section ops
variable {P : Program} {E : Env} {base : Nat} {m : Mu} {S : Sett} {H : Heap} {w : World} {slot : Option Nat}
theorem putMap_froz {b : Nat} {es es2 : Array MapEntry} {c c2 : Nat} (hw : w.heap[b]? = some (.map es c)) (x : Addr) : (w.putObj b (.map es2 c2)).frozen? x = w.frozen? x := by
 by_cases hb : x.block = b
 ·simp [World.frozen?, hb, World.putObj_heap_same (w := w) (o := .map es2 c2) (Array.getElem?_eq_some_iff.1 hw).1, hw]
 ·simp [World.frozen?, World.putObj_heap_other (w := w) (o := .map es2 c2) hb]
theorem updateA_put {t : TypeId} {x k y : AV} {eff : Eff} {acc : Acc} (h : updateA E H t x k y = some (eff, acc)) : ∃ nm ob r, eff = .put nm ob r := by
 unfold updateA at h
 simp only [Option.bind_eq_some_iff] at h
 obtain ⟨i, _, h⟩ := h
 split at h
 ·simp only [Option.bind_eq_some_iff] at h
  obtain ⟨ki, _, h⟩ := h
  split at h
  ·split at h
   ·split at h
    ·split at h
     ·split at h
      ·cases h; exact ⟨_, _, _, rfl⟩
      ·cases h; exact ⟨_, _, _, rfl⟩
      ·cases h
     ·cases h
    ·cases h
   ·cases h
  ·cases h
 ·cases h
theorem map_touch (hR : Rel P base m S H w) {nm b : Nat} {kt vt : TypeId} {es es2 : List (AV × AV)} {bs bs2 : List Nat} {es' es2' : Array MapEntry} {c c2 : Nat} (hH : H[nm]? = some (.map kt vt es bs c)) (hm : m nm = some (b, 0)) (hw : w.heap[b]? = some (.map es' c))
  (h1 : RepL m S w false (es2'.toList.map (·.key)) (es2.map (·.1))) (h2 : RepL m S w false (es2'.toList.map (·.val)) (es2.map (·.2))) (h3 : es2'.toList.map (·.born) = bs2) :
  Step P base m S H w m S (H.set nm (.map kt vt es2 bs2 c2)) (w.putObj b (.map es2' c2)) := by
 have hlt : nm < H.length := (List.getElem?_eq_some_iff.1 hH).1
 have hbl : b < w.heap.size := (Array.getElem?_eq_some_iff.1 hw).1
 have hot : ∀ b', b' ≠ b → (w.putObj b (.map es2' c2)).heap[b']? = w.heap[b']? := fun b' h => World.putObj_heap_other h
 have hsm : (w.putObj b (.map es2' c2)).heap[b]? = some (.map es2' c2) := World.putObj_heap_same hbl
 have hshape : ∀ b' e n, Shape w b' e n → Shape (w.putObj b (.map es2' c2)) b' e n := fun b' e n ⟨arr, rng, h, hn⟩ => by
  have : b' ≠ b := fun e => by subst e; rw [hw] at h; cases h
  exact ⟨arr, rng, (hot b' this).trans h, hn⟩
 have hcell : ∀ b' j, S b' j → (w.putObj b (.map es2' c2)).cell? ⟨b', j, none⟩ = w.cell? ⟨b', j, none⟩ := fun b' j h => by
  have hne : b' ≠ b := fun e => by
   subst e
   have := hR.sett b' j h
   simp [World.cell?, hw] at this
  simp [World.cell?, hot b' hne]
 refine hR.touch ⟨_, hH, by simp⟩ hm (fun k hk => by rw [List.getElem?_set_ne (Ne.symm hk)]) (by simp) (fun o ho => ?_) hot World.putObj_size hshape hcell rfl rfl rfl (fun b' q hq => ?_) (fun x => putMap_froz hw x)
 ·rw [List.getElem?_set_self hlt] at ho
  cases ho
  obtain ⟨b0, e0, g1, g2, g3, g4, g5, g6⟩ := hR.obj nm _ hH
  rw [hm] at g1; cases g1
  exact ⟨b, es2', hm, g2, hsm, RepL.keep (fun _ _ h => h) (fun _ _ h => h) hcell hshape h1, RepL.keep (fun _ _ h => h) (fun _ _ h => h) hcell hshape h2, h3⟩
 ·have : b' ≠ b := fun e => by subst e; rw [hw] at hq; cases hq
  exact ⟨q, (hot b' this).trans hq⟩
theorem findA_key {d : TD} {k : AV} : ∀ {es : List (AV × AV)} {i j : Nat} {v : AV}, findA d k es i = some (some (j, v)) → ∃ n q, j = i + n ∧ es[n]? = some (q, v) ∧ keyEq d k q = some true
 | [], i, j, v, h => by simp [findA] at h
 | (q, u) :: es, i, j, v, h => by
  simp only [findA] at h
  split at h
  ·rename_i hq
   cases h
   exact ⟨0, q, rfl, rfl, hq⟩
  ·obtain ⟨n, q', rfl, h2, h3⟩ := findA_key h
   exact ⟨n + 1, q', by omega, h2, h3⟩
  ·cases h
theorem same_bits {d : TypeDesc} {k' q' : Value} {k q : AV} (hk : Rep m S w false k' k) (hq : Rep m S w false q' q) (h : keyEq (descA d) k q = some true) : Instr.sameBits 10000 q' k' = true := by
 unfold keyEq at h
 split at h
 ·rename_i _ _ a b
  split at h
  ·rename_i hj
   subst hj
   obtain rfl := rep_int hk; obtain rfl := rep_int hq
   simp at h; subst h
   simp [Instr.sameBits]
  ·cases h
 ·rename_i _ a b
  obtain ⟨sa, rfl, ha⟩ := rep_str hk
  obtain ⟨sb, rfl, hb⟩ := rep_str hq
  simp at h; subst h
  have : sb = sa := by
   have h1 := map_toNat_inj (hb.trans ha.symm)
   cases sa; cases sb
   simp only at h1
   congr 1
   exact Array.ext' h1
  subst this
  show (sb == sb) = true
  have e : (sb == sb) = (sb.data == sb.data) := rfl
  rw [e]; simp
 ·rename_i _ a b
  obtain rfl := rep_bool hk; obtain rfl := rep_bool hq
  simp at h; subst h
  simp [Instr.sameBits]
 ·cases h
theorem modify_map (l : List MapEntry) (j : Nat) (F : MapEntry → MapEntry) (g : MapEntry → Value) (c : Value) (hF : ∀ e, g (F e) = c) : (l.modify j F).map g = (l.map g).set j c := by
 apply List.ext_getElem?
 intro i
 rw [List.getElem?_map, List.getElem?_modify, List.getElem?_set, List.getElem?_map]
 by_cases hj : j = i
 ·subst hj
  cases hl : l[j]? with
  | none => simp; rw [List.getElem?_eq_none_iff] at hl; omega
  | some e =>
   have hlt : j < l.length := (List.getElem?_eq_some_iff.1 hl).1
   simp [hF, hlt]
 ·cases l[i]? <;> simp [hj]
theorem modify_born (l : List MapEntry) (j : Nat) (F : MapEntry → MapEntry) (hF : ∀ e, (F e).born = e.born) : (l.modify j F).map (·.born) = l.map (·.born) := by
 apply List.ext_getElem?
 intro i
 rw [List.getElem?_map, List.getElem?_modify, List.getElem?_map]
 by_cases hj : j = i
 ·subst hj
  cases l[j]? <;> simp [hF]
 ·cases l[i]? <;> simp [hj]
theorem upd_key {es' : Array MapEntry} {es : List (AV × AV)} {j : Nat} {k' y' : Value} {k y : AV} (h : RepL m S w false (es'.toList.map (·.key)) (es.map (·.1))) (hk : Rep m S w false k' k) :
  RepL m S w false ((es'.modify j fun e => { e with key := k', val := y' }).toList.map (·.key)) ((es.set j (k, y)).map (·.1)) := by
 rw [Array.toList_modify, modify_map _ _ _ _ k' (fun _ => rfl), List.map_set]
 exact h.set j hk
theorem upd_val {es' : Array MapEntry} {es : List (AV × AV)} {j : Nat} {k' y' : Value} {k y : AV} (h : RepL m S w false (es'.toList.map (·.val)) (es.map (·.2))) (hy : Rep m S w false y' y) :
  RepL m S w false ((es'.modify j fun e => { e with key := k', val := y' }).toList.map (·.val)) ((es.set j (k, y)).map (·.2)) := by
 rw [Array.toList_modify, modify_map _ _ _ _ y' (fun _ => rfl), List.map_set]
 exact h.set j hy
theorem update_ok (hE : EnvOk P E) (hR : Rel P base m S H w) {t : TypeId} {x' k' y' : Value} {x k y r : AV} {nm : Nat} {o : AO} {acc : Acc} (hx : Rep m S w false x' x) (hk : Rep m S w false k' k) (hy : Rep m S w false y' y) (h : updateA E H t x k y = some (.put nm o r, acc)) :
  ∃ w', (Instr.mapUpdate t x' k' y').run P w = .ok () w' ∧ Step P base m S H w m S (H.set nm o) w' ∧ Gaps slot m H m (H.set nm o) ∧ r = .tup [] := by
 unfold updateA at h
 cases hi : E.ty t with
 | none => simp [hi] at h
 | some i =>
  simp only [hi, Option.bind_some] at h
  obtain ⟨ds, info, z, hu, hinf, hd, _⟩ := hE.ty t i hi
  split at h
  ·rename_i kt vt hds
   obtain rfl := desc_map (hd.symm.trans hds)
   cases hki : E.ty kt with
   | none => simp [hki] at h
   | some ki =>
    simp only [hki, Option.bind_some] at h
    split at h
    ·rename_i hsk
     obtain ⟨dk, ik, zk, huk, hik, hdk, _⟩ := hE.ty kt ki hki
     cases hx with
     | map nm0 b hb =>
      simp only at h
      cases hH : H[nm0]? with
      | none => simp [hH] at h
      | some ob =>
       cases ob with
       | map kt' vt' es bs ck =>
        simp only [hH] at h
        split at h
        ·rename_i hkk
         subst hkk
         obtain ⟨b', es', q1, q2, q3, q4, q5, q6⟩ := hR.obj nm0 _ hH
         rw [hb] at q1; cases q1
         have hset : ∀ o : Obj, (setObj b o).run P w = .ok () (w.putObj b o) := fun o => by simp [setObj, Sem.run, q3, World.putObj]
         have hget : (getObj b).run P w = .ok (.map es' ck) w := by simp [getObj, Sem.run, q3]
         have hck := check_simple (P := P) huk (hdk ▸ hsk) false k' w
         obtain ⟨g1, g2⟩ := find_ok (d := dk) hk (i := 0) q4 q5
         rw [hdk] at h
         have hgap : ∀ o', Gaps slot m H m (H.set nm0 o') := fun o' k0 hlt hne hm0 => ⟨hm0, fun hd0 => by
          have : k0 ≠ nm0 := fun e => by subst e; rw [hH] at hd0; cases hd0
          rw [List.getElem?_set_ne (Ne.symm this)]; exact hd0⟩
         have hklen : es'.toList.length = es.length := by have := q4.length; simpa using this
         split at h
         ·rename_i j v hf
          cases h
          obtain ⟨v', a1, a2, a3, a4⟩ := g2 j v hf
          obtain ⟨n, q, hn, hq, hke⟩ := findA_key hf
          simp only [Nat.zero_add] at hn; subst hn
          obtain ⟨qv, b1, b2⟩ := q4.get (i := j) (x := q) (by simp [hq])
          have hsame := same_bits hk b2 hke
          have hkey : ((es'[j]?).map (·.key)).getD k' = qv := by
           have : (es'.toList[j]?).map (·.key) = some qv := by rw [← List.getElem?_map]; exact b1
           rw [Array.getElem?_toList] at this
           rw [this]; rfl
          refine ⟨w.putObj b (.map (es'.modify j fun e => { e with key := k', val := y' }) ck), ?_, ?_, hgap _, rfl⟩
          ·simp [Instr.mapUpdate, Sem.run_bind, run_underlying hu, hget, hck, Instr.findKey, run_underlying huk, a1, Instr.keyThatStays, hkey, hsame, hset]
          ·exact map_touch hR hH hb q3 (upd_key q4 hk) (upd_val q5 hy) (by rw [← q6, Array.toList_modify]; exact modify_born _ _ _ (fun _ => rfl))
         ·rename_i hf
          cases h
          have a1 := g1 hf
          refine ⟨w.putObj b (.map (es'.push { key := k', val := y', born := ck }) (ck + 1)), ?_, ?_, hgap _, rfl⟩
          ·simp [Instr.mapUpdate, Sem.run_bind, run_underlying hu, hget, hck, Instr.findKey, run_underlying huk, a1, hset]
          ·refine map_touch hR hH hb q3 ?_ ?_ (by simp [q6])
           ·simp only [Array.toList_push, List.map_append, List.map_cons, List.map_nil]
            exact q4.append (.cons _ _ _ _ _ hk (.nil _))
           ·simp only [Array.toList_push, List.map_append, List.map_cons, List.map_nil]
            exact q5.append (.cons _ _ _ _ _ hy (.nil _))
         ·cases h
        ·cases h
       | _ => simp [hH] at h
     | _ => simp at h
    ·cases h
  ·cases h
end ops
end Go.Px
set_option linter.unusedVariables false
set_option linter.unusedSimpArgs false
namespace Go.Px
open Go Go.RowKit
section ops
variable {P : Program} {E : Env} {base : Nat} {m : Mu} {S : Sett} {H : Heap} {w : World} {slot : Option Nat}
theorem rep_nilmap {nf : Bool} {v : Value} (h : Rep m S w nf v .nilmap) : v = .map none := by cases h; rfl
theorem rep_map {nf : Bool} {v : Value} {nm : Nat} (h : Rep m S w nf v (.map nm)) : ∃ b, v = .map (some b) ∧ m nm = some (b, 0) := by cases h; exact ⟨_, rfl, by assumption⟩
theorem rep_loc {nf : Bool} {v : Value} {nm off : Nat} (h : Rep m S w nf v (.loc nm off)) : ∃ b o, v = .pointer (some ⟨b, o + off, none⟩) ∧ m nm = some (b, o) := by cases h; exact ⟨_, _, rfl, by assumption⟩
theorem set_gaps {nm : Nat} {o0 o : AO} (hH : H[nm]? = some o0) (hne : o0 ≠ .dead) : Gaps slot m H m (H.set nm o) := fun k hlt hk hm => ⟨hm, fun hd => by
 have : k ≠ nm := fun e => by subst e; rw [hH] at hd; cases hd; exact hne rfl
 rw [List.getElem?_set_ne (Ne.symm this)]; exact hd⟩
theorem iter_new (hR : Rel P base m S H w) (hs : SlotOk m H slot) {mp : Option Nat} {mb : Option Nat} {since last : Nat} (hm : MpOk m mp mb) :
  Out P base slot m S H w ((do pure (.pointer (some ⟨← newObj (.mapIter mb since #[] last), 0, none⟩)) : Sem Value).run P w) (layNew slot H (.iter mp since [] last)).2 (.loc (layNew slot H (.iter mp since [] last)).1 0) := by
 have hrun : (do pure (.pointer (some ⟨← newObj (.mapIter mb since #[] last), 0, none⟩)) : Sem Value).run P w = .ok (.pointer (some ⟨w.heap.size, 0, none⟩)) (w.alloc (.mapIter mb since #[] last)) := by
  simp [Sem.run_bind]
 rw [hrun]
 obtain ⟨hl, hmn⟩ := lay_slot hR hs (.iter mp since [] last)
 have hst := hR.born (S' := S) hl hmn (Born.alloc w (.mapIter mb since #[] last)) (by simp) (fun _ _ h => h) (fun _ _ h _ => h) (fun j h => absurd (cell_lt (hR.sett _ _ h)) (Nat.lt_irrefl _)) (fun b j h => Nat.le_of_lt (cell_lt (hR.sett _ _ h)))
  ⟨w.heap.size, mb, by simp [muPut], hR.size, alloc_new _ _, by
   cases mp with
   | none => exact hm
   | some mn =>
    obtain ⟨c, h1, h2⟩ := hm
    refine ⟨c, ?_, h2⟩
    unfold muPut; split
    ·rename_i hk; rw [← hk, h1] at hmn; cases hmn
    ·exact h1⟩
 refine ⟨_, _, _, _, rfl, hst, Gaps.lay, ?_⟩
 simpa using Rep.loc (S := S) (w := w.alloc (.mapIter mb since #[] last)) _ 0 w.heap.size 0 (by simp [muPut])
theorem range_ok (hE : EnvOk P E) (hR : Rel P base m S H w) (hs : SlotOk m H slot) {t : TypeId} {x' : Value} {x : AV} {eff : Eff} {acc : Acc} (hx : Rep m S w false x' x) (h : xRange E H t [x] = some (eff, acc)) :
  EffOk P base slot m S H w ((Instr.range t x').run P w) eff := by
 unfold xRange at h
 split at h
 ·rename_i he
  cases he
  obtain rfl := rep_nilmap hx
  simp only [Option.bind_eq_some_iff] at h
  obtain ⟨i, hi, h⟩ := h
  obtain ⟨d, _, _, hu, _, hd, _⟩ := hE.ty t i hi
  split at h
  ·rename_i k v hds
   obtain rfl := desc_map (hd.symm.trans hds)
   simp at h; obtain ⟨rfl, _⟩ := h
   have := iter_new (P := P) (since := 0) (last := 0) hR hs (mp := none) (mb := none) rfl
   simp only [EffOk]
   simpa [Instr.range, Sem.run_bind, run_underlying hu] using this
  ·cases h
 ·rename_i mn he
  cases he
  obtain ⟨b, rfl, hb⟩ := rep_map hx
  simp only [Option.bind_eq_some_iff] at h
  obtain ⟨i, hi, h⟩ := h
  obtain ⟨d, _, _, hu, _, hd, _⟩ := hE.ty t i hi
  split at h
  ·rename_i k v kt vt es bs ck hds hH
   obtain rfl := desc_map (hd.symm.trans hds)
   simp at h; obtain ⟨rfl, _⟩ := h
   obtain ⟨b', es', q1, q2, q3, _⟩ := hR.obj mn _ hH
   rw [hb] at q1; cases q1
   have := iter_new (P := P) (since := ck) (last := ck) hR hs (mp := some mn) (mb := some b) ⟨b, hb, rfl⟩
   simp only [EffOk]
   simpa [Instr.range, Sem.run_bind, run_underlying hu, getObj, Sem.run, q3] using this
  ·cases h
 ·cases h
theorem any_contains (n : Nat) : ∀ seen : List Nat, (seen.any fun x => Nat.beq x n) = seen.contains n
 | [] => rfl
 | y :: ys => by
  simp only [List.any_cons, List.contains_cons]
  rw [any_contains n ys]
  congr 1
  by_cases hy : y = n
  ·subst hy; simp
  ·have h1 : Nat.beq y n = false := by
    cases hb : Nat.beq y n with
    | false => rfl
    | true => exact absurd (Nat.eq_of_beq_eq_true hb) hy
   rw [h1]
   exact (beq_eq_false_iff_ne.2 (Ne.symm hy)).symm
theorem left_ok {seen : List Nat} : ∀ {es' : List MapEntry} {es : List (AV × AV)} {bs : List Nat}, RepL m S w false (es'.map (·.key)) (es.map (·.1)) → RepL m S w false (es'.map (·.val)) (es.map (·.2)) → es'.map (·.born) = bs →
  ∃ L', (es'.filter fun e => !seen.toArray.contains e.born) = L' ∧ RepL m S w false (L'.map (·.key)) ((leftA seen es bs).map (·.1)) ∧ RepL m S w false (L'.map (·.val)) ((leftA seen es bs).map (·.2.1)) ∧ L'.map (·.born) = (leftA seen es bs).map (·.2.2)
 | [], [], bs, h1, h2, h3 => by subst h3; exact ⟨[], rfl, .nil _, .nil _, rfl⟩
 | [], _ :: _, bs, h1, h2, h3 => by cases h1
 | _ :: _, [], bs, h1, h2, h3 => by cases h1
 | e :: es', (k, v) :: es, bs, h1, h2, h3 => by
  subst h3
  simp only [List.map_cons] at h1 h2
  cases h1 with
  | cons _ _ _ _ _ hk hks =>
   cases h2 with
   | cons _ _ _ _ _ hv hvs =>
    obtain ⟨L', g1, g2, g3, g4⟩ := left_ok (seen := seen) hks hvs rfl
    have hc : (seen.any fun x => Nat.beq x e.born) = seen.toArray.contains e.born := by
     rw [List.contains_toArray, any_contains]
    simp only [List.map_cons, leftA, hc, List.filter_cons]
    cases hs : seen.toArray.contains e.born with
    | true => exact ⟨L', by simpa using g1, g2, g3, g4⟩
    | false => exact ⟨e :: L', by simp only [Bool.not_false, if_true]; rw [g1], .cons _ _ _ _ _ hk g2, .cons _ _ _ _ _ hv g3, by simp only [Bool.false_eq_true, if_false, List.map_cons, g4]⟩
theorem iter_touch (hR : Rel P base m S H w) {nm b : Nat} {mp mb : Option Nat} {since last last2 : Nat} {seen seen2 : List Nat} (hH : H[nm]? = some (.iter mp since seen last)) (hm : m nm = some (b, 0)) (hw : w.heap[b]? = some (.mapIter mb since seen.toArray last)) (hmp : MpOk m mp mb) :
  Step P base m S H w m S (H.set nm (.iter mp since seen2 last2)) (w.putObj b (.mapIter mb since seen2.toArray last2)) := by
 have hlt : nm < H.length := (List.getElem?_eq_some_iff.1 hH).1
 have hbl : b < w.heap.size := (Array.getElem?_eq_some_iff.1 hw).1
 have hot : ∀ b', b' ≠ b → (w.putObj b (.mapIter mb since seen2.toArray last2)).heap[b']? = w.heap[b']? := fun b' h => World.putObj_heap_other h
 have hsm : (w.putObj b (.mapIter mb since seen2.toArray last2)).heap[b]? = some (.mapIter mb since seen2.toArray last2) := World.putObj_heap_same hbl
 have hshape : ∀ b' e n, Shape w b' e n → Shape (w.putObj b (.mapIter mb since seen2.toArray last2)) b' e n := fun b' e n ⟨arr, rng, h, hn⟩ => by
  have : b' ≠ b := fun e => by subst e; rw [hw] at h; cases h
  exact ⟨arr, rng, (hot b' this).trans h, hn⟩
 have hcell : ∀ b' j, S b' j → (w.putObj b (.mapIter mb since seen2.toArray last2)).cell? ⟨b', j, none⟩ = w.cell? ⟨b', j, none⟩ := fun b' j h => by
  have hne : b' ≠ b := fun e => by
   subst e
   have := hR.sett b' j h
   simp [World.cell?, hw] at this
  simp [World.cell?, hot b' hne]
 refine hR.touch ⟨_, hH, by simp⟩ hm (fun k hk => by rw [List.getElem?_set_ne (Ne.symm hk)]) (by simp) (fun o ho => ?_) hot World.putObj_size hshape hcell rfl rfl rfl (fun b' q hq => ?_) (fun x => ?_)
 ·rw [List.getElem?_set_self hlt] at ho
  cases ho
  obtain ⟨b0, mb0, g1, g2, g3, g4⟩ := hR.obj nm _ hH
  rw [hm] at g1; cases g1
  exact ⟨b, mb, hm, g2, hsm, hmp⟩
 ·have : b' ≠ b := fun e => by subst e; rw [hw] at hq; cases hq
  exact ⟨q, (hot b' this).trans hq⟩
 ·by_cases hb : x.block = b
  ·simp [World.frozen?, hb, hsm, hw]
  ·simp [World.frozen?, hot _ hb]
theorem next_ok (hR : Rel P base m S H w) {x' : Value} {x : AV} {eff : Eff} {acc : Acc} {ty : TypeId} (hx : Rep m S w false x' x) (h : xNext H [x] = some (eff, acc)) :
  EffOk P base slot m S H w ((Instr.next x' false ty).run P w) eff := by
 unfold xNext at h
 split at h
 ·rename_i nm he
  cases he
  obtain ⟨b, o, rfl, hb⟩ := rep_loc hx
  split at h
  ·rename_i since seen last hH
   obtain ⟨b', mb, q1, q2, q3, q4⟩ := hR.obj nm _ hH
   rw [hb] at q1; cases q1
   obtain rfl : mb = none := q4
   simp at h; obtain ⟨rfl, _⟩ := h
   exact ⟨.tuple #[.bool false], by simp [Instr.next, getObj, Sem.run_bind, Sem.run, q3], .tup _ [_] [_] (.cons _ _ _ _ _ (.bool _ _) (.nil _))⟩
  ·rename_i mn since seen last hH
   obtain ⟨b', mb, q1, q2, q3, c, q4, q5⟩ := hR.obj nm _ hH
   rw [hb] at q1; cases q1
   subst q5
   split at h
   ·rename_i kt vt es bs ck hM
    obtain ⟨b2, es', r1, r2, r3, r4, r5, r6⟩ := hR.obj mn _ hM
    rw [q4] at r1; cases r1
    split at h
    ·cases h
    ·rename_i hg
     have hguard : (!seen.toArray.isEmpty && !es'.isEmpty && es'.all (fun e => decide (e.born ≥ last))) = false := by
      have hg' : (!seen.isEmpty && !bs.isEmpty && bs.all fun b => Nat.ble last b) = false := Bool.eq_false_iff.2 hg
      rw [← hg', ← r6]
      have e1 : es'.isEmpty = (es'.toList.map (·.born)).isEmpty := by
       cases es' with
       | mk l => cases l <;> rfl
      have e2 : es'.all (fun e => decide (e.born ≥ last)) = (es'.toList.map (·.born)).all fun b => Nat.ble last b := by
       rw [← Array.all_toList, List.all_map]
       congr 1
       funext e
       show decide (last ≤ e.born) = Nat.ble last e.born
       by_cases hle : last ≤ e.born
       ·rw [decide_eq_true hle, Nat.ble_eq_true_of_le hle]
       ·rw [decide_eq_false hle]
        cases hb2 : Nat.ble last e.born with
        | false => rfl
        | true => exact absurd (Nat.le_of_ble_eq_true hb2) hle
      rw [← e1, e2, List.isEmpty_toArray]
     obtain ⟨L', l1, l2, l3, l4⟩ := left_ok (seen := seen) r4 r5 r6
     have hleft : (es'.filter fun e => !seen.toArray.contains e.born) = L'.toArray := by
      apply Array.ext'
      rw [Array.toList_filter, l1]
     split at h
     ·rename_i hL
      rw [hL] at l2 l4
      have : L' = [] := by simpa using l4
      subst this
      simp at h; obtain ⟨rfl, _⟩ := h
      refine ⟨.tuple #[.bool false], ?_, .tup _ [_] [_] (.cons _ _ _ _ _ (.bool _ _) (.nil _))⟩
      simp only [Instr.next, getObj, Sem.run_bind, Sem.run, q3, r3, Result.andThen_ok, hguard, Bool.false_eq_true, if_false, hleft]
      simp [choose, Sem.run, Question.forced]
     ·rename_i k v b1 hL
      split at h
      ·rename_i hlt
       have hlt' : b1 < since := Nat.le_of_ble_eq_true hlt
       rw [hL] at l2 l3 l4
       obtain ⟨e, rfl⟩ : ∃ e, L' = [e] := by
        have := congrArg List.length l4
        simp at this
        exact List.length_eq_one_iff.1 this
       simp only [List.map_cons, List.map_nil, List.cons.injEq, and_true] at l4
       cases l2 with
       | cons _ _ _ _ _ hk _ =>
        cases l3 with
        | cons _ _ _ _ _ hv _ =>
         simp at h; obtain ⟨rfl, _⟩ := h
         have hst := iter_touch (seen2 := seen ++ [b1]) (last2 := ck) hR hH hb q3 ⟨c, q4, rfl⟩
         have hrun : (Instr.next (.pointer (some ⟨b, 0 + 0, none⟩)) false ty).run P w = .ok (.tuple #[.bool true, e.key, e.val]) (w.putObj b (.mapIter (some c) since (seen ++ [b1]).toArray ck)) := by
          simp only [Instr.next, getObj, Sem.run_bind, Sem.run, q3, r3, Result.andThen_ok, hguard, Bool.false_eq_true, if_false, hleft, Nat.add_zero]
          have h1 : decide (e.born < since) = true := decide_eq_true (by rw [l4]; exact hlt')
          have h2 : decide (e.born ≥ since) = false := decide_eq_false (by rw [l4]; omega)
          have f1 : (#[e] : Array MapEntry).filter (fun e => decide (e.born < since)) = #[e] := by apply Array.ext'; rw [Array.toList_filter]; simp only [List.filter_cons, h1]; rfl
          have f2 : (#[e] : Array MapEntry).filter (fun e => decide (e.born ≥ since)) = #[] := by apply Array.ext'; rw [Array.toList_filter]; simp only [List.filter_cons, h2]; rfl
          rw [show [e].toArray = #[e] from rfl, f1, f2]
          simp [choose, Sem.run, Question.forced, setObj, q3, World.putObj, l4]
         simp only [EffOk]
         rw [hrun]
         refine ⟨_, _, m, S, rfl, hst, set_gaps hH (by simp), .tup _ [_, _, _] [_, _, _] (.cons _ _ _ _ _ (.bool _ _) (.cons _ _ _ _ _ (hk.ext hst.ext) (.cons _ _ _ _ _ (hv.ext hst.ext) (.nil _))))⟩
      ·cases h
     ·cases h
   ·cases h
  ·cases h
 ·cases h
theorem born_ok {stamp : Nat} : ∀ {es' : List MapEntry} {es : List (AV × AV)} {i j : Nat} {k v : AV}, RepL m S w false (es'.map (·.key)) (es.map (·.1)) → RepL m S w false (es'.map (·.val)) (es.map (·.2)) → bornA stamp es (es'.map (·.born)) i = some (j, k, v) →
  ∃ n e, j = i + n ∧ es'.find? (fun e => e.born == stamp) = some e ∧ es'.findIdx? (fun e => e.born == stamp) = some n ∧ es'[n]? = some e ∧ es[n]? = some (k, v) ∧ Rep m S w false e.key k ∧ Rep m S w false e.val v
 | [], es, i, j, k, v, h1, h2, h => by cases es <;> simp [bornA] at h
 | e :: es', [], i, j, k, v, h1, h2, h => by cases h1
 | e :: es', (k0, v0) :: es, i, j, k, v, h1, h2, h => by
  simp only [List.map_cons] at h1 h2 h
  cases h1 with
  | cons _ _ _ _ _ hk hks =>
   cases h2 with
   | cons _ _ _ _ _ hv hvs =>
    simp only [bornA] at h
    cases hb : Nat.beq e.born stamp with
    | true =>
     simp only [hb, if_true, Option.some.injEq, Prod.mk.injEq] at h
     obtain ⟨rfl, rfl, rfl⟩ := h
     have he : (e.born == stamp) = true := by rw [Nat.eq_of_beq_eq_true hb]; simp
     exact ⟨0, e, rfl, by rw [List.find?_cons, he], by rw [List.findIdx?_cons, he]; rfl, rfl, rfl, hk, hv⟩
    | false =>
     simp only [hb, Bool.false_eq_true, if_false] at h
     obtain ⟨n, e1, rfl, g1, g2, g3, g4, g5, g6⟩ := born_ok hks hvs h
     have he : (e.born == stamp) = false := by
      refine beq_eq_false_iff_ne.2 fun q => ?_
      rw [q] at hb
      simp at hb
     exact ⟨n + 1, e1, by omega, by rw [List.find?_cons, he]; exact g1, by rw [List.findIdx?_cons, he]; simp [g2], by simpa using g3, by simpa using g4, g5, g6⟩
theorem entry_ok (hR : Rel P base m S H w) {x' : Value} {x : AV} {eff : Eff} {acc : Acc} (hx : Rep m S w false x' x) (h : xEntry H [x] = some (eff, acc)) :
  EffOk P base slot m S H w ((Instr.entry x').run P w) eff := by
 unfold xEntry at h
 split at h
 ·rename_i nm he
  cases he
  obtain ⟨b, o, rfl, hb⟩ := rep_loc hx
  split at h
  ·rename_i mn since seen last hH
   obtain ⟨b', mb, q1, q2, q3, c, q4, q5⟩ := hR.obj nm _ hH
   rw [hb] at q1; cases q1
   subst q5
   split at h
   ·rename_i kt vt es bs ck stamp hM hseen
    obtain ⟨b2, es', r1, r2, r3, r4, r5, r6⟩ := hR.obj mn _ hM
    rw [q4] at r1; cases r1
    split at h
    ·rename_i hck
     obtain rfl := Nat.eq_of_beq_eq_true hck
     simp only [Option.map_eq_some_iff] at h
     obtain ⟨⟨j, k, v⟩, hbo, h⟩ := h
     cases h
     subst r6
     obtain ⟨n, e, _, g1, g2, g3, g4, g5, g6⟩ := born_ok r4 r5 hbo
     refine ⟨.tuple #[e.key, e.val], ?_, .tup _ [_, _] [_, _] (.cons _ _ _ _ _ g5 (.cons _ _ _ _ _ g6 (.nil _)))⟩
     have hback : seen.toArray.back? = some stamp := by rw [List.back?_toArray]; exact hseen
     have hf : es'.find? (fun e => e.born == stamp) = some e := by rw [← Array.find?_toList]; exact g1
     simp only [Instr.entry, getObj, Sem.run_bind, Sem.run, q3, r3, Result.andThen_ok, hback, bne_self_eq_false, Bool.false_eq_true, if_false, hf]
     rfl
    ·cases h
   ·cases h
  ·cases h
 ·cases h
theorem map_runs {b : Nat} {es' : Array MapEntry} {ck : Nat} (q3 : w.heap[b]? = some (.map es' ck)) : (getObj b).run P w = .ok (.map es' ck) w ∧ ∀ o, (setObj b o).run P w = .ok () (w.putObj b o) :=
 ⟨by simp [getObj, Sem.run, q3], fun o => by simp [setObj, Sem.run, q3, World.putObj]⟩
theorem set_fst {es : List (AV × AV)} {n : Nat} {k v v2 : AV} (h : es[n]? = some (k, v)) : (es.set n (k, v2)).map (·.1) = es.map (·.1) := by
 rw [List.map_set]
 apply List.ext_getElem?
 intro i
 rw [List.getElem?_set, List.getElem?_map]
 split
 ·rename_i hi
  subst hi
  have hl := (List.getElem?_eq_some_iff.1 h).1
  rw [if_pos (by simpa using hl), h]; rfl
 ·rfl
theorem set_snd {es : List (AV × AV)} {n : Nat} {k k2 v : AV} (h : es[n]? = some (k, v)) : (es.set n (k2, v)).map (·.2) = es.map (·.2) := by
 rw [List.map_set]
 apply List.ext_getElem?
 intro i
 rw [List.getElem?_set, List.getElem?_map]
 split
 ·rename_i hi
  subst hi
  have hl := (List.getElem?_eq_some_iff.1 h).1
  rw [if_pos (by simpa using hl), h]; rfl
 ·rfl
theorem modify_same (l : List MapEntry) (j : Nat) (F : MapEntry → MapEntry) (g : MapEntry → Value) (hF : ∀ e, g (F e) = g e) : (l.modify j F).map g = l.map g := by
 apply List.ext_getElem?
 intro i
 rw [List.getElem?_map, List.getElem?_modify, List.getElem?_map]
 by_cases hj : j = i
 ·subst hj
  cases l[j]? <;> simp [hF]
 ·cases l[i]? <;> simp [hj]
theorem entryStore_ok (hR : Rel P base m S H w) {x' s' y' : Value} {x s y : AV} {eff : Eff} {acc : Acc} {t : TypeId} (hx : Rep m S w false x' x) (hs : Rep m S w false s' s) (hy : Rep m S w false y' y) (h : xEntryStore H [x, s, y] = some (eff, acc)) :
  ∃ nm o w', eff = .put nm o (.tup []) ∧ (Instr.entryStore t x' s' y').run P w = .ok () w' ∧ Step P base m S H w m S (H.set nm o) w' ∧ Gaps slot m H m (H.set nm o) := by
 unfold xEntryStore at h
 split at h
 ·rename_i nm kk n v he
  cases he
  obtain ⟨b, rfl, hb⟩ := rep_map hx
  obtain rfl := rep_int hs
  split at h
  ·rename_i kt vt es bs ck hH
   obtain ⟨b', es', q1, q2, q3, q4, q5, q6⟩ := hR.obj nm _ hH
   rw [hb] at q1; cases q1
   split at h
   ·rename_i hn
    obtain ⟨n, rfl⟩ := Int.eq_ofNat_of_zero_le hn
    simp only [Option.map_eq_some_iff, Int.toNat_natCast] at h
    obtain ⟨⟨j, k, v0⟩, hbo, h⟩ := h
    cases h
    subst q6
    obtain ⟨i, e, hj, g1, g2, g3, g4, g5, g6⟩ := born_ok q4 q5 hbo
    simp only [Nat.zero_add] at hj; subst hj
    obtain ⟨hget, hset⟩ := map_runs (P := P) q3
    have hf : es'.findIdx? (fun e => (e.born : Int) == n) = some j := by
     rw [← List.findIdx?_toArray] at g2
     rw [← g2]
     congr 1
     funext e
     by_cases hq : e.born = n
     ·simp [hq]
     ·have h1 : ¬ ((e.born : Int) = (n : Int)) := fun q => hq (by omega)
      rw [beq_eq_false_iff_ne.2 hq]
      exact beq_eq_false_iff_ne.2 h1
    refine ⟨nm, _, w.putObj b (.map (es'.modify j fun e => { e with val := y' }) ck), rfl, ?_, map_touch hR hH hb q3 ?_ ?_ ?_, set_gaps hH (by simp)⟩
    ·simp [Instr.entryStore, Sem.run_bind, hget, asInt, asIntOf, hf, hset]
    ·rw [Array.toList_modify, modify_same _ _ (fun e => { e with val := y' }) _ (fun _ => rfl), set_fst g4]; exact q4
    ·rw [Array.toList_modify, modify_map _ _ _ _ y' (fun _ => rfl), List.map_set]; exact q5.set j hy
    ·rw [Array.toList_modify]; exact modify_born _ _ _ (fun _ => rfl)
   ·cases h
  ·cases h
 ·cases h
theorem key_runs (hE : EnvOk P E) {kt : TypeId} {ki : TyI} (hki : E.ty kt = some ki) (hsk : simpleKey ki.desc = true) {es' : Array MapEntry} {es : List (AV × AV)} {k' : Value} {k : AV} (hk : Rep m S w false k' k)
  (q4 : RepL m S w false (es'.toList.map (·.key)) (es.map (·.1))) (q5 : RepL m S w false (es'.toList.map (·.val)) (es.map (·.2))) {r : Option (Nat × AV)} (hf : findA ki.desc k es 0 = some r) :
  (∀ b, (Instr.checkKey b 10000 kt k').run P w = .ok () w) ∧ match r with
   | none => (Instr.findKey kt k' es'.toList).run P w = .ok none w
   | some (j, v) => ∃ v' qk q, (Instr.findKey kt k' es'.toList).run P w = .ok (some (j, v')) w ∧ Rep m S w false v' v ∧ es[j]? = some (q, v) ∧ ((es'[j]?).map (·.key)) = some qk ∧ Instr.sameBits 10000 qk k' = true ∧ j < es'.size := by
 obtain ⟨dk, ik, zk, huk, hik, hdk, _⟩ := hE.ty kt ki hki
 rw [hdk] at hf hsk
 refine ⟨fun b => check_simple (P := P) huk hsk b k' w, ?_⟩
 obtain ⟨g1, g2⟩ := find_ok (d := dk) hk (i := 0) q4 q5
 cases r with
 | none =>
  simp [Instr.findKey, Sem.run_bind, run_underlying huk, g1 hf]
 | some p =>
  obtain ⟨j, v⟩ := p
  obtain ⟨v', a1, a2, a3, a4⟩ := g2 j v hf
  obtain ⟨n, q, hn, hq, hke⟩ := findA_key hf
  simp only [Nat.zero_add] at hn; subst hn
  obtain ⟨qv, b1, b2⟩ := q4.get (i := j) (x := q) (by simp [hq])
  have hsame := same_bits hk b2 hke
  have hkey : (es'[j]?).map (·.key) = some qv := by
   rw [← Array.getElem?_toList, ← List.getElem?_map]; exact b1
  have hjl : j < es'.size := by
   have := (List.getElem?_eq_some_iff.1 b1).1
   simpa using this
  exact ⟨v', qv, q, by simp [Instr.findKey, Sem.run_bind, run_underlying huk, a1], a2, hq, hkey, hsame, hjl⟩
theorem mapEntry_ok (hE : EnvOk P E) (hR : Rel P base m S H w) {t : TypeId} {x' k' : Value} {x k : AV} {eff : Eff} {acc : Acc} (hx : Rep m S w false x' x) (hk : Rep m S w false k' k) (h : xMapEntry E H t [x, k] = some (eff, acc)) :
  EffOk P base slot m S H w ((Instr.mapEntry t x' k').run P w) eff := by
 unfold xMapEntry at h
 split at h
 ·rename_i nm k0 he
  cases he
  obtain ⟨b, rfl, hb⟩ := rep_map hx
  simp only [Option.bind_eq_some_iff] at h
  obtain ⟨i, hi, h⟩ := h
  obtain ⟨d, _, _, hu, _, hd, _⟩ := hE.ty t i hi
  split at h
  ·rename_i kt vt hds
   obtain rfl := desc_map (hd.symm.trans hds)
   simp only [Option.bind_eq_some_iff] at h
   obtain ⟨ki, hki, vi, hvi, h⟩ := h
   split at h
   ·rename_i hsk
    split at h
    ·rename_i kt' vt' es bs ck hH
     obtain ⟨b', es', q1, q2, q3, q4, q5, q6⟩ := hR.obj nm _ hH
     rw [hb] at q1; cases q1
     obtain ⟨hget, hset⟩ := map_runs (P := P) q3
     split at h
     ·rename_i hkk
      subst hkk
      split at h
      ·rename_i j v hf
       obtain ⟨hck, v', qk, q, a1, a2, a3, a4, a5, a6⟩ := key_runs hE hki hsk hk q4 q5 hf
       cases h
       have hst : Step P base m S H w m S (H.set nm (.map kt' vt' (es.set j (k, v)) bs ck)) (w.putObj b (.map (es'.modify j fun e => { e with key := k' }) ck)) := map_touch hR hH hb q3
        (by rw [Array.toList_modify, modify_map _ _ _ _ k' (fun _ => rfl), List.map_set]; exact q4.set j hk)
        (by rw [Array.toList_modify, modify_same _ _ (fun e => { e with key := k' }) _ (fun _ => rfl), set_snd a3]; exact q5)
        (by rw [Array.toList_modify, ← q6]; exact modify_born _ _ _ (fun _ => rfl))
       have hborn : ((es'[j]?).map fun e => (e.born : Int)).getD 0 = ((bs.getD j 0 : Nat) : Int) := by
        rw [← q6, List.getD_eq_getElem?_getD, List.getElem?_map, Array.getElem?_toList]
        cases es'[j]? <;> rfl
       refine ⟨.tuple #[v', .int .i64 (bs.getD j 0 : Nat)], _, m, S, ?_, hst, set_gaps hH (by simp), .tup _ [_, _] [_, _] (.cons _ _ _ _ _ (a2.ext hst.ext) (.cons _ _ _ _ _ (.int _ _ _) (.nil _)))⟩
       have hqk : ((es'[j]?).map (·.key)).getD k' = qk := by rw [a4]; rfl
       simp [Instr.mapEntry, Sem.run_bind, run_underlying hu, hget, hck, a1, Instr.keyThatStays, hqk, a5, hset, goInt]
       simpa using hborn
      ·rename_i hf
       obtain ⟨hck, a1⟩ := key_runs hE hki hsk hk q4 q5 hf
       simp only [Option.bind_eq_some_iff] at h
       obtain ⟨z, hz, h⟩ := h
       cases h
       obtain ⟨z', hz', hzr⟩ := zero_val (m := m) (S := S) (w := w) (hE.ty vt vi hvi) hz
       have hst : Step P base m S H w m S (H.set nm (.map kt' vt' (es ++ [(k, z)]) (bs ++ [ck]) (ck + 1))) (w.putObj b (.map (es'.push { key := k', val := z', born := ck }) (ck + 1))) := map_touch hR hH hb q3
        (by simp only [Array.toList_push, List.map_append, List.map_cons, List.map_nil]; exact q4.append (.cons _ _ _ _ _ hk (.nil _)))
        (by simp only [Array.toList_push, List.map_append, List.map_cons, List.map_nil]; exact q5.append (.cons _ _ _ _ _ hzr (.nil _)))
        (by simp [q6])
       refine ⟨.tuple #[z', .int .i64 (ck : Nat)], _, m, S, ?_, hst, set_gaps hH (by simp), .tup _ [_, _] [_, _] (.cons _ _ _ _ _ (hzr.ext hst.ext) (.cons _ _ _ _ _ (.int _ _ _) (.nil _)))⟩
       simp [Instr.mapEntry, Sem.run_bind, run_underlying hu, hget, hck, a1, hz', hset, goInt]
      ·cases h
     ·cases h
    ·cases h
   ·cases h
  ·cases h
 ·cases h
theorem RepL.eraseIdx {nf : Bool} : ∀ {vs : List Value} {xs : List AV}, RepL m S w nf vs xs → ∀ i, RepL m S w nf (vs.eraseIdx i) (xs.eraseIdx i)
 | _, _, .nil _, _ => .nil _
 | _, _, .cons _ _ _ _ _ r t, 0 => t
 | _, _, .cons _ _ _ _ _ r t, i + 1 => .cons _ _ _ _ _ r (RepL.eraseIdx t i)
theorem map_eraseIdx {α β : Type} (f : α → β) : ∀ (l : List α) (i : Nat), (l.eraseIdx i).map f = (l.map f).eraseIdx i
 | [], _ => rfl
 | _ :: _, 0 => rfl
 | x :: l, i + 1 => by simp [List.eraseIdx, map_eraseIdx f l i]
theorem delete_ok (hE : EnvOk P E) (hR : Rel P base m S H w) {t ty : TypeId} {ts : List TypeId} {x' k' : Value} {x k : AV} {eff : Eff} {acc : Acc} (hx : Rep m S w false x' x) (hk : Rep m S w false k' k) (h : xDelete E H t [x, k] = some (eff, acc)) :
  EffOk P base slot m S H w ((Builtin.delete_ (t :: ts).toArray ty #[x', k']).run P w) eff := by
 unfold xDelete at h
 split at h
 ·rename_i nm k0 he
  cases he
  obtain ⟨b, rfl, hb⟩ := rep_map hx
  simp only [Option.bind_eq_some_iff] at h
  obtain ⟨i, hi, h⟩ := h
  obtain ⟨d, _, _, hu, _, hd, _⟩ := hE.ty t i hi
  split at h
  ·rename_i kt vt hds
   obtain rfl := desc_map (hd.symm.trans hds)
   simp only [Option.bind_eq_some_iff] at h
   obtain ⟨ki, hki, h⟩ := h
   split at h
   ·rename_i hsk
    split at h
    ·rename_i kt' vt' es bs ck hH
     obtain ⟨b', es', q1, q2, q3, q4, q5, q6⟩ := hR.obj nm _ hH
     rw [hb] at q1; cases q1
     obtain ⟨hget, hset⟩ := map_runs (P := P) q3
     split at h
     ·rename_i hkk
      subst hkk
      split at h
      ·rename_i j v hf
       obtain ⟨hck, v', qk, q, a1, a2, a3, a4, a5, a6⟩ := key_runs hE hki hsk hk q4 q5 hf
       cases h
       have hst : Step P base m S H w m S (H.set nm (.map kt' vt' (es.eraseIdx j) (bs.eraseIdx j) ck)) (w.putObj b (.map (es'.eraseIdxIfInBounds j) ck)) := map_touch hR hH hb q3
        (by rw [Array.toList_eraseIdxIfInBounds, map_eraseIdx, map_eraseIdx]; exact q4.eraseIdx j)
        (by rw [Array.toList_eraseIdxIfInBounds, map_eraseIdx, map_eraseIdx]; exact q5.eraseIdx j)
        (by rw [Array.toList_eraseIdxIfInBounds, map_eraseIdx, q6])
       refine ⟨.tuple #[], _, m, S, ?_, hst, set_gaps hH (by simp), .tup _ [] [] (.nil _)⟩
       simp [Builtin.delete_, Sem.run_bind, run_underlying hu, hget, hck, a1, hset]
      ·rename_i hf
       obtain ⟨hck, a1⟩ := key_runs hE hki hsk hk q4 q5 hf
       cases h
       have hst : Step P base m S H w m S (H.set nm (.map kt' vt' es bs ck)) (w.putObj b (.map es' ck)) := map_touch hR hH hb q3 q4 q5 q6
       refine ⟨.tuple #[], _, m, S, ?_, hst, set_gaps hH (by simp), .tup _ [] [] (.nil _)⟩
       simp [Builtin.delete_, Sem.run_bind, run_underlying hu, hget, hck, a1, hset]
      ·cases h
     ·cases h
    ·cases h
   ·cases h
  ·cases h
 ·cases h
theorem makeSlice_ok (hE : EnvOk P E) (hR : Rel P base m S H w) (hs : SlotOk m H slot) {t : TypeId} {n' c' : Value} {n c : AV} {eff : Eff} {acc : Acc} (hn : Rep m S w false n' n) (hc : Rep m S w false c' c) (h : xMakeSlice E t [n, c] = some (eff, acc)) :
  EffOk P base slot m S H w ((Instr.makeSlice t n' c').run P w) eff := by
 unfold xMakeSlice at h
 split at h
 ·rename_i k1 n k2 c he
  cases he
  obtain rfl := rep_int hn; obtain rfl := rep_int hc
  simp only [Option.bind_eq_some_iff] at h
  obtain ⟨i, hi, h⟩ := h
  obtain ⟨d, _, _, hu, _, hd, _⟩ := hE.ty t i hi
  split at h
  ·rename_i e hds
   obtain rfl := desc_slice (hd.symm.trans hds)
   simp only [Option.bind_eq_some_iff] at h
   obtain ⟨ei, hei, h⟩ := h
   split at h
   ·rename_i hcnd
    obtain ⟨h1, h2, h3, h4, h5⟩ := hcnd
    cases h
    obtain ⟨ze, hze, hzr, hz1, hzl, infe, hinfe, hze2⟩ := ty_zero (hE.ty e ei hei) m S w
    obtain ⟨infe', hie', hse, hbe⟩ := ty_info (hE.ty e ei hei)
    rw [hinfe] at hie'; cases hie'
    have hzs : ze.cells.size = ei.size := by have := hzr.length; simp at this; omega
    have hb' : (infe.bytes : Int) * c ≤ 281474976710656 := by
     rw [hbe, Int.mul_comm]
     unfold mostBytes at h3
     omega
    have hrun := run_make (P := P) w t e infe ze hu hinfe hze2 k1 k2 n c h1 h2 hb' (by unfold mostBytes at h4; omega)
    simp only [EffOk]
    rw [hrun]
    have hzz := zeros_rep (m := m) (S := S) (w := w) hzr (by omega) c.toNat
    rw [hse]
    have e1 : madeCells ze.cells (c.toNat * ei.size) = (Array.range (c.toNat * ze.cells.size)).map (ze.cells[· % ze.cells.size]!) := by rw [← hzs]; rfl
    rw [e1]
    refine out_row hR hs hinfe hzz (zerosA_one _ hz1 _) (fun j v hj => by rw [← Array.getElem?_toList]; exact hj) (.inl rfl) (fun nm => .own nm 0 n.toNat ei.size) _ (fun nm S' w' hm hsh => ?_)
    have hle : n.toNat ≤ c.toNat := by omega
    have := Rep.own (S := S') (w := w') nm 0 n.toNat ei.size c.toNat w.heap.size 0 hm hle ⟨e, _, hsh, by simp [hzs]⟩
    simpa using this
   ·cases h
  ·cases h
 ·cases h
theorem cap_ok (hE : EnvOk P E) {t ty : TypeId} {ts : List TypeId} {x' : Value} {x : AV} {eff : Eff} {acc : Acc} (hx : Rep m S w false x' x) (h : xCap E t [x] = some (eff, acc)) :
  EffOk P base slot m S H w ((Builtin.cap_ (t :: ts).toArray ty #[x']).run P w) eff := by
 unfold xCap at h
 split at h
 ·rename_i n cells he
  cases he
  simp only [Option.bind_eq_some_iff] at h
  obtain ⟨i, hi, h⟩ := h
  obtain ⟨d, _, _, hu, _, hd, _⟩ := hE.ty t i hi
  split at h
  ·rename_i e hds
   obtain rfl := desc_slice (hd.symm.trans hds)
   cases h
   cases hx with
   | nilsl => exact ⟨.int .i64 (0 : Nat), by simp [Builtin.cap_, Sem.run_bind, run_underlying hu, goInt], .int _ _ _⟩
   | sl _ a n c cells full h1 h2 h3 =>
    obtain rfl := h2 rfl
    exact ⟨.int .i64 (c : Nat), by simp [Builtin.cap_, Sem.run_bind, run_underlying hu, goInt], .int _ _ _⟩
  ·cases h
 ·cases h
theorem clear_ok (hE : EnvOk P E) (hR : Rel P base m S H w) {t ty : TypeId} {ts : List TypeId} {x' : Value} {x : AV} {eff : Eff} {acc : Acc} (hx : Rep m S w false x' x) (h : xClear E H t [x] = some (eff, acc)) :
  EffOk P base slot m S H w ((Builtin.clear_ (t :: ts).toArray ty #[x']).run P w) eff := by
 unfold xClear at h
 split at h
 ·rename_i cells full he
  cases he
  simp only [Option.bind_eq_some_iff] at h
  obtain ⟨i, hi, h⟩ := h
  obtain ⟨d, _, _, hu, _, hd, _⟩ := hE.ty t i hi
  split at h
  ·rename_i e hds
   obtain rfl := desc_slice (hd.symm.trans hds)
   cases h
   refine ⟨.tuple #[], ?_, .tup _ [] [] (.nil _)⟩
   cases hx <;> simp [Builtin.clear_, Sem.run_bind, run_underlying hu]
  ·cases h
 ·rename_i nm off n sz he
  cases he
  simp only [Option.bind_eq_some_iff] at h
  obtain ⟨i, hi, h⟩ := h
  obtain ⟨d, _, _, hu, _, hd, _⟩ := hE.ty t i hi
  split at h
  ·rename_i e hds
   obtain rfl := desc_slice (hd.symm.trans hds)
   simp only [Option.bind_eq_some_iff] at h
   obtain ⟨ei, hei, h⟩ := h
   split at h
   ·rename_i hn0
    subst hn0
    cases h
    refine ⟨.tuple #[], ?_, .tup _ [] [] (.nil _)⟩
    cases hx with
    | own _ _ _ _ c b o h1 h2 h3 => simp [Builtin.clear_, Sem.run_bind, run_underlying hu]
    | own0 _ _ _ b o a h1 => cases a <;> simp [Builtin.clear_, Sem.run_bind, run_underlying hu]
   ·rename_i hn0
    split at h
    ·rename_i e' cs hrow
     split at h
     ·rename_i hc
      obtain ⟨rfl, hc1, hc2⟩ := hc
      cases h
      cases hx with
      | own0 => exact absurd rfl hn0
      | own _ _ _ _ c b o h1 h2 h3 =>
       obtain ⟨ze, hze, hzr, hz1, hzl, infe, hinfe, hze2⟩ := ty_zero (hE.ty e ei hei) m S w
       have hzs : ze.cells.size = ei.size := by have := hzr.length; simp at this; omega
       obtain ⟨b', q', nb, inf2, r⟩ := hR.obj nm _ hrow
       have hmu := r.mu
       rw [h1] at hmu; cases hmu
       have hzz := zeros_rep (m := m) (S := S) (w := w) hzr (by omega) n
       have hzl2 : (zerosA ei.zero n).length = n * ei.size := by rw [zerosA_length, hzl]
       have hput := put_row hR hrow r hzz (zerosA_one _ hz1 n) (off := off) (by rw [hzl2]; exact hc1)
       have hzc : Builtin.zeroCells ze.cells n = (Array.range (n * ze.cells.size)).map (ze.cells[· % ze.cells.size]!) := rfl
       refine ⟨.tuple #[], _, m, S, ?_, hput, set_gaps hrow (by simp), .tup _ [] [] (.nil _)⟩
       have hlen : ((Array.range (n * ze.cells.size)).map (ze.cells[· % ze.cells.size]!)).toList.length = n * ei.size := by simp [hzs]
       have hst := run_storeCells_cells (P := P) b (o + off) ((Array.range (n * ze.cells.size)).map (ze.cells[· % ze.cells.size]!)).toList 0 w
        (fun j hj => (there_row r (off := off) (k := n * ei.size) (by omega) j (by omega)).1)
        (fun j hj => (there_row r (off := off) (k := n * ei.size) (by omega) j (by omega)).2)
        (repL_oneCell hzz (zerosA_one _ hz1 n))
       rw [← hzc] at hst
       simp only [Nat.add_zero] at hst
       obtain ⟨n', rfl⟩ : ∃ q, n = q + 1 := ⟨n - 1, by omega⟩
       simp [Builtin.clear_, Sem.run_bind, run_underlying hu, hze, hst, ← hzc]
     ·cases h
    ·cases h
  ·cases h
 ·cases h
theorem run_append_zeros0 (w : World) (t tn ty e : TypeId) (i : TypeInfo) (z : Value) (k kn : IntKind) (a : Option Addr) (ht : P.underlying t = some (.slice e)) (htn : P.underlying tn = some (.int kn)) (hi : P.info? e = some i) (hz : i.zero = some z)
  (n : Nat) (h0 : 0 < n) (hs : 0 < i.size) (h63 : (n : Int) ≤ 9223372036854775807) (h48 : n * i.bytes ≤ 281474976710656) :
  (Builtin.append_ #[t, tn] ty #[.slice a 0 0, .int k n]).run P w =
   .ok (.slice (some ⟨w.heap.size, 0, none⟩) n (grownCap w n 0 e)) (w.drew.alloc (.cells (Builtin.zeroCells z.cells n ++ Builtin.zeroCells z.cells (grownCap w n 0 e - n)) e)) := by
 cases a with
 | none => exact Lib.run_append_nil_zeros (P := P) w t tn ty e i z k kn ht htn hi hz n h0 hs h63 h48
 | some a =>
  have hf : ∀ w : World, (Builtin.firstCells i.size 0 (.slice (some a) 0 0)).run P w = .ok #[] w := fun w => run_firstCells_some w i.size 0 a 0 0 [] (by simp) (by simp)
  have f1 : IntKind.i64.wrap (n : Int) = n := by rw [IntKind.wrap_i64]; omega
  have f2 : ¬ ((n : Int) < 0) := by omega
  have f3 : ¬ (281474976710656 < (n : Int) * (i.bytes : Int)) := by rw [← Int.natCast_mul]; omega
  have f4 : ¬ (9223372036854775807 < (n : Int)) := by omega
  have f5 : ¬ (281474976710656 < Builtin.nextslicecap n 0 * i.bytes) := by rw [nextslicecap_zero h0]; omega
  have f6 : n ≠ 0 := by omega
  have f7 : n * i.size ≠ 0 := Nat.mul_ne_zero f6 (by omega)
  simp [Builtin.append_, Sem.run_bind, run_underlying ht, run_underlying htn, sizeOf, typeInfo, hi, zeroValue, hz, asInt, asIntOf, Question.forced, newRow, grownCap, hf, f1, f2, f3, f4, f5, f6, f7]
theorem appendZ_ok (hE : EnvOk P E) (hR : Rel P base m S H w) (hs : SlotOk m H slot) {t tx ty : TypeId} {kn : IntKind} {s' n' : Value} {s n : AV} {eff : Eff} {acc : Acc} (hsv : Rep m S w false s' s) (hn : Rep m S w false n' n)
  (hk : P.underlying tx = some (.int kn)) (h : xAppendZ E t [s, n] = some (eff, acc)) :
  EffOk P base slot m S H w ((Builtin.append_ #[t, tx] ty #[s', n']).run P w) eff := by
 unfold xAppendZ at h
 split at h
 ·rename_i k1 n he
  cases he
  obtain rfl := rep_int hn
  simp only [Option.bind_eq_some_iff] at h
  obtain ⟨i, hi, h⟩ := h
  obtain ⟨d, _, _, hu, _, hd, _⟩ := hE.ty t i hi
  split at h
  ·rename_i e hds
   obtain rfl := desc_slice (hd.symm.trans hds)
   simp only [Option.bind_eq_some_iff] at h
   obtain ⟨ei, hei, h⟩ := h
   split at h
   ·rename_i hcnd
    obtain ⟨h1, h2, h3, h4⟩ := hcnd
    obtain ⟨n, rfl⟩ := Int.eq_ofNat_of_zero_le (Int.le_of_lt h1)
    simp only [Int.toNat_natCast] at h
    cases h
    obtain ⟨ze, hze, hzr, hz1, hzl, infe, hinfe, hze2⟩ := ty_zero (hE.ty e ei hei) m S w
    obtain ⟨infe', hie', hse, hbe⟩ := ty_info (hE.ty e ei hei)
    rw [hinfe] at hie'; cases hie'
    have hzs : ze.cells.size = ei.size := by have := hzr.length; simp at this; omega
    have h48 : n * infe.bytes ≤ 281474976710656 := by
     rw [hbe]
     unfold mostBytes at h2
     have : ((n * ei.bytes : Nat) : Int) ≤ 281474976710656 := by
      rw [Int.natCast_mul]; omega
     omega
    have key : ∀ a : Option Addr, s' = .slice a 0 0 → EffOk P base slot m S H w ((Builtin.append_ #[t, tx] ty #[s', .int k1 n]).run P w) (.new (.row e (zerosA ei.zero n) false) fun nm => .own nm 0 n ei.size) := fun a ha => by
     subst ha
     simp only [EffOk]
     rw [run_append_zeros0 w t tx ty e infe ze k1 kn a hu hk hinfe hze2 n (by omega) (by omega) (by unfold mostBytes at h3; omega) h48]
     have hzz := zeros_rep (m := m) (S := S) (w := w) hzr (by omega) n
     have hge := grownCap_ge w n 0 e
     refine out_row hR hs hinfe hzz (zerosA_one _ hz1 _) (fun j v hj => ?_) (.inr rfl) (fun nm => .own nm 0 n ei.size) _ (fun nm S' w' hm hsh => ?_)
     ·rw [Array.getElem?_append_left (by have := (List.getElem?_eq_some_iff.1 hj).1; simpa [Builtin.zeroCells] using this)]
      rw [← Array.getElem?_toList]; exact hj
     ·have := Rep.own (S := S') (w := w') nm 0 n ei.size (grownCap w n 0 e) w.heap.size 0 hm hge ⟨e, _, hsh, by
       simp only [Array.size_append, size_zeroCells, hzs]
       rw [← Nat.add_mul]
       have : n + (grownCap w n 0 e - n) = grownCap w n 0 e := by omega
       rw [this]; omega⟩
      simpa using this
    cases hsv with
    | nilsl => exact key none rfl
    | sl _ a _ c cells full q1 q2 q3 =>
     obtain rfl := q2 rfl
     exact key (some a) rfl
   ·cases h
  ·cases h
 ·cases h
end ops
end Go.Px
set_option linter.unusedVariables false
set_option linter.unusedSimpArgs false
namespace Go.Px
open Go Go.RowKit
def OutN (P : Program) (base : Nat) (sl : Option Nat) (m : Mu) (S : Sett) (H : Heap) (w : World) (res : Result Next) (H' : Heap) (x : AV) : Prop :=
 ∃ nx v' w' m' S', res = .ok nx w' ∧ (nx = .value v' ∨ (nx = .skip ∧ v' = Go.undef)) ∧ Step P base m S H w m' S' H' w' ∧ Gaps sl m H m' H' ∧ Rep m' S' w' false v' x
def NextOk (P : Program) (base : Nat) (sl : Option Nat) (m : Mu) (S : Sett) (H : Heap) (w : World) (res : Result Next) : Eff → Prop
 | .val x => OutN P base sl m S H w res H x
 | .new o f => OutN P base sl m S H w res (layNew sl H o).2 (f (layNew sl H o).1)
 | .put nm o x => OutN P base sl m S H w res (H.set nm o) x
 | .app nm o n sz => OutN P base sl m S H w res (layNew sl (H.set nm .dead) o).2 (.own (layNew sl (H.set nm .dead) o).1 0 n sz)
 | .call (.func f) args => ∃ args', res = (callFunc f args').run P w ∧ RepL m S w false args'.toList args
 | .call (.yield l) args => ∃ args' b, m l = some (b, 0) ∧ res = (Instr.yield b args').run P w ∧ RepL m S w false args'.toList args
section ops
variable {P : Program} {E : Env} {base : Nat} {m : Mu} {S : Sett} {H : Heap} {w : World} {slot : Option Nat}
theorem nextV {s : Sem Value} {H' : Heap} {x : AV} (h : Out P base slot m S H w (s.run P w) H' x) : OutN P base slot m S H w ((do pure (.value (← s)) : Sem Next).run P w) H' x := by
 obtain ⟨v', w', m', S', h1, h2, h3, h4⟩ := h
 exact ⟨.value v', v', w', m', S', by simp [Sem.run_bind, h1], .inl rfl, h2, h3, h4⟩
theorem nextP (hR : Rel P base m S H w) {s : Sem Value} {x : AV} (h : ∃ v', s.run P w = .ok v' w ∧ Rep m S w false v' x) : OutN P base slot m S H w ((do pure (.value (← s)) : Sem Next).run P w) H x := by
 obtain ⟨v', h1, h2⟩ := h
 exact ⟨.value v', v', w, m, S, by simp [Sem.run_bind, h1], .inl rfl, Step.refl hR, Gaps.refl _ _ _, h2⟩
theorem nextE {s : Sem Value} {eff : Eff} (hR : Rel P base m S H w) (h : EffOk P base slot m S H w (s.run P w) eff) : NextOk P base slot m S H w ((do pure (.value (← s)) : Sem Next).run P w) eff := by
 cases eff with
 | val x => exact nextP hR h
 | new o f => exact nextV h
 | put nm o x => exact nextV h
 | app nm o n sz => exact nextV h
 | call t args => exact h.elim
theorem op_ok {a : Act} {tm : List AV} (hT : RepL m S w false a.tmps.toList tm) (o : Operand) : Rep m S w false (a.eval o) (opA tm o) := by
 cases o with
 | tmp t =>
  have := hT.getD t
  simpa [Act.eval, opA, Array.getD_eq_getD_getElem?, List.getD_eq_getElem?_getD] using this
 | const v =>
  by_cases h : ofVal v = .undef
  ·simp only [opA, h]; exact .undef _
  ·exact (ofVal_rep v h).weak
 | func f => exact .clo false f [] [] (.nil _)
 | global g => exact .undef _
theorem ops_ok {a : Act} {tm : List AV} (hT : RepL m S w false a.tmps.toList tm) : ∀ (l : List Operand), RepL m S w false (l.map a.eval) (l.map (opA tm))
 | [] => .nil _
 | o :: l => .cons _ _ _ _ _ (op_ok hT o) (ops_ok hT l)
theorem parts_ok {a : Act} {tm : List AV} (hT : RepL m S w false a.tmps.toList tm) : ∀ (l : List (Nat × Operand)), RepP m S w (l.map fun (i, x) => (i, a.eval x)) (l.map fun (i, x) => (i, opA tm x))
 | [] => .nil
 | (i, o) :: l => .cons _ _ _ _ _ (op_ok hT o) (parts_ok hT l)
theorem opt_some {a : Act} {tm : List AV} (hT : RepL m S w false a.tmps.toList tm) (o : Option Operand) : ∀ y, o.map (opA tm) = some y → ∃ v, o.map a.eval = some v ∧ Rep m S w false v y := by
 intro y hy
 cases o with
 | none => simp at hy
 | some x => simp at hy; subst hy; exact ⟨_, rfl, op_ok hT x⟩
theorem opt_none {a : Act} {tm : List AV} (o : Option Operand) : o.map (opA tm) = none → o.map a.eval = none := by
 intro h; cases o <;> simp_all
theorem foldl_push : ∀ (ns : List Int) (r : ByteArray), (ns.foldl (fun r n => r.push (UInt8.ofNat n.toNat)) r).data.toList = r.data.toList ++ ns.map fun n => UInt8.ofNat n.toNat
 | [], r => by simp
 | n :: ns, r => by
  rw [List.foldl_cons, foldl_push ns]
  simp [ByteArray.push]
theorem bytes_rep : ∀ {vs : List Value} {cs : List AV} {l : List Nat}, RepL m S w false vs cs → bytesA cs = some l → ∃ ns : List Int, vs = ns.map (Value.int .u8) ∧ (ns.map fun n => (UInt8.ofNat n.toNat).toNat) = l
 | _, _, l, .nil _, h => by simp [bytesA] at h; subst h; exact ⟨[], rfl, rfl⟩
 | _, _, l, .cons _ v x vs xs hv t, h => by
  cases x with
  | int k n =>
   cases k <;> simp only [bytesA] at h <;> try (cases h; done)
   split at h
   ·rename_i hn
    simp only [Option.map_eq_some_iff] at h
    obtain ⟨l', h1, rfl⟩ := h
    obtain ⟨ns, rfl, h2⟩ := bytes_rep t h1
    obtain rfl := rep_int hv
    refine ⟨n :: ns, rfl, ?_⟩
    simp only [List.map_cons, h2]
    congr 1
    simp only [UInt8.toNat_ofNat']
    omega
   ·cases h
  | _ => simp [bytesA] at h
theorem bstr_ok (hE : EnvOk P E) (hR : Rel P base m S H w) {src dst e : TypeId} {x' : Value} {x : AV} {eff : Eff} {acc : Acc} (hx : Rep m S w false x' x) (hu1 : P.underlying src = some (.slice e)) (hu2 : P.underlying dst = some .string) (hsl : (∃ n cs f, x = .sl n cs f) ∨ ∃ nm off n sz, x = .own nm off n sz)
  (h : bstrA E H e x = some (eff, acc)) : EffOk P base slot m S H w ((convert src dst x').run P w) eff := by
 unfold bstrA at h
 split at h
 ·rename_i n cs ac he hc
  simp only [Option.map_eq_some_iff] at h he
  obtain ⟨l, hl, he2⟩ := h
  cases he2
  obtain ⟨ei, hei, hed⟩ := he
  obtain ⟨d3, _, _, hu3, _, hd3, _⟩ := hE.ty e ei hei
  obtain rfl := desc_int (hd3.symm.trans hed)
  obtain ⟨news, n1, n2, n3, hsrc⟩ := content_ok (P := P) hR hx hc (.inl ⟨_, hu1⟩)
  obtain ⟨ns, rfl, hns⟩ := bytes_rep n1 hl
  have hval : ∃ a n c, x' = .slice a n c ∧ (a = none → n = 0) := by
   rcases hsl with ⟨n, cs, f, rfl⟩ | ⟨nm, off, n, sz, rfl⟩
   ·cases hx with
    | nilsl => exact ⟨none, 0, 0, rfl, fun _ => rfl⟩
    | sl _ a n c cells full h1 h2 h3 => exact ⟨some a, n, c, rfl, fun h => by cases h⟩
   ·cases hx with
    | own nm off n sz c b o h1 h2 h3 => exact ⟨_, n, c, rfl, fun h => by cases h⟩
    | own0 nm off sz b o a h1 => exact ⟨a, 0, 0, rfl, fun _ => rfl⟩
  obtain ⟨a, n', c, rfl, ha⟩ := hval
  have hlen : n = n' := by
   have := hsrc.len w
   simp [Builtin.lenOf] at this
   exact this.symm
  subst hlen
  have hconv : (convert src dst (.slice a n c)).run P w = (Conv.bytesToString (.slice a n c)).run P w := by
   simp [convert, Sem.run_bind, run_underlying hu1, run_underlying hu2, run_underlying hu3]
  have hstr : (ns.foldl (fun r n => r.push (UInt8.ofNat n.toNat)) ByteArray.empty).data.toList.map UInt8.toNat = l := by
   rw [foldl_push]
   simp only [show (ByteArray.empty).data.toList = [] from rfl, List.nil_append, List.map_map]
   exact hns
  simp only [EffOk]
  rw [hconv]
  cases a with
  | none =>
   obtain rfl := ha rfl
   have h0 : ns = [] := by
    have := n1.length
    rw [n3] at this
    simpa using this
   subst h0
   exact ⟨.string .empty, by simp [Conv.bytesToString], .str _ _ _ hstr⟩
  | some a =>
   have hl2 : (loadCells a n).run P w = .ok (ns.map (Value.int .u8)).toArray w := by
    have := hsrc.cells
    simpa [Builtin.firstCells] using this
   exact ⟨_, run_bytesToString w a n c ns hl2, .str _ _ _ hstr⟩
 ·cases h
theorem conv_ok (hE : EnvOk P E) (hR : Rel P base m S H w) {src dst : TypeId} {x' : Value} {x : AV} {eff : Eff} {acc : Acc} (hx : Rep m S w false x' x) (h : convA E H src dst x = some (eff, acc)) : EffOk P base slot m S H w ((convert src dst x').run P w) eff := by
 unfold convA at h
 cases hi : E.ty src with
 | none => simp [hi] at h
 | some i =>
  simp only [hi, Option.bind_eq_bind, Option.bind_some] at h
  cases hj : E.ty dst with
  | none => simp [hj] at h
  | some j =>
   simp only [hj, Option.bind_some] at h
   obtain ⟨d1, _, _, hu1, _, hd1, _⟩ := hE.ty src i hi
   obtain ⟨d2, _, _, hu2, _, hd2, _⟩ := hE.ty dst j hj
   split at h
   ·rename_i k1 k2 k n e1 e2
    obtain rfl := desc_int (hd1.symm.trans e1)
    obtain rfl := desc_int (hd2.symm.trans e2)
    obtain rfl := rep_int hx
    simp at h; obtain ⟨rfl, _⟩ := h
    exact ⟨_, by simp [convert, Sem.run_bind, run_underlying hu1, run_underlying hu2, Conv.intToInt], .int _ _ _⟩
   ·rename_i s e1 e2
    obtain rfl := desc_str (hd1.symm.trans e1)
    obtain rfl := desc_str (hd2.symm.trans e2)
    obtain ⟨b, rfl, hb⟩ := rep_str hx
    simp at h; obtain ⟨rfl, _⟩ := h
    exact ⟨_, by simp [convert, Sem.run_bind, run_underlying hu1, run_underlying hu2], .str _ _ _ hb⟩
   ·rename_i e n cs f e1 e2
    obtain rfl := desc_slice (hd1.symm.trans e1)
    obtain rfl := desc_str (hd2.symm.trans e2)
    exact bstr_ok hE hR hx hu1 hu2 (.inl ⟨_, _, _, rfl⟩) h
   ·rename_i e nm off n sz e1 e2
    obtain rfl := desc_slice (hd1.symm.trans e1)
    obtain rfl := desc_str (hd2.symm.trans e2)
    exact bstr_ok hE hR hx hu1 hu2 (.inr ⟨_, _, _, _, rfl⟩) h
   ·cases h
theorem rep_clo {nf : Bool} {v : Value} {f : FuncId} {xs : List AV} (h : Rep m S w nf v (.clo f xs)) : ∃ cs, v = .func (.func f) #[] cs.toArray ∧ RepL m S w nf cs xs := by cases h; exact ⟨_, rfl, by assumption⟩
theorem rep_yield {nf : Bool} {v : Value} {l : Nat} (h : Rep m S w nf v (.yield l)) : ∃ b, v = .func (.yield b) #[] #[] ∧ m l = some (b, 0) := by cases h; exact ⟨_, rfl, by assumption⟩
theorem rep_tup {nf : Bool} {v : Value} {xs : List AV} (h : Rep m S w nf v (.tup xs)) : ∃ cs, v = .tuple cs.toArray ∧ RepL m S w nf cs xs := by cases h; exact ⟨_, rfl, by assumption⟩
theorem callee_ok (hR : Rel P base m S H w) {a : Act} {tm : List AV} (hT : RepL m S w false a.tmps.toList tm) {f : Operand} {t : Tgt} {caps : List AV} (h : calleeA tm f = some (t, caps)) {args' : Array Value} {args : List AV} (ha : RepL m S w false args'.toList args) :
  NextOk P base slot m S H w ((do let d ← Deferred.ofValue (a.eval f) args'; invoke d.target d.args : Sem Next).run P w) (.call t (args ++ caps)) := by
 have key : ∀ {x : Operand}, (match opA tm x with
  | .clo f caps => some (Tgt.func f, caps)
  | .yield l => some (.yield l, [])
  | _ => none) = some (t, caps) → NextOk P base slot m S H w ((do let d ← Deferred.ofValue (a.eval x) args'; invoke d.target d.args : Sem Next).run P w) (.call t (args ++ caps)) := by
  intro x hx
  have hr := op_ok hT x
  split at hx
  ·rename_i g cs e
   rw [e] at hr
   obtain ⟨vs, hv, hl⟩ := rep_clo hr
   simp at hx; obtain ⟨rfl, rfl⟩ := hx
   refine ⟨args' ++ vs.toArray, ?_, by simpa using ha.append hl⟩
   simp [hv, Deferred.ofValue, Sem.run_bind, invoke]
  ·rename_i l e
   rw [e] at hr
   obtain ⟨b, hv, hm⟩ := rep_yield hr
   simp at hx; obtain ⟨rfl, rfl⟩ := hx
   exact ⟨args', b, hm, by simp [hv, Deferred.ofValue, Sem.run_bind, invoke], by simpa using ha⟩
  ·cases hx
 cases f with
 | func g =>
  simp [calleeA] at h; obtain ⟨rfl, rfl⟩ := h
  exact ⟨args', by simp [Act.eval, Deferred.ofValue, Sem.run_bind, invoke], by simpa using ha⟩
 | tmp x => exact key (x := .tmp x) h
 | const x => exact key (x := .const x) h
 | global x => exact key (x := .global x) h
set_option maxHeartbeats 8000000 in
theorem evalOp_ok (hE : EnvOk P E) (hR : Rel P base m S H w) (hs : SlotOk m H slot) {a : Act} {tm : List AV} (hT : RepL m S w false a.tmps.toList tm) {o : Oper} {eff : Eff} {acc : Acc} (h : evalOp E tm H o = some (eff, acc)) :
  NextOk P base slot m S H w ((execOp a.eval o).run P w) eff := by
 have hv : ∀ {s : Sem Value} {y : Option AV}, (∀ x, y = some x → ∃ v', s.run P w = .ok v' w ∧ Rep m S w false v' x) → (y.map fun x => (Eff.val x, Acc.none)) = some (eff, acc) → NextOk P base slot m S H w ((do pure (.value (← s)) : Sem Next).run P w) eff := by
  intro s y hy he
  cases y with
  | none => simp at he
  | some x => simp at he; obtain ⟨rfl, _⟩ := he; exact nextP hR (hy x rfl)
 have hva : ∀ {s : Sem Value} {y : Option (AV × Acc)}, (∀ x acc, y = some (x, acc) → ∃ v', s.run P w = .ok v' w ∧ Rep m S w false v' x) → (y.map fun (x, a) => (Eff.val x, a)) = some (eff, acc) → NextOk P base slot m S H w ((do pure (.value (← s)) : Sem Next).run P w) eff := by
  intro s y hy he
  cases y with
  | none => simp at he
  | some q => obtain ⟨x, ac⟩ := q; simp at he; obtain ⟨rfl, _⟩ := he; exact nextP hR (hy x ac rfl)
 unfold evalOp at h
 unfold execOp
 cases hop : o.op with
 | move x =>
  simp [hop] at h ⊢; obtain ⟨rfl, _⟩ := h
  exact ⟨_, _, w, m, S, rfl, .inl rfl, Step.refl hR, Gaps.refl _ _ _, op_ok hT x⟩
 | assign x =>
  simp [hop] at h ⊢; obtain ⟨rfl, _⟩ := h
  exact ⟨_, _, w, m, S, rfl, .inl rfl, Step.refl hR, Gaps.refl _ _ _, op_ok hT x⟩
 | pick c x y =>
  simp only [hop] at h ⊢
  have hc := op_ok hT c
  split at h
  ·rename_i b hb
   rw [hb] at hc
   have := rep_bool hc
   simp at h; obtain ⟨rfl, _⟩ := h
   refine ⟨_, (if b then a.eval x else a.eval y), w, m, S, ?_, .inl rfl, Step.refl hR, Gaps.refl _ _ _, ?_⟩
   ·simp [Sem.run_bind, this, asBool]
   ·cases b
    ·exact op_ok hT y
    ·exact op_ok hT x
  ·cases h
 | alloc t =>
  simp only [hop] at h ⊢
  cases hi : E.ty t with
  | none => simp [hi] at h
  | some i => simp [hi] at h; obtain ⟨rfl, _⟩ := h; exact nextV (alloc_ok hE hR hs hi)
 | box t x =>
  simp only [hop] at h ⊢
  cases hi : E.ty t with
  | none => simp [hi] at h
  | some i => simp [hi] at h; obtain ⟨rfl, _⟩ := h; exact nextV (box_ok hE hR hs hi (op_ok hT x))
 | build t parts =>
  simp only [hop] at h ⊢
  exact hv (fun x hx => build_ok hE (ps' := parts.map fun (i, x) => (i, a.eval x)) (by simpa using parts_ok hT parts.toList) hx) h
 | buildSlice t len parts =>
  simp only [hop] at h ⊢
  cases hb : buildSliceA E t len (parts.toList.map fun (i, x) => (i, opA tm x)) with
  | none => simp [hb] at h
  | some ef =>
   simp [hb] at h; obtain ⟨rfl, _⟩ := h
   have hn : ∃ o f, ef = .new o f := by
    unfold buildSliceA at hb
    simp only [Option.bind_eq_bind] at hb
    cases h1 : E.ty t with
    | none => simp [h1] at hb
    | some i =>
     simp only [h1, Option.bind_some] at hb
     split at hb
     ·cases h2 : E.ty ‹Nat› with
      | none => simp [h2] at hb
      | some ei =>
       simp only [h2, Option.bind_some] at hb
       split at hb
       ·cases hb
       ·rename_i e _ _
        cases h3 : fillA (fun k => some (k * ei.size, ei.size)) (zerosA ei.zero len) (parts.toList.map fun (i, x) => (i, opA tm x)) with
        | none => simp [h3] at hb
        | some cs => simp [h3] at hb; exact ⟨_, _, hb.symm⟩
     ·cases hb
   obtain ⟨o1, f1, rfl⟩ := hn
   exact nextV (buildSlice_ok hE hR hs (ps' := parts.map fun (i, x) => (i, a.eval x)) (by simpa using parts_ok hT parts.toList) hb)
 | load t x =>
  simp only [hop] at h ⊢
  exact hva (fun x ac hx => load_ok hE hR (op_ok hT _) hx) h
 | store t x y =>
  simp only [hop] at h ⊢
  have hput : ∃ nm ob x, eff = .put nm ob x := by
   unfold storeA at h
   simp only [Option.bind_eq_bind] at h
   cases h1 : E.ty t with
   | none => simp [h1] at h
   | some i =>
    simp only [h1, Option.bind_some] at h
    split at h
    ·split at h
     ·split at h
      ·simp at h; exact ⟨_, _, _, h.1.symm⟩
      ·simp at h
     ·simp at h
    ·simp at h
  obtain ⟨nm, ob, xx, rfl⟩ := hput
  obtain ⟨w', m', S', h1, h2, h3, rfl⟩ := store_ok (slot := slot) hE hR (op_ok hT x) (op_ok hT y) h
  exact ⟨.skip, Go.undef, w', m', S', by simp [Sem.run_bind, h1], .inr ⟨rfl, rfl⟩, h2, h3, .tup false [] [] (.nil _)⟩
 | mapUpdate t x k y =>
  simp only [hop] at h ⊢
  obtain ⟨nm, ob, xx, rfl⟩ := updateA_put h
  obtain ⟨w', h1, h2, h3, rfl⟩ := update_ok (slot := slot) hE hR (op_ok hT x) (op_ok hT k) (op_ok hT y) h
  exact ⟨.skip, Go.undef, w', m, S, by simp [Sem.run_bind, h1], .inr ⟨rfl, rfl⟩, h2, h3, .tup false [] [] (.nil _)⟩
 | range t x =>
  simp only [hop] at h ⊢
  exact nextE hR (range_ok hE hR hs (op_ok hT x) h)
 | next x isS =>
  simp only [hop, extA] at h ⊢
  cases isS with
  | true => cases h
  | false => exact nextE hR (next_ok hR (op_ok hT x) h)
 | entry x =>
  simp only [hop] at h ⊢
  exact nextE hR (entry_ok hR (op_ok hT x) h)
 | mapEntry t x k =>
  simp only [hop] at h ⊢
  exact nextE hR (mapEntry_ok hE hR (op_ok hT x) (op_ok hT k) h)
 | entryStore t x k y =>
  simp only [hop] at h ⊢
  obtain ⟨nm, ob, w', rfl, h1, h2, h3⟩ := entryStore_ok (slot := slot) (t := t) hR (op_ok hT x) (op_ok hT k) (op_ok hT y) h
  exact ⟨.skip, Go.undef, w', m, S, by simp [Sem.run_bind, h1], .inr ⟨rfl, rfl⟩, h2, h3, .tup false [] [] (.nil _)⟩
 | makeSlice t n c =>
  simp only [hop] at h ⊢
  exact nextE hR (makeSlice_ok hE hR hs (op_ok hT n) (op_ok hT c) h)
 | nilCheck x =>
  simp only [hop] at h ⊢
  have hx := op_ok hT x
  split at h
  ·rename_i cs e
   rw [e] at hx
   simp at h; obtain ⟨rfl, _⟩ := h
   cases hq : a.eval x <;> rw [hq] at hx <;> first
    | (cases hx; done)
    | skip
   rename_i p
   cases p with
   | none => cases hx
   | some p => exact ⟨_, _, w, m, S, rfl, .inl rfl, Step.refl hR, Gaps.refl _ _ _, hx⟩
  ·rename_i nm off e
   rw [e] at hx
   simp at h; obtain ⟨rfl, _⟩ := h
   cases hq : a.eval x <;> rw [hq] at hx <;> first
    | (cases hx; done)
    | skip
   rename_i p
   cases p with
   | none => cases hx
   | some p => exact ⟨_, _, w, m, S, rfl, .inl rfl, Step.refl hR, Gaps.refl _ _ _, hx⟩
  ·rename_i f caps e
   rw [e] at hx
   simp at h; obtain ⟨rfl, _⟩ := h
   obtain ⟨cs, hq, _⟩ := rep_clo hx
   rw [hq] at hx ⊢
   exact ⟨_, _, w, m, S, rfl, .inl rfl, Step.refl hR, Gaps.refl _ _ _, hx⟩
  ·cases h
 | binOp op t x y c =>
  simp only [hop] at h ⊢
  exact hv (fun z hz => bin_ok hE (op_ok hT x) (op_ok hT y) hz) h
 | unOp op t x =>
  simp only [hop] at h ⊢
  exact hv (fun z hz => un_ok (op_ok hT x) hz) h
 | convert s d x =>
  simp only [hop] at h ⊢
  exact nextE hR (conv_ok hE hR (op_ok hT x) h)
 | makeInterface t x =>
  simp only [hop] at h ⊢
  cases hi : E.ty t with
  | none => simp [hi] at h
  | some i =>
   simp only [hi, Option.bind_some] at h
   obtain ⟨d, _, _, hu, _, hd, _⟩ := hE.ty t i hi
   split at h
   ·cases h
   ·rename_i hne
    refine hv (y := some (.iface t (opA tm x))) (fun z hz => ?_) h
    cases hz
    refine ⟨.iface t (a.eval x), ?_, .iface _ _ _ _ (op_ok hT x)⟩
    rw [Instr.makeInterface, Sem.run_bind, run_underlying hu, Result.andThen_ok]
    cases d <;> first
     | rfl
     | exact absurd (hd.trans rfl) (hne)
 | makeFunc f first captured =>
  simp only [hop] at h ⊢
  cases f <;> simp only at h <;> first
   | (cases h; done)
   | skip
  rename_i f
  split at h
  ·rename_i hf
   refine hv (y := some (.clo f (captured.toList.map (opA tm)))) (fun z hz => ?_) h
   cases hz
   have he : first = #[] := by simpa using hf
   subst he
   have := Rep.clo false f _ _ (ops_ok hT captured.toList)
   refine ⟨_, rfl, ?_⟩
   rw [show captured.map a.eval = (captured.toList.map a.eval).toArray from by apply Array.ext'; simp, show Array.map a.eval #[] = #[] from by simp]
   exact this
  ·cases h
 | makeMap t r =>
  simp only [hop] at h ⊢
  cases r with
  | some r => simp at h
  | none =>
   simp only [Option.map_none] at h ⊢
   cases hi : E.ty t with
   | none => simp [hi] at h
   | some i =>
    simp only [hi, Option.bind_some] at h
    split at h
    ·simp at h; obtain ⟨rfl, _⟩ := h
     exact nextV (makeMap_ok hE hR hs)
    ·cases h
 | slice t x lo hi mx =>
  simp only [hop] at h ⊢
  exact hv (fun z hz => slice_ok hE (op_ok hT x) (opt_some hT lo) (opt_none lo) (opt_some hT hi) (opt_none hi) (opt_some hT mx) (opt_none mx) hz) h
 | fieldAddr t x k =>
  simp only [hop] at h ⊢
  exact hv (fun z hz => fieldAddr_ok hE (op_ok hT x) hz) h
 | field t x k =>
  simp only [hop] at h ⊢
  exact hv (fun z hz => field_ok hE (op_ok hT x) hz) h
 | indexAddr t x k =>
  simp only [hop] at h ⊢
  exact hv (fun z hz => indexAddr_ok hE (op_ok hT x) (op_ok hT k) hz) h
 | index t x k =>
  simp only [hop] at h ⊢
  exact hv (fun z hz => index_ok hE (op_ok hT x) (op_ok hT k) hz) h
 | lookup t x k ok =>
  simp only [hop] at h ⊢
  exact hva (fun z ac hz => lookup_ok hE hR (op_ok hT x) (op_ok hT k) hz) h
 | typeAssert x xt t ok =>
  simp only [hop] at h ⊢
  exact hv (fun z hz => assert_ok hE (op_ok hT x) hz) h
 | extract t i =>
  simp only [hop] at h ⊢
  have hx := op_ok hT t
  split at h
  ·rename_i vs e
   rw [e] at hx
   obtain ⟨cs, hq, hl⟩ := rep_tup hx
   refine hv (y := vs[i]?) (fun z hz => ?_) h
   obtain ⟨v, g1, g2⟩ := hl.get hz
   exact ⟨v, by simp [hq, Instr.extract, g1], g2⟩
  ·cases h
 | call c =>
  simp only [hop] at h ⊢
  cases hcal : c.callee with
  | value f =>
   simp only [hcal] at h ⊢
   cases hc : calleeA tm f with
   | none => simp [hc] at h
   | some q =>
    obtain ⟨t, caps⟩ := q
    simp [hc] at h; obtain ⟨rfl, _⟩ := h
    have := callee_ok (slot := slot) hR hT hc (args' := c.args.map a.eval) (args := c.args.toList.map (opA tm)) (by simpa using ops_ok hT c.args.toList)
    simpa [resolve, hcal] using this
  | invoke r n => simp [hcal] at h
  | builtin b =>
   simp only [hcal] at h
   have hargs := ops_ok hT c.args.toList
   have hx3 : ∀ {t : TypeId} {ts : List TypeId}, c.argTypes.toList = t :: ts → c.argTypes = (t :: ts).toArray := fun e => by apply Array.ext'; simpa using e
   cases b <;> simp only at h <;> first
    | (cases h; done)
    | (exfalso; revert h; cases c.argTypes.toList <;> simp [builtinX]; done)
    | skip
   case delete =>
    split at h
    ·rename_i t ts h1
     simp only [builtinX, Option.bind_some, extA] at h
     have h0 := h
     unfold xDelete at h0
     split at h0
     ·rename_i nm k h2
      clear h0
      rw [h2] at h hargs
      have hl : c.args.toList.length = 2 := by have := congrArg List.length h2; simpa using this
      obtain ⟨p, q, e2⟩ : ∃ p q, c.args.toList = [p, q] := by
       match hc2 : c.args.toList, hl with
       | [p, q], _ => exact ⟨p, q, rfl⟩
      rw [e2] at h2
      simp only [List.map_cons, List.map_nil, List.cons.injEq, and_true] at h2
      have hp := op_ok hT p
      have hq := op_ok hT q
      rw [h2.1] at hp
      rw [h2.2] at hq
      have e3 : c.args = #[p, q] := by apply Array.ext'; simpa using e2
      have := nextE hR (delete_ok (slot := slot) (ty := o.type) (ts := ts) hE hR hp hq h)
      simpa [resolve, hcal, invoke, builtin, hx3 h1, e3] using this
     ·cases h0
    ·cases h
   case cap =>
    split at h
    ·rename_i t ts h1
     simp only [builtinX, Option.bind_some, extA] at h
     have hl : ∃ p, c.args.toList = [p] := by
      cases e2 : c.args.toList with
      | nil => rw [e2] at h; simp [xCap] at h
      | cons p l =>
       cases l with
       | nil => exact ⟨p, rfl⟩
       | cons q l => rw [e2] at h; simp [xCap] at h
     obtain ⟨p, e2⟩ := hl
     rw [e2] at h
     have e3 : c.args = #[p] := by apply Array.ext'; simpa using e2
     have := nextE hR (cap_ok (P := P) (slot := slot) (base := base) (ty := o.type) (ts := ts) (H := H) hE (op_ok hT p) h)
     simpa [resolve, hcal, invoke, builtin, hx3 h1, e3] using this
    ·cases h
   case clear =>
    split at h
    ·rename_i t ts h1
     simp only [builtinX, Option.bind_some, extA] at h
     have hl : ∃ p, c.args.toList = [p] := by
      cases e2 : c.args.toList with
      | nil => rw [e2] at h; simp [xClear] at h
      | cons p l =>
       cases l with
       | nil => exact ⟨p, rfl⟩
       | cons q l => rw [e2] at h; simp [xClear] at h
     obtain ⟨p, e2⟩ := hl
     rw [e2] at h
     have e3 : c.args = #[p] := by apply Array.ext'; simpa using e2
     have := nextE hR (clear_ok (P := P) (slot := slot) (ty := o.type) (ts := ts) hE hR (op_ok hT p) h)
     simpa [resolve, hcal, invoke, builtin, hx3 h1, e3] using this
    ·cases h
   ·-- append
    split at h
    ·rename_i t t2 s x h1 h2
     have e1 : c.argTypes = #[t, t2] := by apply Array.ext'; simpa using h1
     have e2 : c.args = #[s, x] := by apply Array.ext'; simpa using h2
     cases hi : E.ty t2 with
     | none => simp [hi] at h
     | some i =>
      simp only [hi, Option.bind_some] at h
      obtain ⟨d, _, _, hu, _, hd, _⟩ := hE.ty t2 i hi
      have fin : (∃ e', P.underlying t2 = some (.slice e')) ∨ P.underlying t2 = some .string → appendA E H t (opA tm s) (opA tm x) = some (eff, acc) → _ := fun hk h' => nextE hR (append_ok (slot := slot) (ty := o.type) hE hR hs (op_ok hT s) (op_ok hT x) hk h')
      split at h
      ·rename_i e he
       obtain rfl := desc_slice (hd.symm.trans he)
       have := fin (.inl ⟨_, hu⟩) h
       simpa [resolve, hcal, invoke, builtin, e1, e2] using this
      ·rename_i he
       obtain rfl := desc_str (hd.symm.trans he)
       have := fin (.inr hu) h
       simpa [resolve, hcal, invoke, builtin, e1, e2] using this
      ·rename_i kn he
       obtain rfl := desc_int (hd.symm.trans he)
       have := nextE hR (appendZ_ok (slot := slot) (ty := o.type) hE hR hs (op_ok hT s) (op_ok hT x) hu h)
       simpa [resolve, hcal, invoke, builtin, e1, e2] using this
      ·cases h
    ·cases h
   ·-- len
    split at h
    ·rename_i t x h1 h2
     have e1 : c.argTypes = #[t] := by apply Array.ext'; simpa using h1
     have e2 : c.args = #[x] := by apply Array.ext'; simpa using h2
     have := hva (fun z ac hz => len_ok hE hR (op_ok hT x) hz o.type) h
     simpa [resolve, hcal, invoke, builtin, e1, e2] using this
    ·cases h
   ·-- max
    have hm : ∀ z, mostA true (c.args.toList.map (opA tm)) = some z → ∃ v', (Builtin.max_ c.argTypes o.type (c.args.map a.eval)).run P w = .ok v' w ∧ Rep m S w false v' z := by
     intro z hz
     unfold Builtin.max_
     rw [Array.toList_map]
     cases hl : c.args.toList with
     | nil => simp [hl, mostA] at hz
     | cons q l =>
      rw [hl] at hz hargs
      simp only [List.map_cons, mostA] at hz ⊢
      exact most_ok (op_ok hT q) (ops_ok hT l) hz
    have := hv hm h
    simpa [resolve, hcal, invoke, builtin] using this
   ·-- min
    have hm : ∀ z, mostA false (c.args.toList.map (opA tm)) = some z → ∃ v', (Builtin.min_ c.argTypes o.type (c.args.map a.eval)).run P w = .ok v' w ∧ Rep m S w false v' z := by
     intro z hz
     unfold Builtin.min_
     rw [Array.toList_map]
     cases hl : c.args.toList with
     | nil => simp [hl, mostA] at hz
     | cons q l =>
      rw [hl] at hz hargs
      simp only [List.map_cons, mostA] at hz ⊢
      exact most_ok (big := false) (op_ok hT q) (ops_ok hT l) hz
    have := hv hm h
    simpa [resolve, hcal, invoke, builtin] using this
 | _ => simp [hop] at h
end ops
end Go.Px
set_option linter.unusedVariables false
set_option linter.unusedSimpArgs false
namespace Go.Px
section force
variable {α : Type}
theorem fN_eq (n : Nat) (c : Nat → α) : fN n c = c n := by cases n <;> rfl
theorem fI_eq (n : Int) (c : Int → α) : fI n c = c n := by cases n <;> simp [fI, fN_eq]
theorem fB_eq (b : Bool) (c : Bool → α) : fB b c = c b := by cases b <;> rfl
theorem fLN_eq : ∀ (l : List Nat) (c : List Nat → α), fLN l c = c l
 | [], c => rfl
 | n :: l, c => by simp [fLN, fN_eq, fLN_eq l]
theorem fS_eq {β : Type} : ∀ (l : List β) (c : List β → α), fS l c = c l
 | [], c => rfl
 | n :: l, c => by simp [fS, fS_eq l]
mutual
theorem fV_eq : ∀ (v : AV) (c : AV → α), fV v c = c v
 | .undef, c => rfl
 | .bool b, c => by simp [fV, fB_eq]
 | .int k n, c => by simp [fV, fI_eq]
 | .str s, c => by simp [fV, fLN_eq]
 | .sl n cs f, c => by simp [fV, fN_eq, fL_eq cs, fB_eq]
 | .own nm off n sz, c => by simp [fV, fN_eq]
 | .agg cs, c => by simp [fV, fL_eq cs]
 | .tup cs, c => by simp [fV, fL_eq cs]
 | .clo f cs, c => by simp [fV, fN_eq, fL_eq cs]
 | .yield l, c => by simp [fV, fN_eq]
 | .nilFunc, c => rfl
 | .nilIface, c => rfl
 | .iface t v, c => by simp [fV, fV_eq v]
 | .ref cs, c => by simp [fV, fL_eq cs]
 | .loc nm off, c => by simp [fV, fN_eq]
 | .nilptr, c => rfl
 | .map nm, c => by simp [fV, fN_eq]
 | .nilmap, c => rfl
 | .res k r M, c => by simp [fV, fN_eq]
theorem fL_eq : ∀ (l : List AV) (c : List AV → α), fL l c = c l
 | [], c => rfl
 | v :: l, c => by simp [fL, fV_eq v, fL_eq l]
end
theorem fW_eq (v : AV) (c : AV → α) : fW v c = c v := by cases v <;> simp [fW, fS_eq, fN_eq, fB_eq]
theorem fO_eq (o : AO) (c : AO → α) : fO o c = c o := by cases o <;> simp [fO, fL_eq, fB_eq]
end force
def mkO : AO → AO
 | .row e cs _ => .row e cs true
 | o => o
theorem mkO_idem (o : AO) : mkO (mkO o) = mkO o := by cases o <;> rfl
def TrOk (acc : Acc) (T : Nat → AO → AO) : Prop := ∀ j, j ∉ acc.wr → (∀ x, T j x = x) ∨ ((j ∈ acc.rd ∧ 2 ≤ acc.rd.length) ∧ ∀ x, T j x = mkO x)
def sameFr (a b : Option AO) : Prop := a = b ∨ ∃ e cs f g, a = some (.row e cs f) ∧ b = some (.row e cs g)
theorem sameFr.refl (a : Option AO) : sameFr a a := .inl rfl
theorem sameFr.row {a b : Option AO} {e : TypeId} {cs : List AV} {f : Bool} (h : sameFr a b) (ha : a = some (.row e cs f)) : ∃ g, b = some (.row e cs g) := by
 rcases h with rfl | ⟨e', cs', f', g', h1, h2⟩
 ·exact ⟨f, ha⟩
 ·rw [ha] at h1; cases h1; exact ⟨g', h2⟩
theorem sameFr.map {a b : Option AO} {k v : TypeId} {es : List (AV × AV)} {bs : List Nat} {ck : Nat} (h : sameFr a b) (ha : a = some (.map k v es bs ck)) : b = some (.map k v es bs ck) := by
 rcases h with rfl | ⟨e', cs', f', g', h1, h2⟩
 ·exact ha
 ·rw [ha] at h1; cases h1
def Agree (acc : Acc) (H H1 : Heap) : Prop := (∀ nm ∈ acc.rd, sameFr H[nm]? H1[nm]?) ∧ (∀ nm ∈ acc.wr, H[nm]? = H1[nm]?)
theorem Agree.idle {acc : Acc} (h : acc.idle = true) (H H1 : Heap) : Agree acc H H1 := by
 simp [Acc.idle] at h
 exact ⟨fun nm hn => by simp [h.1.2] at hn, fun nm hn => by simp [h.2] at hn⟩
theorem mapIdx_id {H : Heap} {T : Nat → AO → AO} (h : ∀ j x, T j x = x) : H.mapIdx T = H := by
 apply List.ext_getElem?
 intro i
 rw [List.getElem?_mapIdx]
 cases H[i]? <;> simp [h]
theorem set_mapIdx (H : Heap) (n : Nat) (o : AO) : H.set n o = H.mapIdx (fun j x => if j = n then o else x) := by
 apply List.ext_getElem?
 intro i
 rw [List.getElem?_mapIdx, List.getElem?_set]
 by_cases h : n = i
 ·subst h
  by_cases hl : n < H.length
  ·simp [hl]
  ·simp [hl]
 ·have h' : ¬ i = n := fun e => h e.symm
  cases hi : H[i]? <;> simp [h, h']
theorem mapIdx_mapIdx' (H : Heap) (T U : Nat → AO → AO) : (H.mapIdx T).mapIdx U = H.mapIdx (fun j x => U j (T j x)) := by
 apply List.ext_getElem?
 intro i
 simp only [List.getElem?_mapIdx]
 cases H[i]? <;> rfl
theorem markOne_mapIdx (H : Heap) (n : Nat) : markOne H n = H.mapIdx (fun j x => if j = n then mkO x else x) := by
 unfold markOne
 split
 ·rename_i e cs f h
  rw [set_mapIdx]
  apply List.ext_getElem?
  intro i
  simp only [List.getElem?_mapIdx]
  by_cases hi : i = n
  ·subst hi; simp [h, mkO]
  ·cases H[i]? <;> simp [hi]
 ·rename_i h
  symm
  apply List.ext_getElem?
  intro i
  rw [List.getElem?_mapIdx]
  by_cases hi : i = n
  ·subst hi
   cases hx : H[i]? with
   | none => rfl
   | some x =>
    cases x with
    | row e cs f => exact absurd hx (h e cs f)
    | _ => simp [mkO]
  ·cases H[i]? <;> simp [hi]
theorem markAll_mapIdx : ∀ (ns : List Nat) (H : Heap), markAll H ns = H.mapIdx (fun j x => if j ∈ ns then mkO x else x)
 | [], H => by simp only [markAll, List.foldl_nil]; exact (mapIdx_id (fun j x => by simp)).symm
 | n :: ns, H => by
  show markAll (markOne H n) ns = _
  rw [markAll_mapIdx ns, markOne_mapIdx, mapIdx_mapIdx']
  congr 1
  funext j x
  by_cases h1 : j = n <;> by_cases h2 : j ∈ ns <;> simp [h1, h2, mkO_idem]
def AgreeT (l : List Nat) (tm tm1 : List AV) : Prop := ∀ t ∈ l, tm1.getD t .undef = tm.getD t .undef
def Framed (dst : Option Nat) (looks : List Nat) (f : St → Option (St × Acc)) : Prop :=
 ∀ tm H st' acc, f ⟨tm, H⟩ = some (st', acc) →
  (acc.all = false → ∃ v T, TrOk acc T ∧ st' = ⟨putT tm dst v, H.mapIdx T⟩ ∧ ∀ tm1 H1, AgreeT looks tm tm1 → Agree acc H H1 → f ⟨tm1, H1⟩ = some (⟨putT tm1 dst v, H1.mapIdx T⟩, acc)) ∧
  (∃ v, st'.tm = putT tm dst v ∧ ∀ tm1, AgreeT looks tm tm1 → f ⟨tm1, H⟩ = some (⟨putT tm1 dst v, st'.H⟩, acc))
theorem hitL_false {a b : List Nat} (h : hitL a b = false) : ∀ x, x ∈ a → x ∉ b := by
 intro x hx hb
 have : hitL a b = true := by
  simp only [hitL, List.any_eq_true]
  exact ⟨x, hx, x, hb, by simp⟩
 rw [h] at this; cases this
theorem putT_getD {tm : List AV} {d : Option Nat} {v : AV} {t : Nat} (h : d ≠ some t) : (putT tm d v).getD t .undef = tm.getD t .undef := by
 cases d with
 | none => rfl
 | some d =>
  have : d ≠ t := fun e => h (by rw [e])
  simp [putT, List.getD_eq_getElem?_getD, List.getElem?_set_ne this]
theorem putT_comm (tm : List AV) {d e : Option Nat} (v u : AV) (h : ∀ x, d = some x → e ≠ some x) : putT (putT tm d v) e u = putT (putT tm e u) d v := by
 cases d with
 | none => rfl
 | some d =>
  cases e with
  | none => rfl
  | some e =>
   have : d ≠ e := fun q => h d rfl (by rw [q])
   simp [putT, List.set_comm _ _ this]
structure Sep (d1 : Option Nat) (l1 : List Nat) (d2 : Option Nat) (l2 : List Nat) : Prop where
 a : ∀ x, d1 = some x → x ∉ l2
 b : ∀ x, d2 = some x → x ∉ l1
 c : ∀ x, d1 = some x → d2 ≠ some x
theorem AgreeT.put {l : List Nat} {tm : List AV} {d : Option Nat} {v : AV} (h : ∀ x, d = some x → x ∉ l) : AgreeT l (putT tm d v) tm ∧ AgreeT l tm (putT tm d v) :=
 ⟨fun t ht => (putT_getD (fun e => h t e ht)).symm, fun t ht => putT_getD (fun e => h t e ht)⟩
theorem TrOk.agree {acc a : Acc} {T : Nat → AO → AO} (hT : TrOk acc T) (h1 : ∀ x, x ∈ a.rd → x ∉ acc.wr) (h2 : ∀ x, x ∈ a.wr → x ∉ acc.wr) (h3 : ∀ x, x ∈ a.wr → x ∉ acc.rd) (H : Heap) : Agree a (H.mapIdx T) H ∧ Agree a H (H.mapIdx T) := by
 have key : ∀ nm ∈ a.rd, sameFr (H.mapIdx T)[nm]? H[nm]? := by
  intro nm hn
  rw [List.getElem?_mapIdx]
  rcases hT nm (h1 nm hn) with h | ⟨_, h⟩
  ·left; cases H[nm]? <;> simp [h]
  ·cases hx : H[nm]? with
   | none => exact .inl rfl
   | some x =>
    cases x with
    | row e cs f => right; exact ⟨e, cs, true, f, by simp [h, mkO], rfl⟩
    | _ => left; simp [h, mkO]
 have key2 : ∀ nm ∈ a.wr, (H.mapIdx T)[nm]? = H[nm]? := by
  intro nm hn
  rw [List.getElem?_mapIdx]
  rcases hT nm (h2 nm hn) with h | ⟨h, _⟩
  ·cases H[nm]? <;> simp [h]
  ·exact absurd h.1 (h3 nm hn)
 refine ⟨⟨key, key2⟩, fun nm hn => ?_, fun nm hn => (key2 nm hn).symm⟩
 rcases key nm hn with h | ⟨e, cs, f, g, h1, h2⟩
 ·exact .inl h.symm
 ·exact .inr ⟨e, cs, g, f, h2, h1⟩
theorem TrOk.comm {a b : Acc} {T U : Nat → AO → AO} (hT : TrOk a T) (hU : TrOk b U) (h1 : ∀ x, x ∈ a.wr → x ∉ b.rd) (h2 : ∀ x, x ∈ a.wr → x ∉ b.wr) (h3 : ∀ x, x ∈ b.wr → x ∉ a.rd) (H : Heap) : (H.mapIdx T).mapIdx U = (H.mapIdx U).mapIdx T := by
 rw [mapIdx_mapIdx', mapIdx_mapIdx']
 congr 1
 funext j x
 by_cases ha : j ∈ a.wr
 ·rcases hU j (h2 j ha) with h | ⟨h, _⟩
  ·rw [h, h]
  ·exact absurd h.1 (h1 j ha)
 ·rcases hT j ha with h | ⟨hr, h⟩
  ·rw [h, h]
  ·by_cases hb : j ∈ b.wr
   ·exact absurd hr.1 (h3 j hb)
   ·rcases hU j hb with k | ⟨_, k⟩
    ·rw [k, k]
    ·rw [k, k, h, h]
theorem TrOk.idle {a : Acc} {T : Nat → AO → AO} (hT : TrOk a T) (h : a.idle = true) (H : Heap) : H.mapIdx T = H := by
 simp [Acc.idle] at h
 refine mapIdx_id fun j x => ?_
 rcases hT j (by simp [h.2]) with k | ⟨k, _⟩
 ·exact k x
 ·simp [h.1.2] at k
structure Apart (a b : Acc) : Prop where
 l : a.all = true → b.idle = true
 r : b.all = true → a.idle = true
 n : a.all = false → b.all = false → (∀ x, x ∈ a.wr → x ∉ b.rd) ∧ (∀ x, x ∈ a.wr → x ∉ b.wr) ∧ (∀ x, x ∈ b.wr → x ∉ a.rd)
theorem hasN_ok {l : List Nat} {x : Nat} (h : hasN l x = true) : x ∈ l := by
 simp only [hasN, List.any_eq_true] at h
 obtain ⟨y, hy, he⟩ := h
 rw [Nat.eq_of_beq_eq_true he] at hy; exact hy
theorem meets_all {a b : Acc} (h : a.meets b = false) : Apart a b ∨ (a.all = true ∧ b.fresh = true) ∨ (a.all = true ∧ b.quiet = true ∧ ∀ x ∈ b.rd, x ∈ a.rd) ∨ (b.all = true ∧ a.quiet = true ∧ ∀ x ∈ a.rd, x ∈ b.rd) := by
 have hL : ∀ {l m : List Nat}, l.all (hasN m) = true → ∀ x ∈ l, x ∈ m := fun h x hx => hasN_ok (List.all_eq_true.1 h x hx)
 unfold Acc.meets at h
 by_cases ha : a.all = true
 ·rw [if_pos ha] at h
  simp only [Bool.not_eq_false', Bool.or_eq_true, Bool.and_eq_true] at h
  rcases h with (h | h) | ⟨h1, h2⟩
  ·refine .inl ⟨fun _ => h, fun hb => ?_, fun h0 => absurd ha (by simp [h0])⟩
   simp [Acc.idle, hb] at h
  ·exact .inr (.inl ⟨ha, h⟩)
  ·exact .inr (.inr (.inl ⟨ha, h1, hL h2⟩))
 ·rw [if_neg ha] at h
  by_cases hb : b.all = true
  ·rw [if_pos hb] at h
   simp only [Bool.not_eq_false', Bool.or_eq_true, Bool.and_eq_true] at h
   rcases h with h | ⟨h1, h2⟩
   ·exact .inl ⟨fun h0 => absurd h0 ha, fun _ => h, fun _ h0 => absurd hb (by simp [h0])⟩
   ·exact .inr (.inr (.inr ⟨hb, h1, hL h2⟩))
  ·rw [if_neg hb] at h
   simp only [Bool.or_eq_false_iff] at h
   exact .inl ⟨fun h0 => absurd h0 ha, fun h0 => absurd h0 hb, fun _ _ => ⟨hitL_false h.1.1, hitL_false h.1.2, hitL_false h.2⟩⟩
theorem idle_all {a : Acc} (h : a.idle = true) : a.all = false := by simp [Acc.idle] at h; exact h.1.1
theorem Framed.comm {d1 d2 : Option Nat} {l1 l2 : List Nat} {f1 f2 : St → Option (St × Acc)} (h1 : Framed d1 l1 f1) (h2 : Framed d2 l2 f2) (hs : Sep d1 l1 d2 l2) {s s1 s2 : St} {a1 a2 : Acc}
  (e1 : f1 s = some (s1, a1)) (e2 : f2 s1 = some (s2, a2)) (hm : Apart a1 a2) : ∃ s1', f2 s = some (s1', a2) ∧ f1 s1' = some (s2, a1) := by
 obtain ⟨tm, H⟩ := s
 obtain ⟨m1, m2, m3⟩ := hm
 cases ha1 : a1.all with
 | true =>
  have hi2 := m1 ha1
  obtain ⟨_, v1, p1, q1⟩ := h1 tm H s1 a1 e1
  obtain ⟨tm1, H1⟩ := s1
  simp only at p1; subst p1
  obtain ⟨g2, _⟩ := h2 _ _ _ _ e2
  obtain ⟨v2, T2, t2, rfl, r2⟩ := g2 (idle_all hi2)
  have hsp := @AgreeT.put l2 tm d1 v1 hs.a
  have hsp2 := @AgreeT.put l1 tm d2 v2 hs.b
  refine ⟨⟨putT tm d2 v2, H⟩, ?_, ?_⟩
  ·rw [r2 tm H hsp.1 (Agree.idle hi2 _ _), t2.idle hi2]
  ·rw [q1 _ hsp2.2, t2.idle hi2, putT_comm tm v1 v2 hs.c]
 | false =>
  obtain ⟨g1, _⟩ := h1 tm H s1 a1 e1
  obtain ⟨v1, T1, t1, rfl, r1⟩ := g1 ha1
  cases ha2 : a2.all with
  | true =>
   have hi1 := m2 ha2
   obtain ⟨_, v2, p2, q2⟩ := h2 _ _ s2 a2 e2
   obtain ⟨tm2, H2⟩ := s2
   simp only at p2; subst p2
   have hsp := @AgreeT.put l2 tm d1 v1 hs.a
   have hsp2 := @AgreeT.put l1 tm d2 v2 hs.b
   rw [t1.idle hi1] at e2 q2
   refine ⟨⟨putT tm d2 v2, H2⟩, q2 tm hsp.1, ?_⟩
   rw [r1 _ _ hsp2.2 (Agree.idle hi1 _ _), t1.idle hi1, putT_comm tm v1 v2 hs.c]
  | false =>
   obtain ⟨n1, n2, n3⟩ := m3 ha1 ha2
   obtain ⟨g2, _⟩ := h2 _ _ _ _ e2
   obtain ⟨v2, T2, t2, rfl, r2⟩ := g2 ha2
   have hsp := @AgreeT.put l2 tm d1 v1 hs.a
   have hsp2 := @AgreeT.put l1 tm d2 v2 hs.b
   have ag1 := t1.agree (a := a2) (fun x hx hw => n1 x hw hx) (fun x hx hw => n2 x hw hx) (fun x hx hr => n3 x hx hr) H
   have ag2 := t2.agree (a := a1) (fun x hx hw => n3 x hw hx) (fun x hx hw => n2 x hx hw) (fun x hx hr => n1 x hx hr) H
   refine ⟨⟨putT tm d2 v2, H.mapIdx T2⟩, r2 tm H hsp.1 ag1.1, ?_⟩
   rw [r1 _ _ hsp2.2 ag2.2, putT_comm tm v1 v2 hs.c, t1.comm t2 n1 n2 n3]
theorem quiet_all {a : Acc} (h : a.quiet = true) : a.all = false ∧ a.wr = [] ∧ a.rd.length ≤ 1 := by
 simp only [Acc.quiet, Bool.and_eq_true, Bool.not_eq_true', List.isEmpty_iff] at h
 exact ⟨h.1.1, h.1.2, Nat.le_of_ble_eq_true h.2⟩
theorem TrOk.quiet {a : Acc} {T : Nat → AO → AO} (hT : TrOk a T) (h : a.quiet = true) (H : Heap) : H.mapIdx T = H := by
 obtain ⟨_, h2, h3⟩ := quiet_all h
 refine mapIdx_id fun j x => ?_
 rcases hT j (by rw [h2]; simp) with k | ⟨⟨_, k⟩, _⟩
 ·exact k x
 ·omega
theorem Agree.quiet {a : Acc} (h : a.quiet = true) {H H1 : Heap} (hs : ∀ nm ∈ a.rd, ∃ x, H[nm]? = some x ∧ H1[nm]? = some x) : Agree a H H1 := by
 obtain ⟨_, h2, _⟩ := quiet_all h
 refine ⟨fun nm hn => ?_, fun nm hn => by rw [h2] at hn; cases hn⟩
 obtain ⟨x, h3, h4⟩ := hs nm hn
 exact .inl (by rw [h3, h4])
def RawS (f : St → Option (St × Acc)) : Prop := ∀ s s' acc, f s = some (s', acc) → acc.all = true → ∀ nm ∈ acc.rd, ∃ x, s.H[nm]? = some x ∧ s'.H[nm]? = some x
section
variable {d1 d2 : Option Nat} {l1 l2 : List Nat} {f1 f2 : St → Option (St × Acc)}
theorem Framed.commQ (h1 : Framed d1 l1 f1) (r1 : RawS f1) (h2 : Framed d2 l2 f2) (hs : Sep d1 l1 d2 l2) {s s1 s2 : St} {a1 a2 : Acc}
  (e1 : f1 s = some (s1, a1)) (e2 : f2 s1 = some (s2, a2)) (ha : a1.all = true) (hq : a2.quiet = true) (hr : ∀ x ∈ a2.rd, x ∈ a1.rd) : ∃ s1', f2 s = some (s1', a2) ∧ f1 s1' = some (s2, a1) := by
 obtain ⟨tm, H⟩ := s
 have hR := r1 _ _ _ e1 ha
 obtain ⟨_, v1, p1, q1⟩ := h1 tm H s1 a1 e1
 obtain ⟨tm1, H1⟩ := s1
 simp only at p1 hR; subst p1
 obtain ⟨g2, _⟩ := h2 _ _ _ _ e2
 obtain ⟨v2, T2, t2, rfl, k2⟩ := g2 (quiet_all hq).1
 have hsp := @AgreeT.put l2 tm d1 v1 hs.a
 have hsp2 := @AgreeT.put l1 tm d2 v2 hs.b
 refine ⟨⟨putT tm d2 v2, H⟩, ?_, ?_⟩
 ·rw [k2 tm H hsp.1 (Agree.quiet hq fun nm hn => let ⟨x, y1, y2⟩ := hR nm (hr nm hn); ⟨x, y2, y1⟩), t2.quiet hq]
 ·rw [q1 _ hsp2.2, t2.quiet hq, putT_comm tm v1 v2 hs.c]
theorem Framed.commQ' (h1 : Framed d1 l1 f1) (h2 : Framed d2 l2 f2) (r2 : RawS f2) (hs : Sep d1 l1 d2 l2) {s s1 s2 : St} {a1 a2 : Acc}
  (e1 : f1 s = some (s1, a1)) (e2 : f2 s1 = some (s2, a2)) (ha : a2.all = true) (hq : a1.quiet = true) (hr : ∀ x ∈ a1.rd, x ∈ a2.rd) : ∃ s1', f2 s = some (s1', a2) ∧ f1 s1' = some (s2, a1) := by
 obtain ⟨tm, H⟩ := s
 obtain ⟨g1, _⟩ := h1 tm H s1 a1 e1
 obtain ⟨v1, T1, t1, rfl, k1⟩ := g1 (quiet_all hq).1
 have hR := r2 _ _ _ e2 ha
 obtain ⟨_, v2, p2, q2⟩ := h2 _ _ s2 a2 e2
 obtain ⟨tm2, H2⟩ := s2
 simp only at p2 hR; subst p2
 rw [t1.quiet hq] at hR q2
 have hsp := @AgreeT.put l2 tm d1 v1 hs.a
 have hsp2 := @AgreeT.put l1 tm d2 v2 hs.b
 refine ⟨⟨putT tm d2 v2, H2⟩, q2 tm hsp.1, ?_⟩
 rw [k1 _ _ hsp2.2 (Agree.quiet hq fun nm hn => hR nm (hr nm hn)), t1.quiet hq, putT_comm tm v1 v2 hs.c]
def DeadS (sl : Nat) (f : St → Option (St × Acc)) : Prop := ∀ s s' acc o, s.H[sl]? = some .dead → sameO o o = true → f s = some (s', acc) → f ⟨s.tm, s.H.set sl o⟩ = some (⟨s'.tm, s'.H.set sl o⟩, acc) ∧ s'.H[sl]? = some .dead
def NewS (sl : Nat) (d : Option Nat) (lk : List Nat) (f : St → Option (St × Acc)) : Prop := ∀ tm H st' acc, f ⟨tm, H⟩ = some (st', acc) → acc.fresh = true →
 ∃ ob v, sameO ob ob = true ∧ st' = ⟨putT tm d v, H.set sl ob⟩ ∧ ∀ tm1 H1, AgreeT lk tm tm1 → f ⟨tm1, H1⟩ = some (⟨putT tm1 d v, H1.set sl ob⟩, acc)
theorem Framed.commN {sl : Nat} (h1 : Framed d1 l1 f1) (hd : DeadS sl f1) (h2 : NewS sl d2 l2 f2) (hs : Sep d1 l1 d2 l2) {s s1 s2 : St} {a1 a2 : Acc} (hsl : s.H[sl]? = some .dead)
  (e1 : f1 s = some (s1, a1)) (e2 : f2 s1 = some (s2, a2)) (hf : a2.fresh = true) : ∃ s1', f2 s = some (s1', a2) ∧ f1 s1' = some (s2, a1) := by
 obtain ⟨tm, H⟩ := s
 obtain ⟨_, v1, p1, q1⟩ := h1 tm H s1 a1 e1
 obtain ⟨tm1, H1⟩ := s1
 simp only at p1 hsl; subst p1
 obtain ⟨ob, v2, hob, rfl, k2⟩ := h2 _ _ _ _ e2 hf
 have hsp := @AgreeT.put l2 tm d1 v1 hs.a
 have hsp2 := @AgreeT.put l1 tm d2 v2 hs.b
 refine ⟨⟨putT tm d2 v2, H.set sl ob⟩, k2 tm H hsp.1, ?_⟩
 obtain ⟨c1, _⟩ := hd _ _ _ ob hsl hob e1
 simp only at c1
 obtain ⟨_, v3, p3, q3⟩ := h1 tm (H.set sl ob) _ a1 c1
 simp only at p3 q3
 rw [q3 _ hsp2.2]
 have : putT (putT tm d2 v2) d1 v3 = putT (putT tm d1 v1) d2 v2 := by
  rw [← putT_comm tm v3 v2 hs.c, ← p3]
 rw [this]
end
end Go.Px
set_option linter.unusedVariables false
set_option linter.unusedSimpArgs false
namespace Go.Px
open Go
section fr
variable {E : Env} {H H1 : Heap}
theorem Agree.none : Agree Acc.none H H1 := ⟨fun _ h => (by cases h), fun _ h => (by cases h)⟩
theorem loadA_fr {t : TypeId} {p x : AV} {acc : Acc} (h : loadA E H t p = some (x, acc)) (ha : Agree acc H H1) : loadA E H1 t p = some (x, acc) := by
 unfold loadA at h ⊢
 cases hi : E.ty t with
 | none => simp [hi] at h
 | some i =>
  simp only [hi, Option.bind_eq_bind, Option.bind_some] at h ⊢
  split at h
  ·exact h
  ·rename_i nm off
   split at h
   ·rename_i e cs f hr
    split at h
    ·rename_i hl
     cases hm : mkV i.desc.isAgg ((cs.drop off).take i.size) with
     | none => simp [hm] at h
     | some y =>
      simp [hm] at h; obtain ⟨rfl, rfl⟩ := h
      obtain ⟨g, hg⟩ := (ha.1 nm (by simp [Acc.read])).row hr
      simp [hg, hl, hm]
    ·cases h
   ·cases h
  ·cases h
theorem loadA_all {t : TypeId} {p x : AV} {acc : Acc} (h : loadA E H t p = some (x, acc)) : acc.all = false := by
 unfold loadA at h
 cases hi : E.ty t with
 | none => simp [hi] at h
 | some i =>
  simp only [hi, Option.bind_eq_bind, Option.bind_some] at h
  split at h
  ·split at h
   ·rename_i hl
    cases hm : mkV i.desc.isAgg (List.take i.size ‹List AV›) with
    | none => simp [hm] at h
    | some y => simp [hm] at h; obtain ⟨_, rfl⟩ := h; rfl
   ·cases h
  ·split at h
   ·rename_i e cs f hr
    split at h
    ·rename_i nm off _ hl
     cases hm : mkV i.desc.isAgg ((cs.drop off).take i.size) with
     | none => simp [hm] at h
     | some y => simp [hm] at h; obtain ⟨_, rfl⟩ := h; rfl
    ·cases h
   ·cases h
  ·cases h
theorem contentA_fr {sz n : Nat} {x : AV} {cs : List AV} {acc : Acc} (h : contentA H sz x = some (n, cs, acc)) (ha : Agree acc H H1 ∨ (∀ nm ∈ acc.rd, sameFr H[nm]? H1[nm]?)) : contentA H1 sz x = some (n, cs, acc) := by
 have ha' : ∀ nm ∈ acc.rd, sameFr H[nm]? H1[nm]? := by rcases ha with h | h; exact h.1; exact h
 unfold contentA at h ⊢
 split at h
 ·exact h
 ·rename_i nm off n0 sz'
  split at h
  ·rename_i e cells f hr
   split at h
   ·rename_i hc
    simp at h; obtain ⟨rfl, rfl, rfl⟩ := h
    obtain ⟨g, hg⟩ := (ha' nm (by simp [Acc.read])).row hr
    simp [hg, hc]
   ·cases h
  ·cases h
 ·exact h
 ·cases h
theorem contentA_all {sz n : Nat} {x : AV} {cs : List AV} {acc : Acc} (h : contentA H sz x = some (n, cs, acc)) : acc.all = false ∧ acc.wr = [] := by
 unfold contentA at h
 split at h
 ·split at h
  ·simp at h; obtain ⟨_, _, rfl⟩ := h; exact ⟨rfl, rfl⟩
  ·cases h
 ·split at h
  ·split at h
   ·simp at h; obtain ⟨_, _, rfl⟩ := h; exact ⟨rfl, rfl⟩
   ·cases h
  ·cases h
 ·split at h
  ·simp at h; obtain ⟨_, _, rfl⟩ := h; exact ⟨rfl, rfl⟩
  ·cases h
 ·cases h
theorem lookupA_fr {t : TypeId} {m k x : AV} {ok : Bool} {acc : Acc} (h : lookupA E H t m k ok = some (x, acc)) (ha : Agree acc H H1) : lookupA E H1 t m k ok = some (x, acc) ∧ acc.all = false := by
 unfold lookupA at h ⊢
 cases hi : E.ty t with
 | none => simp [hi] at h
 | some i =>
  simp only [hi, Option.bind_eq_bind, Option.bind_some] at h ⊢
  split at h
  ·rename_i kt vt hd
   cases h1 : E.ty kt with
   | none => simp [h1] at h
   | some ki =>
    cases h2 : E.ty vt with
    | none => simp [h1, h2] at h
    | some vi =>
     simp only [h1, h2, Option.bind_some] at h ⊢
     split at h
     ·cases h
     ·rename_i hs
      have key : ∀ (es : List (AV × AV)) (ac : Acc), ((findA ki.desc k es 0).bind fun q => match q with
         | some (_, v) => (pure (if ok then AV.tup [v, .bool true] else v, ac) : Option (AV × Acc))
         | none => (mkV vi.desc.isAgg vi.zero).bind fun z => pure (if ok then .tup [z, .bool false] else z, ac)) = some (x, acc) → acc = ac := by
       intro es ac hq
       cases hf : findA ki.desc k es 0 with
       | none => simp [hf] at hq
       | some q =>
        cases q with
        | none =>
         cases hm : mkV vi.desc.isAgg vi.zero with
         | none => simp [hf, hm] at hq
         | some z => simp [hf, hm] at hq; exact hq.2.symm
        | some p => simp [hf] at hq; exact hq.2.symm
      cases m with
      | nilmap =>
       refine ⟨by simpa [hs] using h, ?_⟩
       simp only [Option.bind_some] at h
       rw [key [] Acc.none h]; rfl
      | map nm =>
       simp only at h
       cases hr : H[nm]? with
       | none => simp [hr] at h
       | some ob =>
        cases ob with
        | map kt' vt' es bs ck =>
         simp only [hr] at h
         split at h
         ·rename_i hk
          have hac := key es (Acc.read nm) h
          have hg := (ha.1 nm (by rw [hac]; simp [Acc.read])).map hr
          refine ⟨?_, by rw [hac]; rfl⟩
          simp only [hg, hk, if_true, Option.bind_some, hs]
          exact h
         ·simp at h
        | _ => simp [hr] at h
      | _ => simp at h
  ·cases h
theorem lenA_fr {t : TypeId} {x r : AV} {acc : Acc} (h : lenA E H t x = some (r, acc)) (ha : Agree acc H H1) : lenA E H1 t x = some (r, acc) ∧ acc.all = false := by
 unfold lenA at h ⊢
 cases hi : E.ty t with
 | none => simp [hi] at h
 | some i =>
  simp only [hi, Option.bind_eq_bind, Option.bind_some] at h ⊢
  split at h <;> first
   | (simp at h; obtain ⟨rfl, rfl⟩ := h; rename_i h1; simp [h1, Acc.none]; done)
   | skip
  ·rename_i nm h1
   split at h
   ·rename_i kt vt es bs ck hr
    simp at h; obtain ⟨rfl, rfl⟩ := h
    have hg := (ha.1 nm (by simp [Acc.read])).map hr
    simp [h1, hg, Acc.read]
   ·cases h
  ·cases h
def EffWf (eff : Eff) (acc : Acc) : Prop := acc.all = false ∧ match eff with
 | .put nm _ _ => nm ∈ acc.wr
 | .app nm _ _ _ => nm ∈ acc.wr
 | .call _ _ => acc = Acc.none
 | _ => True
theorem storeA_fr {t : TypeId} {p v : AV} {eff : Eff} {acc : Acc} (h : storeA E H t p v = some (eff, acc)) : EffWf eff acc ∧ ∀ {H1 : Heap}, Agree acc H H1 → storeA E H1 t p v = some (eff, acc) := by
 unfold storeA at h ⊢
 cases hi : E.ty t with
 | none => simp [hi] at h
 | some i =>
  simp only [hi, Option.bind_eq_bind, Option.bind_some] at h ⊢
  split at h
  ·rename_i nm off
   split at h
   ·rename_i e cs hr
    split at h
    ·rename_i hc
     simp at h; obtain ⟨rfl, rfl⟩ := h
     refine ⟨⟨rfl, by simp⟩, fun {H1} ha => ?_⟩
     have hg : H1[nm]? = some (.row e cs false) := (ha.2 nm (by simp)).symm.trans hr
     simp [hg, hc]
    ·cases h
   ·cases h
  ·cases h
theorem appendA0_fr {t : TypeId} {s x : AV} {eff : Eff} {acc : Acc} (h : appendA0 E H t s x = some (eff, acc)) : EffWf eff acc ∧ ∀ {H1 : Heap}, Agree acc H H1 → appendA0 E H1 t s x = some (eff, acc) := by
 unfold appendA0 at h ⊢
 cases hi : E.ty t with
 | none => simp [hi] at h
 | some i =>
  simp only [hi, Option.bind_eq_bind, Option.bind_some] at h ⊢
  split at h
  ·rename_i e hd
   cases he : E.ty e with
   | none => simp [he] at h
   | some ei =>
    simp only [he, Option.bind_some] at h ⊢
    cases hc : contentA H ei.size x with
    | none => simp [hc] at h
    | some q =>
     obtain ⟨k, new, ac⟩ := q
     obtain ⟨c1, c2⟩ := contentA_all hc
     simp only [hc, Option.bind_some] at h
     have hcf : ∀ {H1 : Heap}, (∀ nm ∈ ac.rd, sameFr H[nm]? H1[nm]?) → contentA H1 ei.size x = some (k, new, ac) := fun ha => contentA_fr hc (.inr ha)
     split at h
     ·cases h
     rename_i hz
     split at h
     ·rename_i hk
      split at h
      ·simp at h; obtain ⟨rfl, rfl⟩ := h
       exact ⟨⟨c1, trivial⟩, fun {H1} ha => by simp [hcf ha.1, hz, hk]⟩
      ·simp at h; obtain ⟨rfl, rfl⟩ := h
       exact ⟨⟨c1, trivial⟩, fun {H1} ha => by simp [hcf ha.1, hz, hk]⟩
      ·cases h
     ·rename_i hk
      split at h
      ·split at h
       ·rename_i hcc
        simp at h; obtain ⟨rfl, rfl⟩ := h
        exact ⟨⟨c1, trivial⟩, fun {H1} ha => by simp [hcf ha.1, hz, hk, hcc]⟩
       ·cases h
      ·rename_i nm off n sz
       split at h
       ·cases h
       rename_i hsz
       split at h
       ·rename_i e' cs fr hr
        split at h
        ·rename_i hcc
         simp at h; obtain ⟨rfl, rfl⟩ := h
         refine ⟨⟨rfl, by simp⟩, fun {H1} ha => ?_⟩
         have hg : H1[nm]? = some (.row e' cs fr) := (ha.2 nm (by simp)).symm.trans hr
         have := hcf ha.1
         simp [this, hz, hk, hsz, hg, hcc]
        ·cases h
       ·cases h
      ·cases h
  ·cases h
theorem contentA_count {sz n : Nat} {x : AV} {cs : List AV} {acc : Acc} (h : contentA H sz x = some (n, cs, acc)) : n = countA x := by
 unfold contentA at h
 split at h
 ·split at h
  ·cases h; rfl
  ·cases h
 ·split at h
  ·split at h
   ·cases h; rfl
   ·cases h
  ·cases h
 ·split at h
  ·cases h; rfl
  ·cases h
 ·cases h
theorem appendA0_app {t : TypeId} {nm off n sz : Nat} {x : AV} {eff : Eff} {acc : Acc} (hx : countA x ≠ 0) (h : appendA0 E H t (.own nm off n sz) x = some (eff, acc)) : nm ∈ acc.wr := by
 unfold appendA0 at h
 simp only [Option.bind_eq_bind, Option.bind_eq_some_iff] at h
 obtain ⟨i, _, h⟩ := h
 split at h
 ·simp only [Option.bind_eq_some_iff] at h
  obtain ⟨ei, _, q, hq, h⟩ := h
  obtain ⟨k, new, ac⟩ := q
  have hk := contentA_count hq
  split at h
  ·cases h
  split at h
  ·rename_i hk0
   exact absurd (hk.symm.trans hk0) hx
  ·split at h
   ·cases h
   ·split at h
    ·split at h
     ·simp at h; rw [← h.2]; simp
     ·cases h
    ·cases h
 ·cases h
theorem appendA_some {t : TypeId} {s x : AV} {r : Eff × Acc} (h : appendA E H t s x = some r) : ∃ H', appendA0 E H' t s x = some r := by
 unfold appendA at h
 split at h
 ·exact ⟨_, h⟩
 ·split at h
  ·split at h
   ·split at h
    ·exact ⟨_, h⟩
    ·exact ⟨_, h⟩
   ·exact ⟨_, h⟩
  ·exact ⟨_, h⟩
theorem appendA_fr {t : TypeId} {s x : AV} {eff : Eff} {acc : Acc} (h : appendA E H t s x = some (eff, acc)) : EffWf eff acc ∧ ∀ {H1 : Heap}, Agree acc H H1 → appendA E H1 t s x = some (eff, acc) := by
 unfold appendA at h ⊢
 by_cases h0 : countA x = 0
 ·rw [if_pos h0] at h
  obtain ⟨g1, g2⟩ := appendA0_fr h
  exact ⟨g1, fun ha => by rw [if_pos h0]; exact g2 ha⟩
 ·simp only [if_neg h0] at h ⊢
  split at h
  ·rename_i nm off n sz
   have key : nm ∈ acc.wr → ∀ {H1 : Heap}, Agree acc H H1 → H1[nm]? = H[nm]? := fun hm H1 ha => (ha.2 nm hm).symm
   split at h
   ·rename_i e cs hr
    split at h
    ·rename_i hlt
     obtain ⟨g1, g2⟩ := appendA0_fr h
     refine ⟨g1, fun {H1} ha => ?_⟩
     have he := key (appendA0_app h0 h) ha
     simp only [he, hr, if_pos hlt]
     refine g2 ⟨fun j hj => ?_, fun j hj => ?_⟩
     ·by_cases hjn : j = nm
      ·subst hjn
       have hl1 : j < H.length := (List.getElem?_eq_some_iff.1 hr).1
       have hl2 : j < H1.length := (List.getElem?_eq_some_iff.1 (he.trans hr)).1
       rw [List.getElem?_set_self hl1, List.getElem?_set_self hl2]
       exact sameFr.refl _
      ·rw [List.getElem?_set_ne (Ne.symm hjn), List.getElem?_set_ne (Ne.symm hjn)]
       exact ha.1 j hj
     ·by_cases hjn : j = nm
      ·subst hjn
       have hl1 : j < H.length := (List.getElem?_eq_some_iff.1 hr).1
       have hl2 : j < H1.length := (List.getElem?_eq_some_iff.1 (he.trans hr)).1
       rw [List.getElem?_set_self hl1, List.getElem?_set_self hl2]
      ·rw [List.getElem?_set_ne (Ne.symm hjn), List.getElem?_set_ne (Ne.symm hjn)]
       exact ha.2 j hj
    ·rename_i hlt
     obtain ⟨g1, g2⟩ := appendA0_fr h
     refine ⟨g1, fun {H1} ha => ?_⟩
     have he := key (appendA0_app h0 h) ha
     simp only [he, hr, if_neg hlt]
     exact g2 ha
   ·rename_i hr
    obtain ⟨g1, g2⟩ := appendA0_fr h
    refine ⟨g1, fun {H1} ha => ?_⟩
    have he := key (appendA0_app h0 h) ha
    rw [he]
    split
    ·rename_i e cs hr2
     exact absurd hr2 (hr e cs)
    ·exact g2 ha
  ·rename_i hs
   exact appendA0_fr h
theorem bstrA_fr {e : TypeId} {x : AV} {eff : Eff} {acc : Acc} (h : bstrA E H e x = some (eff, acc)) : (EffWf eff acc ∧ ∃ l, eff = .val (.str l)) ∧ ∀ {H1 : Heap}, Agree acc H H1 → bstrA E H1 e x = some (eff, acc) := by
 unfold bstrA at h
 split at h
 ·rename_i n cs ac he hc
  simp only [Option.map_eq_some_iff] at h
  obtain ⟨l, hl, he2⟩ := h
  cases he2
  obtain ⟨g1, g2⟩ := contentA_all hc
  refine ⟨⟨⟨g1, by simp⟩, l, rfl⟩, fun {H1} hA => ?_⟩
  unfold bstrA
  rw [he, contentA_fr hc (.inl hA)]
  simp [hl]
 ·cases h
theorem convA_fr {src dst : TypeId} {x : AV} {eff : Eff} {acc : Acc} (h : convA E H src dst x = some (eff, acc)) : EffWf eff acc ∧ ∀ {H1 : Heap}, Agree acc H H1 → convA E H1 src dst x = some (eff, acc) := by
 unfold convA at h ⊢
 cases hi : E.ty src with
 | none => simp [hi] at h
 | some i =>
  cases hj : E.ty dst with
  | none => simp [hi, hj] at h
  | some j =>
   simp only [hi, hj, Option.bind_eq_bind, Option.bind_some] at h ⊢
   split at h
   ·simp at h; obtain ⟨rfl, rfl⟩ := h; exact ⟨⟨rfl, trivial⟩, fun _ => rfl⟩
   ·simp at h; obtain ⟨rfl, rfl⟩ := h; exact ⟨⟨rfl, trivial⟩, fun _ => rfl⟩
   ·obtain ⟨⟨h1, _⟩, h2⟩ := bstrA_fr h; exact ⟨h1, fun hA => h2 hA⟩
   ·obtain ⟨⟨h1, _⟩, h2⟩ := bstrA_fr h; exact ⟨h1, fun hA => h2 hA⟩
   ·cases h
theorem buildSliceA_new {t : TypeId} {len : Nat} {ps : List (Nat × AV)} {eff : Eff} (h : buildSliceA E t len ps = some eff) : ∃ o f, eff = .new o f := by
 unfold buildSliceA at h
 simp only [Option.bind_eq_bind] at h
 cases h1 : E.ty t with
 | none => simp [h1] at h
 | some i =>
  simp only [h1, Option.bind_some] at h
  split at h
  ·rename_i e _
   cases h2 : E.ty e with
   | none => simp [h2] at h
   | some ei =>
    simp only [h2, Option.bind_some] at h
    split at h
    ·cases h
    ·cases h3 : fillA (fun k => some (k * ei.size, ei.size)) (zerosA ei.zero len) ps with
     | none => simp [h3] at h
     | some cs => simp [h3] at h; exact ⟨_, _, h.symm⟩
  ·cases h
theorem updateA_fr {t : TypeId} {x k y : AV} {eff : Eff} {acc : Acc} (h : updateA E H t x k y = some (eff, acc)) : EffWf eff acc ∧ ∀ {H1 : Heap}, Agree acc H H1 → updateA E H1 t x k y = some (eff, acc) := by
 unfold updateA at h ⊢
 cases hi : E.ty t with
 | none => simp [hi] at h
 | some i =>
  simp only [hi, Option.bind_some] at h ⊢
  split at h
  ·rename_i kt vt hd
   try simp only [hd]
   cases hk : E.ty kt with
   | none => simp [hk] at h
   | some ki =>
    simp only [hk, Option.bind_some] at h ⊢
    by_cases hs : simpleKey ki.desc = true
    ·simp only [hs, if_true] at h ⊢
     cases x with
     | map nm =>
      cases hH : H[nm]? with
      | none => simp [hH] at h
      | some ob =>
       cases ob with
       | map kt' vt' es bs ck =>
        simp only [hH] at h
        by_cases hkk : kt' = kt
        ·simp only [hkk, if_true] at h
         have fin : ∀ {e : AO}, eff = .put nm e (.tup []) → acc = ⟨[], [nm], false⟩ → EffWf eff acc ∧ ∀ {H1 : Heap}, Agree acc H H1 → H1[nm]? = some (.map kt' vt' es bs ck) := fun he ha => by
          subst he ha
          exact ⟨⟨rfl, by simp⟩, fun {H1} hA => by rw [← hH]; exact (hA.2 nm (by simp)).symm⟩
         cases hf : findA ki.desc k es 0 with
         | none => simp [hf] at h
         | some q =>
          cases q with
          | none =>
           simp only [hf, Option.some.injEq, Prod.mk.injEq] at h
           obtain ⟨g1, g2⟩ := fin h.1.symm h.2.symm
           refine ⟨g1, fun {H1} hA => ?_⟩
           simp only [g2 hA, hkk, if_true, hf, Option.some.injEq, Prod.mk.injEq]
           exact h
          | some p =>
           obtain ⟨jj, v⟩ := p
           simp only [hf, Option.some.injEq, Prod.mk.injEq] at h
           obtain ⟨g1, g2⟩ := fin h.1.symm h.2.symm
           refine ⟨g1, fun {H1} hA => ?_⟩
           simp only [g2 hA, hkk, if_true, hf, Option.some.injEq, Prod.mk.injEq]
           exact h
        ·simp [hkk] at h
       | _ => simp [hH] at h
     | _ => simp at h
    ·simp [hs] at h
  ·cases h
theorem Agree.wr {acc : Acc} {H H1 : Heap} {nm : Nat} {o : Option AO} (ha : Agree acc H H1) (hn : nm ∈ acc.wr) (h : H[nm]? = o) : H1[nm]? = o := (ha.2 nm hn).symm.trans h
theorem xRange_fr {t : TypeId} {xs : List AV} {eff : Eff} {acc : Acc} (h : xRange E H t xs = some (eff, acc)) : EffWf eff acc ∧ ∀ {H1 : Heap}, Agree acc H H1 → xRange E H1 t xs = some (eff, acc) := by
 unfold xRange at h ⊢
 split at h
 ·refine ⟨?_, fun _ => h⟩
  simp only [Option.bind_eq_some_iff] at h
  obtain ⟨i, hi, h⟩ := h
  split at h
  ·cases h; exact ⟨rfl, trivial⟩
  ·cases h
 ·rename_i m
  simp only [Option.bind_eq_some_iff] at h
  obtain ⟨i, hi, h⟩ := h
  split at h
  ·rename_i k v kt vt es bs ck hds hH
   cases h
   exact ⟨⟨rfl, trivial⟩, fun {H1} ha => by simp only [hi, Option.bind_some, hds, ha.wr (by simp) hH]⟩
  ·cases h
 ·cases h
theorem xNext_fr {xs : List AV} {eff : Eff} {acc : Acc} (h : xNext H xs = some (eff, acc)) : EffWf eff acc ∧ ∀ {H1 : Heap}, Agree acc H H1 → xNext H1 xs = some (eff, acc) := by
 unfold xNext at h ⊢
 split at h
 ·rename_i nm
  split at h
  ·rename_i since seen last hH
   cases h
   exact ⟨⟨rfl, trivial⟩, fun {H1} ha => by simp only [ha.wr (by simp) hH]⟩
  ·rename_i mn since seen last hH
   split at h
   ·rename_i kt vt es bs ck hM
    split at h
    ·cases h
    ·rename_i hg
     split at h
     ·rename_i hL
      cases h
      exact ⟨⟨rfl, trivial⟩, fun {H1} ha => by simp only [ha.wr (nm := nm) (by simp) hH, ha.wr (nm := mn) (by simp) hM, if_neg hg, hL]⟩
     ·rename_i k v b hL
      split at h
      ·rename_i hb
       cases h
       exact ⟨⟨rfl, by simp⟩, fun {H1} ha => by simp only [ha.wr (nm := nm) (by simp) hH, ha.wr (nm := mn) (by simp) hM, if_neg hg, hL, if_pos hb]⟩
      ·cases h
     ·cases h
   ·cases h
  ·cases h
 ·cases h
theorem xEntry_fr {xs : List AV} {eff : Eff} {acc : Acc} (h : xEntry H xs = some (eff, acc)) : EffWf eff acc ∧ ∀ {H1 : Heap}, Agree acc H H1 → xEntry H1 xs = some (eff, acc) := by
 unfold xEntry at h ⊢
 split at h
 ·rename_i nm
  split at h
  ·rename_i mn since seen last hH
   split at h
   ·rename_i kt vt es bs ck stamp hM hs
    split at h
    ·rename_i hc
     simp only [Option.map_eq_some_iff] at h
     obtain ⟨⟨j, k, v⟩, hbo, h⟩ := h
     cases h
     exact ⟨⟨rfl, trivial⟩, fun {H1} ha => by simp only [ha.wr (nm := nm) (by simp) hH, ha.wr (nm := mn) (by simp) hM, hs, if_pos hc, hbo, Option.map_some]⟩
    ·cases h
   ·cases h
  ·cases h
 ·cases h
theorem xMapEntry_fr {t : TypeId} {xs : List AV} {eff : Eff} {acc : Acc} (h : xMapEntry E H t xs = some (eff, acc)) : EffWf eff acc ∧ ∀ {H1 : Heap}, Agree acc H H1 → xMapEntry E H1 t xs = some (eff, acc) := by
 unfold xMapEntry at h ⊢
 split at h
 ·rename_i nm k
  simp only [Option.bind_eq_some_iff] at h
  obtain ⟨i, hi, h⟩ := h
  split at h
  ·rename_i kt vt hds
   simp only [Option.bind_eq_some_iff] at h
   obtain ⟨ki, hki, vi, hvi, h⟩ := h
   split at h
   ·rename_i hsk
    split at h
    ·rename_i kt' vt' es bs ck hH
     split at h
     ·rename_i hkk
      split at h
      ·rename_i j v hf
       cases h
       exact ⟨⟨rfl, by simp⟩, fun {H1} ha => by simp only [hi, hds, hki, hvi, Option.bind_some, if_pos hsk, ha.wr (nm := nm) (by simp) hH, if_pos hkk, hf]⟩
      ·rename_i hf
       simp only [Option.bind_eq_some_iff] at h
       obtain ⟨z, hz, h⟩ := h
       cases h
       exact ⟨⟨rfl, by simp⟩, fun {H1} ha => by simp only [hi, hds, hki, hvi, Option.bind_some, if_pos hsk, ha.wr (nm := nm) (by simp) hH, if_pos hkk, hf, hz]⟩
      ·cases h
     ·cases h
    ·cases h
   ·cases h
  ·cases h
 ·cases h
theorem xEntryStore_fr {xs : List AV} {eff : Eff} {acc : Acc} (h : xEntryStore H xs = some (eff, acc)) : EffWf eff acc ∧ ∀ {H1 : Heap}, Agree acc H H1 → xEntryStore H1 xs = some (eff, acc) := by
 unfold xEntryStore at h ⊢
 split at h
 ·rename_i nm kk n v
  split at h
  ·rename_i kt vt es bs ck hH
   split at h
   ·rename_i hn
    simp only [Option.map_eq_some_iff] at h
    obtain ⟨⟨j, k, v0⟩, hbo, h⟩ := h
    cases h
    exact ⟨⟨rfl, by simp⟩, fun {H1} ha => by simp only [ha.wr (nm := nm) (by simp) hH, if_pos hn, hbo, Option.map_some]⟩
   ·cases h
  ·cases h
 ·cases h
theorem xDelete_fr {t : TypeId} {xs : List AV} {eff : Eff} {acc : Acc} (h : xDelete E H t xs = some (eff, acc)) : EffWf eff acc ∧ ∀ {H1 : Heap}, Agree acc H H1 → xDelete E H1 t xs = some (eff, acc) := by
 unfold xDelete at h ⊢
 split at h
 ·rename_i nm k
  simp only [Option.bind_eq_some_iff] at h
  obtain ⟨i, hi, h⟩ := h
  split at h
  ·rename_i kt vt hds
   simp only [Option.bind_eq_some_iff] at h
   obtain ⟨ki, hki, h⟩ := h
   split at h
   ·rename_i hsk
    split at h
    ·rename_i kt' vt' es bs ck hH
     split at h
     ·rename_i hkk
      split at h
      ·rename_i j v hf
       cases h
       exact ⟨⟨rfl, by simp⟩, fun {H1} ha => by simp only [hi, hds, hki, Option.bind_some, if_pos hsk, ha.wr (nm := nm) (by simp) hH, if_pos hkk, hf]⟩
      ·rename_i hf
       cases h
       exact ⟨⟨rfl, by simp⟩, fun {H1} ha => by simp only [hi, hds, hki, Option.bind_some, if_pos hsk, ha.wr (nm := nm) (by simp) hH, if_pos hkk, hf]⟩
      ·cases h
     ·cases h
    ·cases h
   ·cases h
  ·cases h
 ·cases h
theorem xMakeSlice_wf {t : TypeId} {xs : List AV} {eff : Eff} {acc : Acc} (h : xMakeSlice E t xs = some (eff, acc)) : EffWf eff acc := by
 unfold xMakeSlice at h
 split at h
 ·simp only [Option.bind_eq_some_iff] at h
  obtain ⟨i, hi, h⟩ := h
  split at h
  ·simp only [Option.bind_eq_some_iff] at h
   obtain ⟨ei, hei, h⟩ := h
   split at h
   ·cases h; exact ⟨rfl, trivial⟩
   ·cases h
  ·cases h
 ·cases h
theorem xAppendZ_wf {t : TypeId} {xs : List AV} {eff : Eff} {acc : Acc} (h : xAppendZ E t xs = some (eff, acc)) : EffWf eff acc := by
 unfold xAppendZ at h
 split at h
 ·simp only [Option.bind_eq_some_iff] at h
  obtain ⟨i, hi, h⟩ := h
  split at h
  ·simp only [Option.bind_eq_some_iff] at h
   obtain ⟨ei, hei, h⟩ := h
   split at h
   ·cases h; exact ⟨rfl, trivial⟩
   ·cases h
  ·cases h
 ·cases h
theorem xCap_wf {t : TypeId} {xs : List AV} {eff : Eff} {acc : Acc} (h : xCap E t xs = some (eff, acc)) : EffWf eff acc := by
 unfold xCap at h
 split at h
 ·simp only [Option.bind_eq_some_iff] at h
  obtain ⟨i, hi, h⟩ := h
  split at h
  ·cases h; exact ⟨rfl, trivial⟩
  ·cases h
 ·cases h
theorem xClear_fr {t : TypeId} {xs : List AV} {eff : Eff} {acc : Acc} (h : xClear E H t xs = some (eff, acc)) : EffWf eff acc ∧ ∀ {H1 : Heap}, Agree acc H H1 → xClear E H1 t xs = some (eff, acc) := by
 unfold xClear at h ⊢
 split at h
 ·refine ⟨?_, fun _ => h⟩
  simp only [Option.bind_eq_some_iff] at h
  obtain ⟨i, hi, h⟩ := h
  split at h
  ·cases h; exact ⟨rfl, trivial⟩
  ·cases h
 ·rename_i nm off n sz
  simp only [Option.bind_eq_some_iff] at h
  obtain ⟨i, hi, h⟩ := h
  split at h
  ·rename_i e hds
   simp only [Option.bind_eq_some_iff] at h
   obtain ⟨ei, hei, h⟩ := h
   split at h
   ·rename_i hn
    cases h
    exact ⟨⟨rfl, trivial⟩, fun {H1} ha => by simp only [hi, hds, hei, Option.bind_some, if_pos hn]⟩
   ·rename_i hn
    split at h
    ·rename_i e' cs hH
     split at h
     ·rename_i hc
      cases h
      exact ⟨⟨rfl, by simp⟩, fun {H1} ha => by simp only [hi, hds, hei, Option.bind_some, if_neg hn, ha.wr (nm := nm) (by simp) hH, if_pos hc]⟩
     ·cases h
    ·cases h
  ·cases h
 ·cases h
theorem extA_fr {k : XK} {xs : List AV} {eff : Eff} {acc : Acc} (h : extA E H k xs = some (eff, acc)) : EffWf eff acc ∧ ∀ {H1 : Heap}, Agree acc H H1 → extA E H1 k xs = some (eff, acc) := by
 cases k <;> simp only [extA] at h ⊢
 case range t => exact xRange_fr h
 case next s =>
  cases s with
  | true => cases h
  | false => exact xNext_fr h
 case entry => exact xEntry_fr h
 case mapEntry t => exact xMapEntry_fr h
 case entryStore => exact xEntryStore_fr h
 case delete t => exact xDelete_fr h
 case makeSlice t => exact ⟨xMakeSlice_wf h, fun _ => h⟩
 case cap t => exact ⟨xCap_wf h, fun _ => h⟩
 case clear t => exact xClear_fr h
 case appendZ t => exact ⟨xAppendZ_wf h, fun _ => h⟩
def laysX : XK → Bool
 | .range _ | .makeSlice _ | .appendZ _ => true
 | _ => false
def notLoop (ob : AO) : Prop := ∀ s p tm ps a b, ob ≠ .loop s p tm ps a b
theorem extA_shape {k : XK} {xs : List AV} {eff : Eff} {acc : Acc} (h : extA E H k xs = some (eff, acc)) :
  (∃ v, eff = .val v) ∨ (∃ nm ob v, eff = .put nm ob v ∧ notLoop ob) ∨ (laysX k = true ∧ ∃ ob f, eff = .new ob f ∧ notLoop ob) := by
 have nl : ∀ {nm ob v}, notLoop ob → (∃ v', Eff.put nm ob v = .val v') ∨ (∃ nm' ob' v', Eff.put nm ob v = .put nm' ob' v' ∧ notLoop ob') ∨ (laysX k = true ∧ ∃ ob' f, Eff.put nm ob v = .new ob' f ∧ notLoop ob') := fun h => .inr (.inl ⟨_, _, _, rfl, h⟩)
 cases k <;> simp only [extA] at h
 case range t =>
  unfold xRange at h
  split at h
  ·simp only [Option.bind_eq_some_iff] at h
   obtain ⟨i, hi, h⟩ := h
   split at h
   ·cases h; exact .inr (.inr ⟨rfl, _, _, rfl, fun _ _ _ _ _ _ q => by cases q⟩)
   ·cases h
  ·simp only [Option.bind_eq_some_iff] at h
   obtain ⟨i, hi, h⟩ := h
   split at h
   ·cases h; exact .inr (.inr ⟨rfl, _, _, rfl, fun _ _ _ _ _ _ q => by cases q⟩)
   ·cases h
  ·cases h
 case next s =>
  cases s with
  | true => cases h
  | false =>
   simp only [Bool.false_eq_true, if_false] at h
   unfold xNext at h
   split at h
   ·split at h
    ·cases h; exact .inl ⟨_, rfl⟩
    ·split at h
     ·split at h
      ·cases h
      ·split at h
       ·cases h; exact .inl ⟨_, rfl⟩
       ·split at h
        ·cases h; exact nl fun _ _ _ _ _ _ q => by cases q
        ·cases h
       ·cases h
     ·cases h
    ·cases h
   ·cases h
 case entry =>
  unfold xEntry at h
  split at h
  ·split at h
   ·split at h
    ·split at h
     ·simp only [Option.map_eq_some_iff] at h
      obtain ⟨_, _, h⟩ := h
      cases h; exact .inl ⟨_, rfl⟩
     ·cases h
    ·cases h
   ·cases h
  ·cases h
 case mapEntry t =>
  unfold xMapEntry at h
  split at h
  ·simp only [Option.bind_eq_some_iff] at h
   obtain ⟨i, hi, h⟩ := h
   split at h
   ·simp only [Option.bind_eq_some_iff] at h
    obtain ⟨ki, hki, vi, hvi, h⟩ := h
    split at h
    ·split at h
     ·split at h
      ·split at h
       ·cases h; exact nl fun _ _ _ _ _ _ q => by cases q
       ·simp only [Option.bind_eq_some_iff] at h
        obtain ⟨z, hz, h⟩ := h
        cases h; exact nl fun _ _ _ _ _ _ q => by cases q
       ·cases h
      ·cases h
     ·cases h
    ·cases h
   ·cases h
  ·cases h
 case entryStore =>
  unfold xEntryStore at h
  split at h
  ·split at h
   ·split at h
    ·simp only [Option.map_eq_some_iff] at h
     obtain ⟨_, _, h⟩ := h
     cases h; exact nl fun _ _ _ _ _ _ q => by cases q
    ·cases h
   ·cases h
  ·cases h
 case delete t =>
  unfold xDelete at h
  split at h
  ·simp only [Option.bind_eq_some_iff] at h
   obtain ⟨i, hi, h⟩ := h
   split at h
   ·simp only [Option.bind_eq_some_iff] at h
    obtain ⟨ki, hki, h⟩ := h
    split at h
    ·split at h
     ·split at h
      ·split at h
       ·cases h; exact nl fun _ _ _ _ _ _ q => by cases q
       ·cases h; exact nl fun _ _ _ _ _ _ q => by cases q
       ·cases h
      ·cases h
     ·cases h
    ·cases h
   ·cases h
  ·cases h
 case makeSlice t =>
  unfold xMakeSlice at h
  split at h
  ·simp only [Option.bind_eq_some_iff] at h
   obtain ⟨i, hi, h⟩ := h
   split at h
   ·simp only [Option.bind_eq_some_iff] at h
    obtain ⟨ei, hei, h⟩ := h
    split at h
    ·cases h; exact .inr (.inr ⟨rfl, _, _, rfl, fun _ _ _ _ _ _ q => by cases q⟩)
    ·cases h
   ·cases h
  ·cases h
 case appendZ t =>
  unfold xAppendZ at h
  split at h
  ·simp only [Option.bind_eq_some_iff] at h
   obtain ⟨i, hi, h⟩ := h
   split at h
   ·simp only [Option.bind_eq_some_iff] at h
    obtain ⟨ei, hei, h⟩ := h
    split at h
    ·cases h; exact .inr (.inr ⟨rfl, _, _, rfl, fun _ _ _ _ _ _ q => by cases q⟩)
    ·cases h
   ·cases h
  ·cases h
 case cap t =>
  unfold xCap at h
  split at h
  ·simp only [Option.bind_eq_some_iff] at h
   obtain ⟨i, hi, h⟩ := h
   split at h
   ·cases h; exact .inl ⟨_, rfl⟩
   ·cases h
  ·cases h
 case clear t =>
  unfold xClear at h
  split at h
  ·simp only [Option.bind_eq_some_iff] at h
   obtain ⟨i, hi, h⟩ := h
   split at h
   ·cases h; exact .inl ⟨_, rfl⟩
   ·cases h
  ·simp only [Option.bind_eq_some_iff] at h
   obtain ⟨i, hi, h⟩ := h
   split at h
   ·simp only [Option.bind_eq_some_iff] at h
    obtain ⟨ei, hei, h⟩ := h
    split at h
    ·cases h; exact .inl ⟨_, rfl⟩
    ·split at h
     ·split at h
      ·cases h; exact nl fun _ _ _ _ _ _ q => by cases q
      ·cases h
     ·cases h
   ·cases h
  ·cases h
theorem evalOp_fr {tm : List AV} {o : Oper} {eff : Eff} {acc : Acc} (h : evalOp E tm H o = some (eff, acc)) : EffWf eff acc ∧ ∀ {H1 : Heap}, Agree acc H H1 → evalOp E tm H1 o = some (eff, acc) := by
 have hv : ∀ {x : Option AV}, (x.map fun x => (Eff.val x, Acc.none)) = some (eff, acc) → EffWf eff acc := by
  intro x hx
  cases x with
  | none => simp at hx
  | some x => simp at hx; obtain ⟨rfl, rfl⟩ := hx; exact ⟨rfl, trivial⟩
 unfold evalOp at h ⊢
 cases hop : o.op <;> simp only [hop] at h ⊢ <;> first
  | exact ⟨hv h, fun _ => h⟩
  | (cases h; done)
  | skip
 case pick c a b =>
  split at h
  ·rename_i hb; exact ⟨hv h, fun _ => h⟩
  ·cases h
 case alloc t =>
  cases hi : E.ty t with
  | none => simp [hi] at h
  | some i => simp [hi] at h ⊢; obtain ⟨rfl, rfl⟩ := h; exact ⟨⟨rfl, trivial⟩, fun _ => ⟨rfl, rfl⟩⟩
 case box t x =>
  cases hi : E.ty t with
  | none => simp [hi] at h
  | some i => simp [hi] at h ⊢; obtain ⟨rfl, rfl⟩ := h; exact ⟨⟨rfl, trivial⟩, fun _ => ⟨rfl, rfl⟩⟩
 case buildSlice t n ps =>
  refine ⟨?_, fun _ => h⟩
  cases hb : buildSliceA E t n (ps.toList.map fun (i, x) => (i, opA tm x)) with
  | none => simp [hb] at h
  | some ef =>
   simp [hb] at h; obtain ⟨rfl, rfl⟩ := h
   obtain ⟨o1, f1, rfl⟩ := buildSliceA_new hb
   exact ⟨rfl, trivial⟩
 case load t a =>
  cases hl : loadA E H t (opA tm a) with
  | none => simp [hl] at h
  | some q =>
   obtain ⟨x, ac⟩ := q
   simp [hl] at h; obtain ⟨rfl, rfl⟩ := h
   exact ⟨⟨loadA_all hl, trivial⟩, fun ha => by simp [loadA_fr hl ha]⟩
 case store t a x =>
  obtain ⟨h1, h2⟩ := storeA_fr h
  exact ⟨h1, fun ha => h2 ha⟩
 case mapUpdate t a x y =>
  obtain ⟨h1, h2⟩ := updateA_fr h
  exact ⟨h1, fun ha => h2 ha⟩
 case range | next | entry | mapEntry | entryStore | makeSlice => exact extA_fr h
 case nilCheck x =>
  split at h
  ·rename_i hb; exact ⟨hv (x := some _) h, fun _ => h⟩
  ·rename_i hb; exact ⟨hv (x := some _) h, fun _ => h⟩
  ·rename_i hb; exact ⟨hv (x := some _) h, fun _ => h⟩
  ·cases h
 case convert s d x =>
  obtain ⟨h1, h2⟩ := convA_fr h
  exact ⟨h1, fun ha => h2 ha⟩
 case makeInterface t x =>
  refine ⟨?_, fun _ => h⟩
  cases hi : E.ty t with
  | none => simp [hi] at h
  | some i =>
   simp only [hi, Option.bind_some] at h
   split at h
   ·cases h
   ·exact hv (x := some _) h
 case makeFunc f fs cs =>
  cases f <;> simp only at h ⊢ <;> first
   | (cases h; done)
   | skip
  refine ⟨?_, fun _ => h⟩
  split at h
  ·exact hv (x := some _) h
  ·cases h
 case makeMap t r =>
  cases r with
  | some r => simp at h
  | none =>
   simp only at h ⊢
   refine ⟨?_, fun _ => h⟩
   cases hi : E.ty t with
   | none => simp [hi] at h
   | some i =>
    simp only [hi, Option.bind_some] at h
    split at h
    ·simp at h; obtain ⟨rfl, rfl⟩ := h; exact ⟨rfl, trivial⟩
    ·cases h
 case lookup t x k ok =>
  cases hl : lookupA E H t (opA tm x) (opA tm k) ok with
  | none => simp [hl] at h
  | some q =>
   obtain ⟨y, ac⟩ := q
   simp [hl] at h; obtain ⟨rfl, rfl⟩ := h
   exact ⟨⟨(lookupA_fr hl ⟨fun nm _ => sameFr.refl H[nm]?, fun _ _ => rfl⟩).2, trivial⟩, fun ha => by simp [(lookupA_fr hl ha).1]⟩
 case extract t i =>
  split at h
  ·rename_i hb; exact ⟨hv h, fun _ => h⟩
  ·cases h
 case call c =>
  cases hc : c.callee with
  | value f =>
   simp only [hc] at h ⊢
   refine ⟨?_, fun _ => h⟩
   cases hca : calleeA tm f with
   | none => simp [hca] at h
   | some q => obtain ⟨t, caps⟩ := q; simp [hca] at h; obtain ⟨rfl, rfl⟩ := h; exact ⟨rfl, rfl⟩
  | invoke r n => simp [hc] at h
  | builtin b =>
   have hx : ∀ {b : Builtin}, (match c.argTypes.toList with
     | t :: _ => (builtinX b t).bind fun k => extA E H k (c.args.toList.map (opA tm))
     | [] => Option.none) = some (eff, acc) → EffWf eff acc ∧ ∀ {H1 : Heap}, Agree acc H H1 → (match c.argTypes.toList with
     | t :: _ => (builtinX b t).bind fun k => extA E H1 k (c.args.toList.map (opA tm))
     | [] => Option.none) = some (eff, acc) := fun {b} h => by
    split at h
    ·simp only [Option.bind_eq_some_iff] at h
     obtain ⟨k, hk, h⟩ := h
     obtain ⟨g1, g2⟩ := extA_fr h
     exact ⟨g1, fun ha => by simp only [hk, Option.bind_some]; exact g2 ha⟩
    ·cases h
   cases b <;> simp only [hc] at h ⊢ <;> first
    | exact ⟨hv h, fun _ => h⟩
    | (cases h; done)
    | exact hx h
    | skip
   ·split at h
    ·rename_i t t2 s x h1 h2
     cases hi : E.ty t2 with
     | none => simp [hi] at h
     | some i =>
      simp only [hi, Option.bind_some] at h
      split at h
      ·rename_i hd
       obtain ⟨g1, g2⟩ := appendA_fr h
       exact ⟨g1, fun ha => by simp [h1, h2, hi, hd, g2 ha]⟩
      ·rename_i hd
       obtain ⟨g1, g2⟩ := appendA_fr h
       exact ⟨g1, fun ha => by simp [h1, h2, hi, hd, g2 ha]⟩
      ·rename_i kn hd
       obtain ⟨g1, g2⟩ := extA_fr h
       exact ⟨g1, fun ha => by simp [h1, h2, hi, hd, g2 ha]⟩
      ·cases h
    ·cases h
   ·split at h
    ·rename_i t x h1 h2
     cases hl : lenA E H t (opA tm x) with
     | none => simp [hl] at h
     | some q =>
      obtain ⟨y, ac⟩ := q
      simp [hl] at h; obtain ⟨rfl, rfl⟩ := h
      exact ⟨⟨(lenA_fr hl ⟨fun nm _ => sameFr.refl H[nm]?, fun _ _ => rfl⟩).2, trivial⟩, fun ha => by simp [h1, h2, (lenA_fr hl ha).1]⟩
    ·cases h
end fr
end Go.Px
set_option linter.unusedVariables false
set_option linter.unusedSimpArgs false
namespace Go.Px
open Go
def Live (H : Heap) (nm : Nat) : Prop := ∃ o, H[nm]? = some o ∧ o ≠ .dead
def LiveAcc (H : Heap) (acc : Acc) : Prop := (∀ nm ∈ acc.rd, Live H nm) ∧ (∀ nm ∈ acc.wr, Live H nm) ∧ acc.wr.length ≤ 2
section
variable {E : Env} {H : Heap}
theorem LiveAcc.none : LiveAcc H Acc.none := ⟨fun _ h => (by cases h), fun _ h => (by cases h), by simp [Acc.none]⟩
theorem LiveAcc.read {nm : Nat} (h : Live H nm) : LiveAcc H (Acc.read nm) := ⟨fun n hn => by simp [Acc.read] at hn; subst hn; exact h, fun _ h => (by cases h), by simp [Acc.read]⟩
theorem LiveAcc.wr1 {nm : Nat} (h : Live H nm) : LiveAcc H ⟨[], [nm], false⟩ := ⟨fun _ h => (by cases h), fun n hn => (by simp at hn; subst hn; exact h), by simp⟩
theorem LiveAcc.wr2 {nm mn : Nat} (h : Live H nm) (h2 : Live H mn) : LiveAcc H ⟨[], [nm, mn], false⟩ := ⟨fun _ h => (by cases h), fun n hn => (by simp at hn; rcases hn with rfl | rfl; exact h; exact h2), by simp⟩
theorem Live.row {nm : Nat} {e : TypeId} {cs : List AV} {f : Bool} (h : H[nm]? = some (.row e cs f)) : Live H nm := ⟨_, h, by simp⟩
theorem Live.map {nm : Nat} {k v : TypeId} {es : List (AV × AV)} {bs : List Nat} {ck : Nat} (h : H[nm]? = some (.map k v es bs ck)) : Live H nm := ⟨_, h, by simp⟩
theorem Live.iter {nm : Nat} {m : Option Nat} {s : Nat} {l : List Nat} {k : Nat} (h : H[nm]? = some (.iter m s l k)) : Live H nm := ⟨_, h, by simp⟩
theorem loadA_lv {t : TypeId} {p x : AV} {acc : Acc} (h : loadA E H t p = some (x, acc)) : LiveAcc H acc := by
 unfold loadA at h
 cases hi : E.ty t with
 | none => simp [hi] at h
 | some i =>
  simp only [hi, Option.bind_eq_bind, Option.bind_some] at h
  split at h
  ·split at h
   ·rename_i hl
    cases hm : mkV i.desc.isAgg (List.take i.size ‹List AV›) with
    | none => simp [hm] at h
    | some y => simp [hm] at h; obtain ⟨_, rfl⟩ := h; exact LiveAcc.none
   ·cases h
  ·split at h
   ·rename_i e cs f hr
    split at h
    ·rename_i nm off _ hl
     cases hm : mkV i.desc.isAgg ((cs.drop off).take i.size) with
     | none => simp [hm] at h
     | some y => simp [hm] at h; obtain ⟨_, rfl⟩ := h; exact LiveAcc.read (Live.row hr)
    ·cases h
   ·cases h
  ·cases h
theorem contentA_lv {sz n : Nat} {x : AV} {cs : List AV} {acc : Acc} (h : contentA H sz x = some (n, cs, acc)) : LiveAcc H acc := by
 unfold contentA at h
 split at h
 ·split at h
  ·simp at h; obtain ⟨_, _, rfl⟩ := h; exact LiveAcc.none
  ·cases h
 ·split at h
  ·rename_i hr
   split at h
   ·simp at h; obtain ⟨_, _, rfl⟩ := h; exact LiveAcc.read (Live.row hr)
   ·cases h
  ·cases h
 ·split at h
  ·simp at h; obtain ⟨_, _, rfl⟩ := h; exact LiveAcc.none
  ·cases h
 ·cases h
theorem storeA_lv {t : TypeId} {p v : AV} {eff : Eff} {acc : Acc} (h : storeA E H t p v = some (eff, acc)) : LiveAcc H acc := by
 unfold storeA at h
 cases hi : E.ty t with
 | none => simp [hi] at h
 | some i =>
  simp only [hi, Option.bind_eq_bind, Option.bind_some] at h
  split at h
  ·split at h
   ·rename_i hr
    split at h
    ·simp at h; obtain ⟨_, rfl⟩ := h; exact LiveAcc.wr1 (Live.row hr)
    ·cases h
   ·cases h
  ·cases h
theorem appendA0_lv {t : TypeId} {s x : AV} {eff : Eff} {acc : Acc} (h : appendA0 E H t s x = some (eff, acc)) : LiveAcc H acc := by
 unfold appendA0 at h
 simp only [Option.bind_eq_bind, Option.bind_eq_some_iff] at h
 obtain ⟨i, _, h⟩ := h
 split at h
 ·simp only [Option.bind_eq_some_iff] at h
  obtain ⟨ei, _, q, hq, h⟩ := h
  obtain ⟨k, new, ac⟩ := q
  have hl := contentA_lv hq
  simp only at h
  split at h
  ·cases h
  ·split at h
   ·split at h
    ·simp at h; obtain ⟨_, rfl⟩ := h; exact hl
    ·simp at h; obtain ⟨_, rfl⟩ := h; exact hl
    ·cases h
   ·split at h
    ·split at h
     ·simp at h; obtain ⟨_, rfl⟩ := h; exact hl
     ·cases h
    ·split at h
     ·cases h
     ·split at h
      ·rename_i hr
       split at h
       ·simp at h; obtain ⟨_, rfl⟩ := h
        exact ⟨hl.1, fun n hn => (by simp at hn; subst hn; exact Live.row hr), by simp⟩
       ·cases h
      ·cases h
    ·cases h
 ·cases h
theorem LiveAcc.set {nm : Nat} {e : TypeId} {cs : List AV} {f : Bool} {o : AO} {acc : Acc} (hr : H[nm]? = some (.row e cs f)) (h : LiveAcc (H.set nm o) acc) : LiveAcc H acc := by
 have key : ∀ n, Live (H.set nm o) n → Live H n := fun n hn => by
  by_cases h2 : n = nm
  ·subst h2; exact Live.row hr
  ·obtain ⟨p, hp, hd⟩ := hn
   rw [List.getElem?_set_ne (fun e => h2 e.symm)] at hp
   exact ⟨p, hp, hd⟩
 exact ⟨fun n hn => key n (h.1 n hn), fun n hn => key n (h.2.1 n hn), h.2.2⟩
theorem appendA_lv {t : TypeId} {s x : AV} {eff : Eff} {acc : Acc} (h : appendA E H t s x = some (eff, acc)) : LiveAcc H acc := by
 unfold appendA at h
 split at h
 ·exact appendA0_lv h
 ·split at h
  ·split at h
   ·rename_i hr
    split at h
    ·exact LiveAcc.set hr (appendA0_lv h)
    ·exact appendA0_lv h
   ·exact appendA0_lv h
  ·exact appendA0_lv h
theorem lookupA_lv {t : TypeId} {m k x : AV} {ok : Bool} {acc : Acc} (h : lookupA E H t m k ok = some (x, acc)) : LiveAcc H acc := by
 unfold lookupA at h
 cases hi : E.ty t with
 | none => simp [hi] at h
 | some i =>
  simp only [hi, Option.bind_eq_bind, Option.bind_some] at h
  split at h
  ·rename_i kt vt hd
   cases h1 : E.ty kt with
   | none => simp [h1] at h
   | some ki =>
    cases h2 : E.ty vt with
    | none => simp [h1, h2] at h
    | some vi =>
     simp only [h1, h2, Option.bind_some] at h
     split at h
     ·cases h
     ·have key : ∀ (es : List (AV × AV)) (ac : Acc), ((findA ki.desc k es 0).bind fun q => match q with
         | some (_, v) => (pure (if ok then AV.tup [v, .bool true] else v, ac) : Option (AV × Acc))
         | none => (mkV vi.desc.isAgg vi.zero).bind fun z => pure (if ok then .tup [z, .bool false] else z, ac)) = some (x, acc) → acc = ac := by
       intro es ac hq
       cases hf : findA ki.desc k es 0 with
       | none => simp [hf] at hq
       | some q =>
        cases q with
        | none =>
         cases hm : mkV vi.desc.isAgg vi.zero with
         | none => simp [hf, hm] at hq
         | some z => simp [hf, hm] at hq; exact hq.2.symm
        | some p => simp [hf] at hq; exact hq.2.symm
      cases m with
      | nilmap =>
       simp only [Option.bind_some] at h
       rw [key [] Acc.none h]; exact LiveAcc.none
      | map nm =>
       simp only at h
       cases hr : H[nm]? with
       | none => simp [hr] at h
       | some ob =>
        cases ob with
        | map kt' vt' es bs ck =>
         simp only [hr] at h
         split at h
         ·rw [key es (Acc.read nm) h]; exact LiveAcc.read (Live.map hr)
         ·simp at h
        | _ => simp [hr] at h
      | _ => simp at h
  ·cases h
theorem lenA_lv {t : TypeId} {x r : AV} {acc : Acc} (h : lenA E H t x = some (r, acc)) : LiveAcc H acc := by
 unfold lenA at h
 cases hi : E.ty t with
 | none => simp [hi] at h
 | some i =>
  simp only [hi, Option.bind_eq_bind, Option.bind_some] at h
  split at h <;> first
   | (simp at h; obtain ⟨rfl, rfl⟩ := h; exact LiveAcc.none)
   | skip
  ·split at h
   ·rename_i hr
    simp at h; obtain ⟨rfl, rfl⟩ := h; exact LiveAcc.read (Live.map hr)
   ·cases h
  ·cases h
theorem convA_lv {src dst : TypeId} {x : AV} {eff : Eff} {acc : Acc} (h : convA E H src dst x = some (eff, acc)) : LiveAcc H acc := by
 unfold convA at h
 simp only [Option.bind_eq_bind, Option.bind_eq_some_iff] at h
 obtain ⟨i, _, j, _, h⟩ := h
 have hb : ∀ {e : TypeId} {x : AV}, bstrA E H e x = some (eff, acc) → LiveAcc H acc := fun {e x} h => by
  unfold bstrA at h
  split at h
  ·rename_i hq
   simp only [Option.map_eq_some_iff] at h
   obtain ⟨l, _, h⟩ := h
   cases h
   exact contentA_lv hq
  ·cases h
 split at h
 ·simp at h; obtain ⟨_, rfl⟩ := h; exact LiveAcc.none
 ·simp at h; obtain ⟨_, rfl⟩ := h; exact LiveAcc.none
 ·exact hb h
 ·exact hb h
 ·cases h
theorem updateA_lv {t : TypeId} {m k v : AV} {eff : Eff} {acc : Acc} (h : updateA E H t m k v = some (eff, acc)) : LiveAcc H acc := by
 unfold updateA at h
 simp only [Option.bind_eq_some_iff] at h
 obtain ⟨ti, _, h⟩ := h
 split at h
 ·simp only [Option.bind_eq_some_iff] at h
  obtain ⟨ki, _, h⟩ := h
  split at h
  ·split at h
   ·split at h
    ·rename_i hr
     split at h
     ·split at h
      ·cases h; exact LiveAcc.wr1 (Live.map hr)
      ·cases h; exact LiveAcc.wr1 (Live.map hr)
      ·cases h
     ·cases h
    ·cases h
   ·cases h
  ·cases h
 ·cases h
theorem xRange_lv {t : TypeId} {xs : List AV} {eff : Eff} {acc : Acc} (h : xRange E H t xs = some (eff, acc)) : LiveAcc H acc := by
 unfold xRange at h
 split at h
 ·simp only [Option.bind_eq_some_iff] at h
  obtain ⟨i, _, h⟩ := h
  split at h
  ·cases h; exact LiveAcc.none
  ·cases h
 ·simp only [Option.bind_eq_some_iff] at h
  obtain ⟨i, _, h⟩ := h
  split at h
  ·rename_i hr; cases h; exact LiveAcc.wr1 (Live.map hr)
  ·cases h
 ·cases h
theorem xNext_lv {xs : List AV} {eff : Eff} {acc : Acc} (h : xNext H xs = some (eff, acc)) : LiveAcc H acc := by
 unfold xNext at h
 split at h
 ·split at h
  ·rename_i hr; cases h; exact LiveAcc.wr1 (Live.iter hr)
  ·rename_i hr
   split at h
   ·rename_i hm
    split at h
    ·cases h
    ·split at h
     ·cases h; exact LiveAcc.wr2 (Live.iter hr) (Live.map hm)
     ·split at h
      ·cases h; exact LiveAcc.wr2 (Live.iter hr) (Live.map hm)
      ·cases h
     ·cases h
   ·cases h
  ·cases h
 ·cases h
theorem xEntry_lv {xs : List AV} {eff : Eff} {acc : Acc} (h : xEntry H xs = some (eff, acc)) : LiveAcc H acc := by
 unfold xEntry at h
 split at h
 ·split at h
  ·rename_i hr
   split at h
   ·rename_i hm hs
    split at h
    ·simp only [Option.map_eq_some_iff] at h
     obtain ⟨q, _, h⟩ := h
     cases h; exact LiveAcc.wr2 (Live.iter hr) (Live.map hm)
    ·cases h
   ·cases h
  ·cases h
 ·cases h
theorem xMapEntry_lv {t : TypeId} {xs : List AV} {eff : Eff} {acc : Acc} (h : xMapEntry E H t xs = some (eff, acc)) : LiveAcc H acc := by
 unfold xMapEntry at h
 split at h
 ·simp only [Option.bind_eq_some_iff] at h
  obtain ⟨i, _, h⟩ := h
  split at h
  ·simp only [Option.bind_eq_some_iff] at h
   obtain ⟨ki, _, vi, _, h⟩ := h
   split at h
   ·split at h
    ·rename_i hr
     split at h
     ·split at h
      ·cases h; exact LiveAcc.wr1 (Live.map hr)
      ·simp only [Option.bind_eq_some_iff] at h
       obtain ⟨z, _, h⟩ := h
       cases h; exact LiveAcc.wr1 (Live.map hr)
      ·cases h
     ·cases h
    ·cases h
   ·cases h
  ·cases h
 ·cases h
theorem xEntryStore_lv {xs : List AV} {eff : Eff} {acc : Acc} (h : xEntryStore H xs = some (eff, acc)) : LiveAcc H acc := by
 unfold xEntryStore at h
 split at h
 ·split at h
  ·rename_i hr
   split at h
   ·simp only [Option.map_eq_some_iff] at h
    obtain ⟨q, _, h⟩ := h
    cases h; exact LiveAcc.wr1 (Live.map hr)
   ·cases h
  ·cases h
 ·cases h
theorem xDelete_lv {t : TypeId} {xs : List AV} {eff : Eff} {acc : Acc} (h : xDelete E H t xs = some (eff, acc)) : LiveAcc H acc := by
 unfold xDelete at h
 split at h
 ·simp only [Option.bind_eq_some_iff] at h
  obtain ⟨i, _, h⟩ := h
  split at h
  ·simp only [Option.bind_eq_some_iff] at h
   obtain ⟨ki, _, h⟩ := h
   split at h
   ·split at h
    ·rename_i hr
     split at h
     ·split at h
      ·cases h; exact LiveAcc.wr1 (Live.map hr)
      ·cases h; exact LiveAcc.wr1 (Live.map hr)
      ·cases h
     ·cases h
    ·cases h
   ·cases h
  ·cases h
 ·cases h
theorem xClear_lv {t : TypeId} {xs : List AV} {eff : Eff} {acc : Acc} (h : xClear E H t xs = some (eff, acc)) : LiveAcc H acc := by
 unfold xClear at h
 split at h
 ·simp only [Option.bind_eq_some_iff] at h
  obtain ⟨i, _, h⟩ := h
  split at h
  ·cases h; exact LiveAcc.none
  ·cases h
 ·simp only [Option.bind_eq_some_iff] at h
  obtain ⟨i, _, h⟩ := h
  split at h
  ·simp only [Option.bind_eq_some_iff] at h
   obtain ⟨ei, _, h⟩ := h
   split at h
   ·cases h; exact LiveAcc.none
   ·split at h
    ·rename_i hr
     split at h
     ·cases h; exact LiveAcc.wr1 (Live.row hr)
     ·cases h
    ·cases h
  ·cases h
 ·cases h
theorem extA_lv {k : XK} {xs : List AV} {eff : Eff} {acc : Acc} (h : extA E H k xs = some (eff, acc)) : LiveAcc H acc := by
 unfold extA at h
 split at h
 ·exact xRange_lv h
 ·split at h
  ·cases h
  ·exact xNext_lv h
 ·exact xEntry_lv h
 ·exact xMapEntry_lv h
 ·exact xEntryStore_lv h
 ·exact xDelete_lv h
 ·unfold xMakeSlice at h
  split at h
  ·simp only [Option.bind_eq_some_iff] at h
   obtain ⟨i, _, h⟩ := h
   split at h
   ·simp only [Option.bind_eq_some_iff] at h
    obtain ⟨ei, _, h⟩ := h
    split at h
    ·cases h; exact LiveAcc.none
    ·cases h
   ·cases h
  ·cases h
 ·unfold xCap at h
  split at h
  ·simp only [Option.bind_eq_some_iff] at h
   obtain ⟨i, _, h⟩ := h
   split at h
   ·cases h; exact LiveAcc.none
   ·cases h
  ·cases h
 ·exact xClear_lv h
 ·unfold xAppendZ at h
  split at h
  ·simp only [Option.bind_eq_some_iff] at h
   obtain ⟨i, _, h⟩ := h
   split at h
   ·simp only [Option.bind_eq_some_iff] at h
    obtain ⟨ei, _, h⟩ := h
    split at h
    ·cases h; exact LiveAcc.none
    ·cases h
   ·cases h
  ·cases h
theorem evalOp_lv {tm : List AV} {o : Oper} {eff : Eff} {acc : Acc} (h : evalOp E tm H o = some (eff, acc)) : LiveAcc H acc := by
 have hv : ∀ {x : Option AV}, (x.map fun x => (Eff.val x, Acc.none)) = some (eff, acc) → LiveAcc H acc := by
  intro x hx
  cases x with
  | none => simp at hx
  | some x => simp at hx; obtain ⟨rfl, rfl⟩ := hx; exact LiveAcc.none
 unfold evalOp at h
 cases hop : o.op <;> simp only [hop] at h <;> first
  | exact hv h
  | (cases h; done)
  | skip
 case pick c a b =>
  split at h
  ·exact hv h
  ·cases h
 case alloc t =>
  cases hi : E.ty t with
  | none => simp [hi] at h
  | some i => simp [hi] at h; obtain ⟨rfl, rfl⟩ := h; exact LiveAcc.none
 case box t x =>
  cases hi : E.ty t with
  | none => simp [hi] at h
  | some i => simp [hi] at h; obtain ⟨rfl, rfl⟩ := h; exact LiveAcc.none
 case buildSlice t n ps =>
  cases hb : buildSliceA E t n (ps.toList.map fun (i, x) => (i, opA tm x)) with
  | none => simp [hb] at h
  | some ef => simp [hb] at h; obtain ⟨rfl, rfl⟩ := h; exact LiveAcc.none
 case load t a =>
  cases hl : loadA E H t (opA tm a) with
  | none => simp [hl] at h
  | some q =>
   obtain ⟨x, ac⟩ := q
   simp [hl] at h; obtain ⟨rfl, rfl⟩ := h
   exact loadA_lv hl
 case store t a x => exact storeA_lv h
 case mapUpdate t a x y => exact updateA_lv h
 case range | next | entry | mapEntry | entryStore | makeSlice => exact extA_lv h
 case nilCheck x =>
  split at h
  ·exact hv (x := some _) h
  ·exact hv (x := some _) h
  ·exact hv (x := some _) h
  ·cases h
 case convert s d x => exact convA_lv h
 case makeInterface t x =>
  cases hi : E.ty t with
  | none => simp [hi] at h
  | some i =>
   simp only [hi, Option.bind_some] at h
   split at h
   ·cases h
   ·exact hv (x := some _) h
 case makeFunc f fs cs =>
  cases f <;> simp only at h <;> first
   | (cases h; done)
   | skip
  split at h
  ·exact hv (x := some _) h
  ·cases h
 case makeMap t r =>
  cases r with
  | some r => simp at h
  | none =>
   simp only at h
   cases hi : E.ty t with
   | none => simp [hi] at h
   | some i =>
    simp only [hi, Option.bind_some] at h
    split at h
    ·simp at h; obtain ⟨rfl, rfl⟩ := h; exact LiveAcc.none
    ·cases h
 case lookup t x k ok =>
  cases hl : lookupA E H t (opA tm x) (opA tm k) ok with
  | none => simp [hl] at h
  | some q =>
   obtain ⟨y, ac⟩ := q
   simp [hl] at h; obtain ⟨rfl, rfl⟩ := h
   exact lookupA_lv hl
 case extract t i =>
  split at h
  ·exact hv h
  ·cases h
 case call c =>
  cases hc : c.callee with
  | value f =>
   simp only [hc] at h
   cases hca : calleeA tm f with
   | none => simp [hca] at h
   | some q => obtain ⟨t, caps⟩ := q; simp [hca] at h; obtain ⟨rfl, rfl⟩ := h; exact LiveAcc.none
  | invoke r n => simp [hc] at h
  | builtin b =>
   have hx : ∀ {b : Builtin}, (match c.argTypes.toList with
     | t :: _ => (builtinX b t).bind fun k => extA E H k (c.args.toList.map (opA tm))
     | [] => Option.none) = some (eff, acc) → LiveAcc H acc := fun {b} h => by
    split at h
    ·simp only [Option.bind_eq_some_iff] at h
     obtain ⟨k, hk, h⟩ := h
     exact extA_lv h
    ·cases h
   cases b <;> simp only [hc] at h <;> first
    | exact hv h
    | (cases h; done)
    | exact hx h
    | skip
   ·split at h
    ·rename_i t t2 s x h1 h2
     cases hi : E.ty t2 with
     | none => simp [hi] at h
     | some i =>
      simp only [hi, Option.bind_some] at h
      split at h
      ·exact appendA_lv h
      ·exact appendA_lv h
      ·exact extA_lv h
      ·cases h
    ·cases h
   ·split at h
    ·rename_i t x h1 h2
     cases hl : lenA E H t (opA tm x) with
     | none => simp [hl] at h
     | some q =>
      obtain ⟨y, ac⟩ := q
      simp [hl] at h; obtain ⟨rfl, rfl⟩ := h
      exact lenA_lv hl
    ·cases h
mutual
theorem eqW_refl : ∀ a : AV, eqW a a = true
 | .undef => by simp [eqW]
 | .bool a => by simp [eqW]
 | .int j a => by simp [eqW]
 | .str a => by simp [eqW]
 | .sl n a f => by simp [eqW, eqWL_refl a]
 | .own a b c d => by simp [eqW]
 | .agg a => by simp [eqW, eqWL_refl a]
 | .tup a => by simp [eqW, eqWL_refl a]
 | .clo f a => by simp [eqW, eqWL_refl a]
 | .yield a => by simp [eqW]
 | .nilFunc => by simp [eqW]
 | .nilIface => by simp [eqW]
 | .iface t a => by simp [eqW, eqW_refl a]
 | .ref a => by simp [eqW, eqWL_refl a]
 | .loc a b => by simp [eqW]
 | .nilptr => by simp [eqW]
 | .map a => by simp [eqW]
 | .nilmap => by simp [eqW]
 | .res j a b => by simp [eqW]
theorem eqWL_refl : ∀ a : List AV, eqWL a a = true
 | [] => by simp [eqWL]
 | a :: l => by simp [eqWL, eqW_refl a, eqWL_refl l]
end
theorem sameO_refl {o : AO} (h : notLoop o) : sameO o o = true := by
 cases o with
 | loop s p tm ps a b => exact absurd rfl (h s p tm ps a b)
 | dead => rfl
 | row e cs f => simp [sameO, eqWL_refl]
 | map k v es bs ck => simp [sameO, eqWL_refl]
 | iter m s l k => simp [sameO]
mutual
theorem eqW_ok : ∀ {a b : AV}, eqW a b = true → a = b
 | .undef, b, h => by cases b <;> simp [eqW] at h ⊢
 | .bool a, b, h => by cases b <;> simp [eqW] at h ⊢; exact h
 | .int j a, b, h => by cases b <;> simp [eqW] at h ⊢; exact h
 | .str a, b, h => by cases b <;> simp [eqW] at h ⊢; exact h
 | .sl n a f, b, h => by cases b <;> simp [eqW] at h ⊢; exact ⟨h.1.1, eqWL_ok h.2, h.1.2⟩
 | .own a1 a2 a3 a4, b, h => by cases b <;> simp [eqW] at h ⊢; exact ⟨h.1.1.1, h.1.1.2, h.1.2, h.2⟩
 | .agg a, b, h => by cases b <;> simp [eqW] at h ⊢; exact eqWL_ok h
 | .tup a, b, h => by cases b <;> simp [eqW] at h ⊢; exact eqWL_ok h
 | .clo f a, b, h => by cases b <;> simp [eqW] at h ⊢; exact ⟨h.1, eqWL_ok h.2⟩
 | .yield a, b, h => by cases b <;> simp [eqW] at h ⊢; exact h
 | .nilFunc, b, h => by cases b <;> simp [eqW] at h ⊢
 | .nilIface, b, h => by cases b <;> simp [eqW] at h ⊢
 | .iface t a, b, h => by cases b <;> simp [eqW] at h ⊢; exact ⟨h.1, eqW_ok h.2⟩
 | .ref a, b, h => by cases b <;> simp [eqW] at h ⊢; exact eqWL_ok h
 | .loc a1 a2, b, h => by cases b <;> simp [eqW] at h ⊢; exact h
 | .nilptr, b, h => by cases b <;> simp [eqW] at h ⊢
 | .map a, b, h => by cases b <;> simp [eqW] at h ⊢; exact h
 | .nilmap, b, h => by cases b <;> simp [eqW] at h ⊢
 | .res j a1 a2, b, h => by cases b <;> simp [eqW] at h ⊢; exact ⟨h.1.1, h.1.2, h.2⟩
theorem eqWL_ok : ∀ {a b : List AV}, eqWL a b = true → a = b
 | [], [], _ => rfl
 | [], _ :: _, h => by simp [eqWL] at h
 | _ :: _, [], h => by simp [eqWL] at h
 | a :: l, b :: m, h => by
  simp only [eqWL, Bool.and_eq_true] at h
  rw [eqW_ok h.1, eqWL_ok h.2]
end
theorem pairs_eq : ∀ {a b : List (AV × AV)}, a.map (·.1) = b.map (·.1) → a.map (·.2) = b.map (·.2) → a = b
 | [], [], _, _ => rfl
 | [], _ :: _, h, _ => by simp at h
 | _ :: _, [], h, _ => by simp at h
 | (x, y) :: a, (u, v) :: b, h1, h2 => by
  simp only [List.map_cons, List.cons.injEq] at h1 h2
  rw [h1.1, h2.1, pairs_eq h1.2 h2.2]
theorem sameO_ok {a b : AO} (h : sameO a b = true) : a = b := by
 cases a with
 | dead => cases b <;> simp [sameO] at h ⊢
 | row e cs f => cases b <;> simp [sameO] at h ⊢; exact ⟨h.1.1, eqWL_ok h.2, h.1.2⟩
 | map k v es bs ck => cases b <;> simp [sameO] at h ⊢; exact ⟨h.1.1.1.1.1, h.1.1.1.1.2, pairs_eq (eqWL_ok h.1.1.1.2) (eqWL_ok h.1.1.2), h.1.2, h.2⟩
 | iter m s l k => cases b <;> simp [sameO] at h ⊢; exact ⟨h.1.1.1, h.1.1.2, h.1.2, h.2⟩
 | loop s p tm ps a b' => cases b <;> simp [sameO] at h
theorem unch_mem : ∀ {H H2 : Heap} {i nm : Nat}, nm ∈ unchG H H2 i → ∃ j x, nm = i + j ∧ H[j]? = some x ∧ H2[j]? = some x
 | [], H2, i, nm, h => by simp [unchG] at h
 | _ :: _, [], i, nm, h => by simp [unchG] at h
 | a :: H, b :: H2, i, nm, h => by
  have rest : nm ∈ unchG H H2 (i + 1) → ∃ j x, nm = i + j ∧ (a :: H)[j]? = some x ∧ (b :: H2)[j]? = some x := fun h => by
   obtain ⟨j, x, e, h1, h2⟩ := unch_mem h
   exact ⟨j + 1, x, by omega, by simpa using h1, by simpa using h2⟩
  simp only [unchG] at h
  split at h
  ·rename_i hs
   rcases List.mem_cons.1 h with h | h
   ·exact ⟨0, a, by omega, rfl, by simp [sameO_ok hs]⟩
   ·exact rest h
  ·exact rest h
theorem unch_set {o : AO} (ho : sameO o o = true) : ∀ {H H2 : Heap} {i s : Nat}, H[s]? = some .dead → H2[s]? = some .dead → unchG (H.set s o) (H2.set s o) i = unchG H H2 i
 | [], H2, i, s, h, _ => by simp at h
 | _ :: _, [], i, s, _, h => by simp at h
 | a :: H, b :: H2, i, 0, h1, h2 => by
  simp at h1 h2; subst h1 h2
  simp only [List.set_cons_zero, unchG, ho]
  rfl
 | a :: H, b :: H2, i, s + 1, h1, h2 => by
  simp at h1 h2
  simp only [List.set_cons_succ, unchG, unch_set ho h1 h2]
theorem rawAcc_mem {H H2 : Heap} : ∀ nm ∈ (rawAcc H H2).rd, ∃ x, H[nm]? = some x ∧ H2[nm]? = some x := fun nm hn => by
 obtain ⟨j, x, e, h1, h2⟩ := unch_mem hn
 rw [Nat.zero_add] at e; subst e
 exact ⟨x, h1, h2⟩
theorem rawAcc_set {o : AO} (ho : sameO o o = true) {H H2 : Heap} {s : Nat} (h1 : H[s]? = some .dead) (h2 : H2[s]? = some .dead) : rawAcc (H.set s o) (H2.set s o) = rawAcc H H2 := by
 unfold rawAcc; rw [unch_set ho h1 h2]
def EffNew : Eff → Prop
 | .new ob _ => sameO ob ob = true
 | _ => True
theorem EffNew.row {e : TypeId} {cs : List AV} {f : Bool} {g : Nat → AV} : EffNew (.new (.row e cs f) g) := sameO_refl fun _ _ _ _ _ _ h => by cases h
theorem appendA0_new {t : TypeId} {s x : AV} {eff : Eff} {acc : Acc} (h : appendA0 E H t s x = some (eff, acc)) : EffNew eff := by
 unfold appendA0 at h
 simp only [Option.bind_eq_bind, Option.bind_eq_some_iff] at h
 obtain ⟨i, _, h⟩ := h
 split at h
 ·simp only [Option.bind_eq_some_iff] at h
  obtain ⟨ei, _, q, hq, h⟩ := h
  obtain ⟨k, new, ac⟩ := q
  simp only at h
  split at h
  ·cases h
  ·split at h
   ·split at h
    ·simp at h; obtain ⟨rfl, _⟩ := h; trivial
    ·simp at h; obtain ⟨rfl, _⟩ := h; trivial
    ·cases h
   ·split at h
    ·split at h
     ·simp at h; obtain ⟨rfl, _⟩ := h; exact EffNew.row
     ·cases h
    ·split at h
     ·cases h
     ·split at h
      ·split at h
       ·simp at h; obtain ⟨rfl, _⟩ := h; trivial
       ·cases h
      ·cases h
    ·cases h
 ·cases h
theorem appendA_new {t : TypeId} {s x : AV} {eff : Eff} {acc : Acc} (h : appendA E H t s x = some (eff, acc)) : EffNew eff := by
 obtain ⟨H', h'⟩ := appendA_some h
 exact appendA0_new h'
theorem extA_new {k : XK} {xs : List AV} {eff : Eff} {acc : Acc} (h : extA E H k xs = some (eff, acc)) : EffNew eff := by
 rcases extA_shape h with ⟨v, rfl⟩ | ⟨nm, ob, v, rfl, _⟩ | ⟨_, ob, f, rfl, hn⟩
 ·trivial
 ·trivial
 ·exact sameO_refl hn
theorem evalOp_new {tm : List AV} {o : Oper} {ob : AO} {f : Nat → AV} {acc : Acc} (h : evalOp E tm H o = some (.new ob f, acc)) : sameO ob ob = true := by
 have hv : ∀ {x : Option AV}, (x.map fun x => (Eff.val x, Acc.none)) = some (.new ob f, acc) → False := by
  intro x hx
  cases x <;> simp at hx
 have hva : ∀ {x : Option (AV × Acc)}, (x.map fun (x, a) => (Eff.val x, a)) = some (.new ob f, acc) → False := by
  intro x hx
  cases x <;> simp at hx
 unfold evalOp at h
 cases hop : o.op <;> simp only [hop] at h <;> first
  | exact (hv h).elim
  | exact (hva h).elim
  | (cases h; done)
  | skip
 case pick c a b =>
  split at h
  ·exact (hv h).elim
  ·cases h
 case alloc t =>
  cases hi : E.ty t with
  | none => simp [hi] at h
  | some i => simp [hi] at h; obtain ⟨⟨rfl, _⟩, _⟩ := h; exact EffNew.row (g := f)
 case box t x =>
  cases hi : E.ty t with
  | none => simp [hi] at h
  | some i => simp [hi] at h; obtain ⟨⟨rfl, _⟩, _⟩ := h; exact EffNew.row (g := f)
 case buildSlice t n ps =>
  cases hb : buildSliceA E t n (ps.toList.map fun (i, x) => (i, opA tm x)) with
  | none => simp [hb] at h
  | some ef =>
   simp [hb] at h; obtain ⟨rfl, rfl⟩ := h
   unfold buildSliceA at hb
   simp only [Option.bind_eq_bind, Option.bind_eq_some_iff] at hb
   obtain ⟨i, _, hb⟩ := hb
   split at hb
   ·simp only [Option.bind_eq_some_iff] at hb
    obtain ⟨ei, _, hb⟩ := hb
    split at hb
    ·cases hb
    ·simp only [Option.bind_eq_some_iff] at hb
     obtain ⟨cs, _, hb⟩ := hb
     simp at hb; obtain ⟨rfl, _⟩ := hb
     exact EffNew.row (g := f)
   ·cases hb
 case store t a x =>
  have := (storeA_fr h).1.2
  unfold storeA at h
  simp only [Option.bind_eq_bind, Option.bind_eq_some_iff] at h
  obtain ⟨i, _, h⟩ := h
  split at h
  ·split at h
   ·split at h
    ·simp at h
    ·cases h
   ·cases h
  ·cases h
 case mapUpdate t a x y =>
  unfold updateA at h
  simp only [Option.bind_eq_some_iff] at h
  obtain ⟨ti, _, h⟩ := h
  split at h
  ·simp only [Option.bind_eq_some_iff] at h
   obtain ⟨ki, _, h⟩ := h
   split at h
   ·split at h
    ·split at h
     ·split at h
      ·split at h <;> cases h
      ·cases h
     ·cases h
    ·cases h
   ·cases h
  ·cases h
 case range | next | entry | mapEntry | entryStore | makeSlice => exact extA_new h
 case nilCheck x =>
  split at h
  ·exact (hv (x := some _) h).elim
  ·exact (hv (x := some _) h).elim
  ·exact (hv (x := some _) h).elim
  ·cases h
 case convert s d x =>
  unfold convA at h
  simp only [Option.bind_eq_bind, Option.bind_eq_some_iff] at h
  obtain ⟨i, _, j, _, h⟩ := h
  split at h
  ·simp at h
  ·simp at h
  ·obtain ⟨⟨_, l, h2⟩, _⟩ := bstrA_fr h; cases h2
  ·obtain ⟨⟨_, l, h2⟩, _⟩ := bstrA_fr h; cases h2
  ·cases h
 case makeInterface t x =>
  cases hi : E.ty t with
  | none => simp [hi] at h
  | some i =>
   simp only [hi, Option.bind_some] at h
   split at h
   ·cases h
   ·exact (hv (x := some _) h).elim
 case makeFunc g fs cs =>
  cases g <;> simp only at h <;> first
   | (cases h; done)
   | skip
  split at h
  ·exact (hv (x := some _) h).elim
  ·cases h
 case makeMap t r =>
  cases r with
  | some r => simp at h
  | none =>
   simp only at h
   cases hi : E.ty t with
   | none => simp [hi] at h
   | some i =>
    simp only [hi, Option.bind_some] at h
    split at h
    ·simp at h; obtain ⟨⟨rfl, _⟩, _⟩ := h; exact sameO_refl fun _ _ _ _ _ _ h => by cases h
    ·cases h
 case extract t i =>
  split at h
  ·exact (hv h).elim
  ·cases h
 case call c =>
  cases hc : c.callee with
  | value g =>
   simp only [hc] at h
   cases hca : calleeA tm g with
   | none => simp [hca] at h
   | some q => obtain ⟨t, caps⟩ := q; simp [hca] at h
  | invoke r n => simp [hc] at h
  | builtin b =>
   have hx : ∀ {b : Builtin}, (match c.argTypes.toList with
     | t :: _ => (builtinX b t).bind fun k => extA E H k (c.args.toList.map (opA tm))
     | [] => Option.none) = some (.new ob f, acc) → sameO ob ob = true := fun {b} h => by
    split at h
    ·simp only [Option.bind_eq_some_iff] at h
     obtain ⟨k, hk, h⟩ := h
     exact extA_new h
    ·cases h
   cases b <;> simp only [hc] at h <;> first
    | exact (hv h).elim
    | (cases h; done)
    | exact hx h
    | skip
   ·split at h
    ·rename_i t t2 s x h1 h2
     cases hi : E.ty t2 with
     | none => simp [hi] at h
     | some i =>
      simp only [hi, Option.bind_some] at h
      split at h
      ·exact appendA_new h
      ·exact appendA_new h
      ·exact extA_new h
      ·cases h
    ·cases h
   ·split at h
    ·exact (hva h).elim
    ·cases h
end
end Go.Px
set_option linter.unusedVariables false
set_option linter.unusedSimpArgs false
namespace Go.Px
open Go
structure PrimFr (E : Env) : Prop where
 fr : ∀ f args p, E.prim f args = some p → ∀ H eff acc, p H = some (eff, acc) → EffWf eff acc ∧ (∀ t a, eff ≠ .call t a) ∧ ∀ H1, Agree acc H H1 → p H1 = some (eff, acc)
 lv : ∀ f args p, E.prim f args = some p → ∀ H eff acc, p H = some (eff, acc) → LiveAcc H acc ∧ EffNew eff
def CallFr (call : CallT) : Prop := ∀ t args H r H' acc, call t args H = some (r, H', acc) → acc.all = false →
 ∃ T, TrOk acc T ∧ H' = H.mapIdx T ∧ ∀ H1, Agree acc H H1 → call t args H1 = some (r, H1.mapIdx T, acc)
section
variable {E : Env}
theorem opA_congr {l : List Nat} {tm tm1 : List AV} (h : AgreeT l tm tm1) (x : Operand) (hx : ∀ t, x = .tmp t → t ∈ l) : opA tm1 x = opA tm x := by
 cases x with
 | tmp t => exact h t (hx t rfl)
 | _ => rfl
theorem evalOp_congr {tm tm1 : List AV} {H : Heap} {o : Oper} (h : ∀ x ∈ o.op.operands, opA tm1 x = opA tm x) : evalOp E tm1 H o = evalOp E tm H o := by
 have hl : ∀ (l : List Operand), (∀ x ∈ l, opA tm1 x = opA tm x) → l.map (opA tm1) = l.map (opA tm) := fun l hl => List.map_congr_left hl
 have hp : ∀ (l : List (Nat × Operand)), (∀ p ∈ l, opA tm1 p.2 = opA tm p.2) → (l.map fun (i, x) => (i, opA tm1 x)) = (l.map fun (i, x) => (i, opA tm x)) := fun l hl => List.map_congr_left fun p hp => by
  obtain ⟨i, x⟩ := p
  simp only [hl _ hp]
 unfold evalOp
 cases hop : o.op <;> rw [hop] at h <;> simp only [Op.operands] at h <;> try rfl
 case makeFunc f fs cs =>
  cases f <;> simp only
  rw [hl cs.toList (fun x hx => h x (by simp at hx ⊢; exact .inr hx))]
 case build t ps => simp only; rw [hp ps.toList (fun p hpp => h p.2 (by simp at hpp ⊢; exact ⟨p.1, hpp⟩))]
 case buildSlice t n ps => simp only; rw [hp ps.toList (fun p hpp => h p.2 (by simp at hpp ⊢; exact ⟨p.1, hpp⟩))]
 case makeMap t r => cases r <;> rfl
 case slice t x lo hi mx =>
  have h1 : ∀ (y : Option Operand), (∀ z, y = some z → opA tm1 z = opA tm z) → y.map (opA tm1) = y.map (opA tm) := fun y hy => by
   cases y with
   | none => rfl
   | some z => simp [hy z rfl]
  simp only
  rw [h x (by simp), h1 lo (fun z hz => h z (by subst hz; simp)), h1 hi (fun z hz => h z (by subst hz; simp)), h1 mx (fun z hz => h z (by subst hz; simp))]
 case call c =>
  have ha : ∀ x ∈ c.args.toList, opA tm1 x = opA tm x := fun x hx => h x (by simp [Call.operands]; right; simpa using hx)
  simp only [hl _ ha]
  cases hc : c.callee with
  | value f =>
   have hf : opA tm1 f = opA tm f := h f (by simp [Call.operands, hc])
   have : calleeA tm1 f = calleeA tm f := by
    unfold calleeA
    cases f <;> simp only [hf]
   simp only [this]
  | invoke r n => rfl
  | builtin b =>
   cases b <;> simp only
   ·cases h1 : c.argTypes.toList with
    | nil => rfl
    | cons t l =>
     cases l with
     | nil => rfl
     | cons t2 l =>
      cases l with
      | cons _ _ => rfl
      | nil =>
       cases h2 : c.args.toList with
       | nil => rfl
       | cons s m =>
        cases m with
        | nil => rfl
        | cons x m =>
         cases m with
         | cons _ _ => rfl
         | nil => simp only; rw [ha s (by simp [h2]), ha x (by simp [h2])]
   ·cases h1 : c.argTypes.toList with
    | nil => rfl
    | cons t l =>
     cases l with
     | cons _ _ => rfl
     | nil =>
      cases h2 : c.args.toList with
      | nil => rfl
      | cons s m =>
       cases m with
       | cons _ _ => rfl
       | nil => simp only; rw [ha s (by simp [h2])]
 all_goals simp_all
theorem wantedA_congr {ops : List Oper} {o : Oper} {tm tm1 : List AV} (h : AgreeT (looksL ops o) tm tm1) : wantedA ops tm1 o = wantedA ops tm o := by
 unfold wantedA
 cases hg : o.guard with
 | none => rfl
 | some q =>
  obtain ⟨j, want⟩ := q
  simp only
  cases hd : (ops[j]?).bind (·.dst) with
  | none => rfl
  | some d => simp only; rw [h d (by simp [looksL, hg, hd])]
theorem TrOk.id (acc : Acc) : TrOk acc (fun _ x => x) := fun j _ => .inl fun _ => rfl
theorem map_id' (H : Heap) : H.mapIdx (fun _ x => x) = H := mapIdx_id fun _ _ => rfl
theorem Agree.add {acc : Acc} {sl : Nat} {H H1 : Heap} (h : Agree (acc.add (some sl)) H H1) : Agree acc H H1 := ⟨h.1, fun nm hn => h.2 nm (by simp [Acc.add, hn])⟩
theorem runOpG_framed (hE : PrimFr E) {call : CallT} (hC : CallFr call) (ops : List Oper) (sl : Nat) (o : Oper) : Framed o.dst (looksL ops o) (runOpG E call ops (some sl) o) := by
 have happ : ∀ {tm : List AV} {H : Heap} {eff : Eff} {acc acc' : Acc} {st' : St}, EffWf eff acc → applyEff call (some sl) o ⟨tm, H⟩ acc eff = some (st', acc') →
   (acc'.all = false → ∃ v T, TrOk acc' T ∧ st' = ⟨putT tm o.dst v, H.mapIdx T⟩ ∧ ∀ (tm1 : List AV) (H1 : Heap), Agree acc' H H1 → Agree acc H H1 ∧ applyEff call (some sl) o ⟨tm1, H1⟩ acc eff = some (⟨putT tm1 o.dst v, H1.mapIdx T⟩, acc')) ∧
   (∃ v, st'.tm = putT tm o.dst v ∧ ∀ tm1, applyEff call (some sl) o ⟨tm1, H⟩ acc eff = some (⟨putT tm1 o.dst v, st'.H⟩, acc')) := by
  intro tm H eff acc acc' st' hw h
  cases eff with
  | val v =>
   have hval : ∀ (tm1 : List AV) (H1 : Heap), applyEff call (some sl) o ⟨tm1, H1⟩ acc (.val v) = some (⟨putT tm1 o.dst v, H1⟩, acc) := fun tm1 H1 => by
    simp only [applyEff]
    cases lightOp o.op <;> simp [fW_eq, fV_eq, fS_eq]
   simp only [hval] at h ⊢
   simp at h; obtain ⟨rfl, rfl⟩ := h
   exact ⟨fun _ => ⟨v, fun _ x => x, TrOk.id _, by rw [map_id'], fun tm1 H1 ha => ⟨ha, by rw [map_id']⟩⟩, v, rfl, fun _ => rfl⟩
  | new ob f =>
   simp only [applyEff, fO_eq, fV_eq, done, fS_eq, layNew] at h ⊢
   simp at h; obtain ⟨rfl, rfl⟩ := h
   refine ⟨fun _ => ⟨f sl, fun j x => if j = sl then ob else x, fun j hj => .inl fun x => ?_, by rw [← set_mapIdx], fun tm1 H1 ha => ⟨ha.add, by rw [← set_mapIdx]⟩⟩, f sl, rfl, fun _ => rfl⟩
   show (if j = sl then ob else x) = x
   rw [if_neg]; intro e; subst e; simp [Acc.add] at hj
  | put nm ob v =>
   simp only [applyEff, fO_eq, fV_eq, done, fS_eq] at h ⊢
   simp at h; obtain ⟨rfl, rfl⟩ := h
   refine ⟨fun _ => ⟨v, fun j x => if j = nm then ob else x, fun j hj => .inl fun x => ?_, by rw [← set_mapIdx], fun tm1 H1 ha => ⟨ha, by rw [← set_mapIdx]⟩⟩, v, rfl, fun _ => rfl⟩
   show (if j = nm then ob else x) = x
   rw [if_neg]; intro e; subst e; exact hj hw.2
  | app nm ob n sz =>
   simp only [applyEff, fO_eq, fV_eq, done, fS_eq, layNew] at h ⊢
   simp at h; obtain ⟨rfl, rfl⟩ := h
   refine ⟨fun _ => ⟨.own sl 0 n sz, fun j x => if j = sl then ob else if j = nm then .dead else x, fun j hj => .inl fun x => ?_, by rw [set_mapIdx, set_mapIdx, mapIdx_mapIdx'], fun tm1 H1 ha => ⟨ha.add, by rw [set_mapIdx, set_mapIdx, mapIdx_mapIdx']⟩⟩, .own sl 0 n sz, rfl, fun _ => rfl⟩
   simp [Acc.add] at hj
   have hw2 : nm ∈ acc.wr := hw.2
   show (if j = sl then ob else if j = nm then AO.dead else x) = x
   rw [if_neg hj.1, if_neg]; intro e; subst e; exact hj.2 hw2
  | call t args =>
   have hacn : acc = Acc.none := hw.2
   simp only [applyEff, fS_eq] at h ⊢
   cases hc : call t args H with
   | none => simp [hc] at h
   | some q =>
    obtain ⟨r, H', ac⟩ := q
    simp only [hc, fV_eq, done, fS_eq] at h ⊢
    simp at h; obtain ⟨rfl, rfl⟩ := h
    refine ⟨fun hal => ?_, r, rfl, fun _ => rfl⟩
    obtain ⟨T, t1, rfl, t3⟩ := hC _ _ _ _ _ _ hc hal
    exact ⟨r, T, t1, rfl, fun tm1 H1 ha => ⟨by rw [hacn]; exact Agree.none, by simp [t3 H1 ha]⟩⟩
 intro tm H st' acc h
 have hops : ∀ {tm1 : List AV}, AgreeT (looksL ops o) tm tm1 → ∀ x ∈ o.op.operands, opA tm1 x = opA tm x := fun {tm1} hA x hx => opA_congr hA x fun t ht => by
  subst ht
  unfold looksL
  rw [List.mem_append]
  left
  rw [List.mem_filterMap]
  exact ⟨.tmp t, by simpa using hx, rfl⟩
 unfold runOpG at h ⊢
 simp only at h
 cases hw : wantedA ops tm o with
 | none => simp [hw] at h
 | some b =>
  cases b with
  | false =>
   simp only [hw, fS_eq] at h
   simp at h; obtain ⟨rfl, rfl⟩ := h
   refine ⟨fun _ => ⟨.tup [], fun _ x => x, TrOk.id _, by rw [map_id'], fun tm1 H1 hA ha => ?_⟩, .tup [], rfl, fun tm1 hA => ?_⟩
   ·simp [wantedA_congr hA, hw, fS_eq, map_id']
   ·simp [wantedA_congr hA, hw, fS_eq]
  | true =>
   simp only [hw] at h
   unfold runOp at h
   simp only at h
   cases he : evalOp E tm H o with
   | none => simp [he] at h
   | some q =>
    obtain ⟨eff, ac⟩ := q
    obtain ⟨f1, f2⟩ := evalOp_fr he
    simp only [he] at h
    cases hp : primEff E H (eff, ac) with
    | none => simp [hp] at h
    | some q2 =>
     obtain ⟨ef2, ac2⟩ := q2
     simp only [hp] at h
     have hpf : EffWf ef2 ac2 ∧ ∀ H1, Agree ac2 H H1 → Agree ac H H1 ∧ primEff E H1 (eff, ac) = some (ef2, ac2) := by
      unfold primEff at hp ⊢
      cases eff with
      | call t args =>
       have hacn : ac = Acc.none := f1.2
       cases t with
       | func f =>
        simp only [fS_eq] at hp ⊢
        cases hpr : E.prim f args with
        | none =>
         simp [hpr] at hp ⊢; obtain ⟨rfl, rfl⟩ := hp
         exact ⟨f1, fun H1 ha => ⟨ha, rfl, rfl⟩⟩
        | some p =>
         simp only [hpr] at hp ⊢
         obtain ⟨g1, g2, g3⟩ := hE.fr f args p hpr _ _ _ hp
         exact ⟨g1, fun H1 ha => ⟨by rw [hacn]; exact Agree.none, g3 H1 ha⟩⟩
       | yield l =>
        simp at hp ⊢; obtain ⟨rfl, rfl⟩ := hp
        exact ⟨f1, fun H1 ha => ⟨ha, rfl, rfl⟩⟩
      | _ =>
       simp at hp ⊢; obtain ⟨rfl, rfl⟩ := hp
       exact ⟨f1, fun H1 ha => ⟨ha, rfl, rfl⟩⟩
     obtain ⟨p1, p3⟩ := hpf
     obtain ⟨a1, a2⟩ := happ p1 h
     refine ⟨fun hal => ?_, ?_⟩
     ·obtain ⟨v, T, t1, t2, t3⟩ := a1 hal
      refine ⟨v, T, t1, t2, fun tm1 H1 hA ha => ?_⟩
      obtain ⟨g1, g2⟩ := t3 tm1 H1 ha
      simp only [wantedA_congr hA, hw]
      unfold runOp
      simp only [evalOp_congr (hops hA)]
      obtain ⟨k1, k2⟩ := p3 H1 g1
      simp only [f2 k1, k2, g2]
     ·obtain ⟨v, t1, t2⟩ := a2
      refine ⟨v, t1, fun tm1 hA => ?_⟩
      simp only [wantedA_congr hA, hw]
      unfold runOp
      simp only [evalOp_congr (hops hA), he, hp, t2 tm1]
theorem evalOp_nolay {tm : List AV} {H : Heap} {o : Oper} {eff : Eff} {acc : Acc} (h : evalOp E tm H o = some (eff, acc)) (hm : mayLay o.op = false) : (∃ v, eff = .val v) ∨ ∃ nm ob v, eff = .put nm ob v := by
 have hv : ∀ {x : Option AV}, (x.map fun x => (Eff.val x, Acc.none)) = some (eff, acc) → (∃ v, eff = .val v) ∨ ∃ nm ob v, eff = .put nm ob v := fun hx => by
  simp only [Option.map_eq_some_iff] at hx
  obtain ⟨y, _, he⟩ := hx
  cases he; exact .inl ⟨_, rfl⟩
 have hva : ∀ {x : Option (AV × Acc)}, (x.map fun (x, a) => (Eff.val x, a)) = some (eff, acc) → (∃ v, eff = .val v) ∨ ∃ nm ob v, eff = .put nm ob v := fun hx => by
  simp only [Option.map_eq_some_iff] at hx
  obtain ⟨y, _, he⟩ := hx
  cases he; exact .inl ⟨_, rfl⟩
 have hext : ∀ {k : XK} {xs : List AV}, laysX k = false → extA E H k xs = some (eff, acc) → (∃ v, eff = .val v) ∨ ∃ nm ob v, eff = .put nm ob v := fun hk h => by
  rcases extA_shape h with h | ⟨nm, ob, v, h, _⟩ | ⟨h, _⟩
  ·exact .inl h
  ·exact .inr ⟨nm, ob, v, h⟩
  ·rw [hk] at h; cases h
 unfold evalOp at h
 cases hop : o.op <;> simp only [hop] at h hm <;> try (simp only [mayLay] at hm; cases hm; done)
 all_goals try (cases h; done)
 all_goals try (exact hv h)
 all_goals try (exact hva h)
 case pick c a b => split at h; exact hv h; cases h
 case store t a x =>
  unfold storeA at h
  cases hi : E.ty t with
  | none => simp [hi] at h
  | some i =>
   simp only [hi, Option.bind_eq_bind, Option.bind_some] at h
   split at h
   ·split at h
    ·split at h
     ·simp at h; obtain ⟨rfl, _⟩ := h; exact .inr ⟨_, _, _, rfl⟩
     ·cases h
    ·cases h
   ·cases h
 case nilCheck x => split at h <;> first | exact hv (x := some _) h | cases h
 case convert s d x =>
  unfold convA at h
  simp only [Option.bind_eq_bind, Option.bind_eq_some_iff] at h
  obtain ⟨i, _, j, _, h⟩ := h
  split at h
  ·simp at h; obtain ⟨rfl, _⟩ := h; exact .inl ⟨_, rfl⟩
  ·simp at h; obtain ⟨rfl, _⟩ := h; exact .inl ⟨_, rfl⟩
  ·obtain ⟨⟨_, l, rfl⟩, _⟩ := bstrA_fr h; exact .inl ⟨_, rfl⟩
  ·obtain ⟨⟨_, l, rfl⟩, _⟩ := bstrA_fr h; exact .inl ⟨_, rfl⟩
  ·cases h
 case makeInterface t x =>
  simp only [Option.bind_eq_some_iff] at h
  obtain ⟨i, _, h⟩ := h
  split at h
  ·cases h
  ·exact hv (x := some _) h
 case makeFunc f fs cs =>
  cases f <;> simp only at h <;> try (cases h; done)
  split at h
  ·exact hv (x := some _) h
  ·cases h
 case mapUpdate t x i y =>
  unfold updateA at h
  simp only [Option.bind_eq_some_iff] at h
  obtain ⟨ti, _, h⟩ := h
  split at h
  ·simp only [Option.bind_eq_some_iff] at h
   obtain ⟨ki, _, h⟩ := h
   split at h
   ·split at h
    ·split at h
     ·split at h
      ·split at h
       ·cases h; exact .inr ⟨_, _, _, rfl⟩
       ·cases h; exact .inr ⟨_, _, _, rfl⟩
       ·cases h
      ·cases h
     ·cases h
    ·cases h
   ·cases h
  ·cases h
 case extract x i => split at h; exact hv h; cases h
 case next | entry | mapEntry | entryStore => exact hext rfl h
 case call c =>
  cases hc : c.callee with
  | value f => simp [mayLay, hc] at hm
  | invoke r n => simp [mayLay, hc] at hm
  | builtin b =>
   rw [hc] at h
   have hbx : (match c.argTypes.toList with
     | t :: _ => (builtinX b t).bind fun k => extA E H k (c.args.toList.map (opA tm))
     | [] => Option.none) = some (eff, acc) → (∃ v, eff = .val v) ∨ ∃ nm ob v, eff = .put nm ob v := fun h => by
    split at h
    ·simp only [Option.bind_eq_some_iff] at h
     obtain ⟨k, hk, h⟩ := h
     refine hext ?_ h
     unfold builtinX at hk
     split at hk <;> cases hk <;> rfl
    ·cases h
   cases b <;> simp only at h <;> try (exact hbx h)
   case append => simp [mayLay, hc] at hm
   case len =>
    split at h
    ·exact hva h
    ·cases h
   case max => exact hv h
   case min => exact hv h
theorem runOpG_nolay {call : CallT} {ops : List Oper} {o : Oper} (hm : mayLay o.op = false) (sl : Option Nat) : runOpG E call ops none o = runOpG E call ops sl o := by
 funext st
 unfold runOpG
 cases wantedA ops st.tm o with
 | none => rfl
 | some b =>
  cases b with
  | false => rfl
  | true =>
   simp only
   unfold runOp
   cases he : evalOp E st.tm st.H o with
   | none => rfl
   | some x =>
    obtain ⟨eff, acc⟩ := x
    rcases evalOp_nolay he hm with ⟨v, rfl⟩ | ⟨nm, ob, v, rfl⟩
    ·simp only [primEff]; rfl
    ·simp only [primEff]; rfl
def CallRaw (call : CallT) : Prop := ∀ t args H r H2 acc, call t args H = some (r, H2, acc) → (acc.all = true → ∀ nm ∈ acc.rd, ∃ x, H[nm]? = some x ∧ H2[nm]? = some x) ∧ (acc.all = false → acc.wr = [])
theorem fresh_ok {a : Acc} (h : a.fresh = true) : a.all = false ∧ a.rd = [] ∧ a.wr.length = 3 := by
 simp only [Acc.fresh, Bool.and_eq_true, Bool.not_eq_true', List.isEmpty_iff] at h
 exact ⟨h.1.1, h.1.2, Nat.eq_of_beq_eq_true h.2⟩
theorem runOpG_raw (hE : PrimFr E) {call : CallT} (hC : CallFr call) (hR : CallRaw call) (ops : List Oper) (slot : Option Nat) (o : Oper) : RawS (runOpG E call ops slot o) := by
 intro s s' acc h hall
 obtain ⟨tm, H⟩ := s
 unfold runOpG at h
 simp only at h
 cases hw : wantedA ops tm o with
 | none => simp [hw] at h
 | some b =>
  cases b with
  | false =>
   simp only [hw, fS_eq] at h
   cases h; cases hall
  | true =>
   simp only [hw] at h
   unfold runOp at h
   simp only at h
   cases he : evalOp E tm H o with
   | none => simp [he] at h
   | some q =>
    obtain ⟨eff, ac⟩ := q
    obtain ⟨f1, _⟩ := evalOp_fr he
    simp only [he] at h
    cases hp : primEff E H (eff, ac) with
    | none => simp [hp] at h
    | some q2 =>
     obtain ⟨ef2, ac2⟩ := q2
     simp only [hp] at h
     have hw2 : EffWf ef2 ac2 := by
      unfold primEff at hp
      cases eff with
      | call t args =>
       cases t with
       | func f =>
        simp only [fS_eq] at hp
        cases hpr : E.prim f args with
        | none => simp only [hpr] at hp; cases hp; exact f1
        | some p => simp only [hpr] at hp; exact (hE.fr f args p hpr _ _ _ hp).1
       | yield l => simp only at hp; cases hp; exact f1
      | _ => simp only at hp; cases hp; exact f1
     cases ef2 with
     | val v =>
      exfalso
      have : acc = ac2 := by
       simp only [applyEff] at h
       cases hl : lightOp o.op <;> simp [hl, fW_eq, fV_eq, fS_eq] at h <;> exact h.2.symm
      rw [this, hw2.1] at hall; cases hall
     | new ob f =>
      simp only [applyEff, fO_eq, fV_eq, done, fS_eq] at h
      cases h
      exfalso
      cases slot <;> simp [Acc.add, hw2.1] at hall
     | put nm ob v =>
      simp only [applyEff, fO_eq, fV_eq, done, fS_eq] at h
      cases h
      rw [hw2.1] at hall; cases hall
     | app nm ob n sz =>
      simp only [applyEff, fO_eq, fV_eq, done, fS_eq] at h
      cases h
      exfalso
      cases slot <;> simp [Acc.add, hw2.1] at hall
     | call t args =>
      simp only [applyEff, fS_eq] at h
      cases hc : call t args H with
      | none => simp [hc] at h
      | some q =>
       obtain ⟨r, H', ac3⟩ := q
       simp only [hc, fV_eq, done, fS_eq] at h
       cases h
       exact (hR _ _ _ _ _ _ hc).1 hall
theorem runOpG_newS (hE : PrimFr E) {call : CallT} (hR : CallRaw call) (ops : List Oper) (sl : Nat) (o : Oper) : NewS sl o.dst (looksL ops o) (runOpG E call ops (some sl) o) := by
 intro tm H st' acc h hf
 obtain ⟨fa, fr, fw⟩ := fresh_ok hf
 unfold runOpG at h ⊢
 simp only at h
 cases hw : wantedA ops tm o with
 | none => simp [hw] at h
 | some b =>
  cases b with
  | false =>
   simp only [hw, fS_eq] at h
   cases h; simp [Acc.none] at fw
  | true =>
   simp only [hw] at h
   unfold runOp at h
   simp only at h
   cases he : evalOp E tm H o with
   | none => simp [he] at h
   | some q =>
    obtain ⟨eff, ac⟩ := q
    obtain ⟨f1, f2⟩ := evalOp_fr he
    have f3 := evalOp_lv he
    simp only [he] at h
    cases hp : primEff E H (eff, ac) with
    | none => simp [hp] at h
    | some q2 =>
     obtain ⟨ef2, ac2⟩ := q2
     simp only [hp] at h
     have key : EffWf ef2 ac2 ∧ LiveAcc H ac2 ∧ EffNew ef2 ∧ ∀ H1, Agree ac2 H H1 → Agree ac H H1 ∧ primEff E H1 (eff, ac) = some (ef2, ac2) := by
      have hnew : EffNew eff := by
       cases eff with
       | new ob f => exact evalOp_new he
       | _ => trivial
      unfold primEff at hp ⊢
      cases eff with
      | call t args =>
       have hacn : ac = Acc.none := f1.2
       cases t with
       | func f =>
        simp only [fS_eq] at hp ⊢
        cases hpr : E.prim f args with
        | none =>
         simp only [hpr] at hp ⊢
         cases hp
         exact ⟨f1, f3, hnew, fun H1 ha => ⟨ha, rfl⟩⟩
        | some p =>
         simp only [hpr] at hp ⊢
         obtain ⟨g1, g2, g3⟩ := hE.fr f args p hpr _ _ _ hp
         obtain ⟨l1, l2⟩ := hE.lv f args p hpr _ _ _ hp
         exact ⟨g1, l1, l2, fun H1 ha => ⟨by rw [hacn]; exact Agree.none, g3 H1 ha⟩⟩
       | yield l =>
        simp only at hp ⊢
        cases hp
        exact ⟨f1, f3, hnew, fun H1 ha => ⟨ha, rfl⟩⟩
      | _ =>
       simp only at hp ⊢
       cases hp
       exact ⟨f1, f3, hnew, fun H1 ha => ⟨ha, rfl⟩⟩
     obtain ⟨k1, k2, k3, k4⟩ := key
     cases ef2 with
     | val v =>
      exfalso
      have : acc = ac2 := by
       simp only [applyEff] at h
       cases hl : lightOp o.op <;> simp [hl, fW_eq, fV_eq, fS_eq] at h <;> exact h.2.symm
      rw [this] at fw
      have := k2.2.2; omega
     | put nm ob v =>
      simp only [applyEff, fO_eq, fV_eq, done, fS_eq] at h
      cases h
      have := k2.2.2; omega
     | app nm ob n sz =>
      simp only [applyEff, fO_eq, fV_eq, done, fS_eq] at h
      cases h
      have h1 : nm ∈ ac2.wr := k1.2
      simp only [Acc.add, List.length_cons] at fw
      have : ac2.wr = [] := List.length_eq_zero_iff.1 (by omega)
      rw [this] at h1; cases h1
     | call t args =>
      simp only [applyEff, fS_eq] at h
      cases hc : call t args H with
      | none => simp [hc] at h
      | some q =>
       obtain ⟨r, H', ac3⟩ := q
       simp only [hc, fV_eq, done, fS_eq] at h
       cases h
       rw [(hR _ _ _ _ _ _ hc).2 fa] at fw; simp at fw
     | new ob f =>
      simp only [applyEff, fO_eq, fV_eq, done, fS_eq, layNew] at h
      cases h
      have hrd : ac2.rd = [] := fr
      have hwr : ac2.wr = [] := by
       simp only [Acc.add, List.length_cons] at fw
       exact List.length_eq_zero_iff.1 (by omega)
      refine ⟨ob, f sl, k3, rfl, fun tm1 H1 hA => ?_⟩
      have hag : Agree ac2 H H1 := ⟨fun nm hn => (by rw [hrd] at hn; cases hn), fun nm hn => (by rw [hwr] at hn; cases hn)⟩
      obtain ⟨q1, q2⟩ := k4 H1 hag
      have hops : ∀ x ∈ o.op.operands, opA tm1 x = opA tm x := fun x hx => opA_congr hA x fun t ht => by
       subst ht
       unfold looksL
       rw [List.mem_append]
       left
       rw [List.mem_filterMap]
       exact ⟨.tmp t, by simpa using hx, rfl⟩
      simp only [wantedA_congr hA, hw]
      unfold runOp
      simp only [evalOp_congr hops, f2 q1, q2, applyEff, fO_eq, fV_eq, done, fS_eq, layNew]
end
end Go.Px
