/- slices.Insert as a told function. -/
import Derived.Test.YtefondfmngjekaaGreatPxZ
import Derived.Test.YtefondfmngjekaaGreatPxYa
set_option linter.unusedVariables false
set_option linter.unusedSimpArgs false
namespace Go.Px
open Go Go.Lib Go.RowKit

def lenOf : AV → Nat
  | .sl n _ _ => n
  | .own _ _ n _ => n
  | _ => 0

def insOwn (E : Env) (tE : TypeId) (H : Heap) (s : AV) (i : Int) (v : AV) : Option (Eff × Acc) :=
  match E.ty tE, s, v with
  | some ei, .own nm off n sz, .own vnm voff m vsz =>
    match H[nm]?, contentA H ei.size (.own vnm voff m vsz) with
    | some (.row e cs false), some (_, vs, acv) =>
      if e = tE ∧ sz = ei.size ∧ ei.size ≠ 0 ∧ off + n * sz = cs.length ∧ 0 ≤ i ∧ i.toNat < n ∧ (n + m) * ei.bytes ≤ mostBytes ∧ n + m ≤ mostBytes ∧ vnm ≠ nm ∧ m ≠ 0 then
        some (.app nm (.row e ((cs.drop off).take (i.toNat * sz) ++ vs ++ (cs.drop off).drop (i.toNat * sz)) false) (n + m) sz, ⟨acv.rd, [nm], false⟩)
      else none
    | _, _ => none
  | _, _, _ => none

def sayInsert (E : Env) (tS tE : TypeId) : List AV → Option (Heap → Option (Eff × Acc))
  | [s, .int .i64 i, v] =>
    if isSl s && isSl v && lenOf v != 0 then some fun H => if i = (lenOf s : Int) then appendA E H tS s v else insOwn E tE H s i v else none
  | _ => none

section
variable {P : Program} {E : Env} {base : Nat} {m : Mu} {S : Sett} {H : Heap} {w : World} {slot : Option Nat}

theorem insOwn_fr {tE : TypeId} {s v : AV} {i : Int} {eff : Eff} {acc : Acc} (h : insOwn E tE H s i v = some (eff, acc)) : EffWf eff acc ∧ (∀ t a, eff ≠ .call t a) ∧ ∀ {H1 : Heap}, Agree acc H H1 → insOwn E tE H1 s i v = some (eff, acc) := by
  unfold insOwn at h
  split at h
  · rename_i ei nm off n sz vnm voff m vsz hei
    split at h
    · rename_i x1 e cs y1 vs acv hrow hcv
      split at h
      · rename_i hc
        simp only [Option.some.injEq, Prod.mk.injEq] at h
        obtain ⟨rfl, rfl⟩ := h
        refine ⟨⟨rfl, by simp⟩, (fun t a he => by cases he), fun {H1} hA => ?_⟩
        have h1 : H1[nm]? = some (.row e cs false) := by rw [← hrow]; exact (hA.2 nm (by simp)).symm
        have h2 := contentA_fr hcv (.inr fun k hk => hA.1 k hk)
        unfold insOwn
        rw [hei]
        simp only [h1, h2]
        rw [if_pos hc]
      · cases h
    · cases h
  · cases h

theorem sayInsert_fr (E : Env) (tS tE : TypeId) : SayFr (sayInsert E tS tE) := by
  intro args p hq H eff acc h
  unfold sayInsert at hq
  split at hq
  · rename_i s i v
    split at hq
    · cases hq
      by_cases hi : i = (lenOf s : Int)
      · simp only [if_pos hi] at h ⊢
        obtain ⟨h1, h2⟩ := appendA_fr h
        exact ⟨h1, appendA_nocall h, fun H1 hA => h2 hA⟩
      · simp only [if_neg hi] at h ⊢
        obtain ⟨h1, h2, h3⟩ := insOwn_fr h
        exact ⟨h1, h2, fun H1 hA => h3 hA⟩
    · cases hq
  · cases hq

/-- Where a place of the row that it makes comes from. -/
theorem ins_get {α : Type} (C V : List α) (k j : Nat) (hk : k ≤ C.length) : (C.take k ++ V ++ C.drop k)[j]? = if j < k then C[j]? else if j < k + V.length then V[j - k]? else C[j - V.length]? := by
  have hl : (C.take k).length = k := by simp; omega
  by_cases h1 : j < k
  · rw [if_pos h1, List.append_assoc, List.getElem?_append_left (by omega), List.getElem?_take, if_pos h1]
  · rw [if_neg h1]
    by_cases h2 : j < k + V.length
    · rw [if_pos h2, List.append_assoc, List.getElem?_append_right (by omega), List.getElem?_append_left (by omega), hl]
    · rw [if_neg h2, List.getElem?_append_right (by simp; omega), List.getElem?_drop]
      congr 1
      simp [hl]; omega

theorem sayInsert_ok (hE : EnvOk P E) {f : FuncId} {fn : Func} {tS tE : TypeId} {ei : TyI} (hf : P.funcs[f]? = some fn) (hname : (fn.name == "runtime.NumGoroutine") = false) (hb : fn.body.isSome = true)
    (hei : E.ty tE = some ei) (hu : P.underlying tS = some (.slice tE)) (hend : InsEnd P f tS) (hshift : InsShift P f ei.size) (hgrow : InsGrow P f tE ei.size ei.bytes) : SayOk P f (sayInsert E tS tE) := by
  intro args p hq H eff acc h base sl m S w args' hR hs ha
  unfold sayInsert at hq
  split at hq
  case h_2 => cases hq
  rename_i s i v
  split at hq
  case isFalse => cases hq
  rename_i hsl
  simp only [Bool.and_eq_true, bne_iff_ne, ne_eq] at hsl
  obtain ⟨⟨hs1, hv1⟩, hm0⟩ := hsl
  cases hq
  obtain ⟨l, hl⟩ : ∃ l, l = args'.toList := ⟨_, rfl⟩
  rw [← hl] at ha
  cases ha with
  | cons _ s' _ vs' _ hsr t1 =>
  cases t1 with
  | cons _ i' _ vs2 _ hir t2 =>
  cases t2 with
  | cons _ v' _ vs3 _ hvr t3 =>
  cases t3
  obtain rfl := rep_int hir
  have harr : args' = #[s', .int .i64 i, v'] := by apply Array.ext'; simpa using hl.symm
  subst harr
  have hvs : ∃ va vc, v' = .slice (some va) (lenOf v) vc := by
    cases hvr with
    | nilsl _ full => exact absurd rfl hm0
    | sl _ a n c cells full h1 h2 h3 => exact ⟨a, c, rfl⟩
    | own nm off n sz c b o h1 h2 h3 => exact ⟨_, c, rfl⟩
    | own0 nm off sz b o a h1 => exact absurd rfl hm0
    | _ => cases hv1
  by_cases hi : i = (lenOf s : Int)
  · -- at the end
    simp only [if_pos hi] at h
    subst hi
    obtain ⟨va, vc, rfl⟩ := hvs
    have ho := append_ok (ty := 0) hE hR hs hsr hvr (.inl ⟨_, hu⟩) h
    obtain ⟨H', x, he, ho⟩ := eff_out ho hR
    refine ⟨H', x, he, .inl ⟨enters hf hname hb _ _, fun n' => ?_⟩⟩
    obtain ⟨v', w', m', S', e1, e2⟩ := ho
    have hsv : ∃ a c, s' = .slice a (lenOf s) c ∧ lenOf s ≤ c ∧ (a = none → c = 0) := by
      cases hsr with
      | nilsl _ full => exact ⟨none, 0, rfl, Nat.le_refl _, fun _ => rfl⟩
      | sl _ a n c cells full h1 h2 h3 => exact ⟨some a, c, rfl, h1, fun h => by cases h⟩
      | own nm off n sz c b o h1 h2 h3 => exact ⟨_, c, rfl, h2, fun h => by cases h⟩
      | own0 nm off sz b o a h1 => exact ⟨a, 0, rfl, Nat.le_refl _, fun _ => rfl⟩
      | _ => cases hs1
    obtain ⟨a, c, rfl, hnc, hac⟩ := hsv
    exact back_of (v' := v') (w' := w') ⟨v', w', m', S', rfl, e2⟩ (hend w a _ c va _ vc v' w' hnc hac (by omega) fun ty => e1) n'
  · simp only [if_neg hi] at h
    unfold insOwn at h
    rw [hei] at h
    split at h
    case h_2 => cases h
    rename_i x0 ei' nm off n sz vnm voff mm vsz hee
    cases hee
    split at h
    case h_2 => cases h
    rename_i x1 e cs y1 vs acv hrow hcv
    split at h
    case isFalse => cases h
    rename_i hc
    obtain ⟨rfl, rfl, hsz0, hlen, hi0, hin, hbig, hbig2, hne, hmm⟩ := hc
    simp only [Option.some.injEq, Prod.mk.injEq] at h
    obtain ⟨rfl, rfl⟩ := h
    obtain ⟨k, rfl⟩ : ∃ k : Nat, i = (k : Int) := ⟨i.toNat, by omega⟩
    simp only [Int.toNat_natCast] at hin ⊢
    cases hsr with
    | own0 => omega
    | own _ _ _ _ c b o h1 h2 h3 =>
    cases hvr with
    | own0 => exact absurd rfl hmm
    | own _ _ _ _ vc vb vo k1 k2 k3 =>
    obtain ⟨b', o', nb, inf, r⟩ := hR.obj nm _ hrow
    have hmu := r.mu
    rw [h1] at hmu; cases hmu
    -- the elements to come
    simp only [contentA] at hcv
    split at hcv
    case h_2 => cases hcv
    rename_i x2 e2 cs2 fr2 hrow2
    split at hcv
    case isFalse => cases hcv
    rename_i hc2
    obtain ⟨rfl, hfit2⟩ := hc2
    simp at hcv
    obtain ⟨_, rfl, rfl⟩ := hcv
    obtain ⟨vb', vo', nb2, inf2, r2⟩ := hR.obj vnm _ hrow2
    have hmu := r2.mu
    rw [k1] at hmu; cases hmu
    obtain ⟨us, u1, u2, u3⟩ := r2.vals voff (mm * ei.size)
    have hul : us.length = mm * ei.size := by rw [u1.length]; simp; omega
    obtain ⟨ds, d1, d2, d3⟩ := r.vals off (n * ei.size)
    have hCl : (cs.drop off).length = n * ei.size := by simp; omega
    have htk : (cs.drop off).take (n * ei.size) = cs.drop off := List.take_of_length_le (by omega)
    rw [htk] at d1 d2
    have hdl : ds.length = n * ei.size := by rw [d1.length, hCl]
    have hbb : vb ≠ b := fun hb => by
      subst hb
      exact hne (hR.inj vnm nm vb _ _ ⟨_, hrow2, by simp⟩ ⟨_, hrow, by simp⟩ k1 h1)
    have hone : ∀ {vs : List Value} {xs : List AV}, RepL m S w false vs xs → (∀ x ∈ xs, one x = true) → ∀ v ∈ vs, v.oneCell' = true := fun h1 h2 => repL_oneCell h1 h2
    have hkn : k * ei.size ≤ (cs.drop off).length := by rw [hCl]; exact Nat.mul_le_mul_right _ (by omega)
    obtain ⟨arr, rng, hheap, harr⟩ := r.shape
    obtain ⟨arr2, rng2, hheap2, harr2⟩ := r2.shape
    have hcellb : ∀ j, j < nb → (w.cell? ⟨b, j, none⟩).isSome = true := fun j hj => by
      have : j < arr.size := by omega
      simp [World.cell?, hheap, this]
    have hnpos : 0 < n * ei.size := Nat.mul_pos (by omega) (by omega)
    have hfit := r.fits
    refine ⟨_, _, rfl, .inl ⟨enters hf hname hb _ _, fun n' => ?_⟩⟩
    by_cases hroom : n + mm ≤ c
    · -- in place
      obtain ⟨eb, kb, hshb, hkb⟩ := h3
      obtain ⟨arr3, rng3, hheap3, harr3⟩ := hshb
      rw [hheap] at hheap3
      cases hheap3
      have hmul : (n + mm) * ei.size ≤ c * ei.size := Nat.mul_le_mul_right _ hroom
      have hcalls := hshift w b (o + off) n c k vb (vo + voff) mm vc ds us hin (by omega) hroom hbig2 hbb hdl hul (fun j v hj => d3 j v hj) (fun j hj => hcellb _ (by omega)) r.free (fun j v hj => u3 j v hj) (hone d1 d2) (hone u1 u2)
        ⟨e2, e, nb2, nb, by simp [World.shape?, hheap2, harr2], by simp [World.shape?, hheap, harr], by omega⟩ r2.free
      refine back_of (v' := .slice (some ⟨b, o + off, none⟩) (n + mm) c) ?_ hcalls n'
      have hW : Wrote b w ((w.drew.setCells b (o + off + (k + mm) * ei.size) (ds.drop (k * ei.size))).setCells b (o + off + k * ei.size) us) := ((Wrote.refl b w).drew.cells _ _).cells _ _
      have hks : (k + mm) * ei.size = k * ei.size + mm * ei.size := Nat.add_mul ..
      have hks2 : (n + mm) * ei.size = n * ei.size + mm * ei.size := Nat.add_mul ..
      have hddl : (ds.drop (k * ei.size)).length = n * ei.size - k * ei.size := by rw [List.length_drop, hdl]
      have hsm1 : ∀ j, j < (n + mm) * ei.size → ((w.drew.setCells b (o + off + (k + mm) * ei.size) (ds.drop (k * ei.size))).cell? ⟨b, o + off + j, none⟩).isSome = true := fun j hj => by
        have h0 := (w.drew.setCells b (o + off + (k + mm) * ei.size) (ds.drop (k * ei.size)))
        obtain ⟨arr4, rng4, hh4, hs4⟩ := ((Wrote.refl b w).drew.cells (o + off + (k + mm) * ei.size) (ds.drop (k * ei.size))).shape b e nb ⟨arr, _, hheap, harr⟩
        have : o + off + j < arr4.size := by omega
        simp [World.cell?, hh4, this]
      have hin1 : ∀ j (hj : j < (ds.drop (k * ei.size)).length), (w.drew.setCells b (o + off + (k + mm) * ei.size) (ds.drop (k * ei.size))).cell? ⟨b, o + off + (k + mm) * ei.size + j, none⟩ = some (ds.drop (k * ei.size))[j] :=
        World.cell?_setCells_in b _ _ w.drew (fun j hj => by exact hcellb _ (by omega))
      have hin2 : ∀ j (hj : j < us.length), ((w.drew.setCells b (o + off + (k + mm) * ei.size) (ds.drop (k * ei.size))).setCells b (o + off + k * ei.size) us).cell? ⟨b, o + off + k * ei.size + j, none⟩ = some us[j] :=
        World.cell?_setCells_in b _ _ _ (fun j hj => by
          have := hsm1 (k * ei.size + j) (by omega)
          rwa [← Nat.add_assoc] at this)
      have hst := heirRow (xs := (cs.drop off).take (k * ei.size) ++ (cs2.drop voff).take (mm * ei.size) ++ (cs.drop off).drop (k * ei.size)) hR hs hrow r hW (q' := o + off) (by
          have := (cs2.drop voff).length_take (i := mm * ei.size)
          simp only [List.length_append, List.length_take, List.length_drop] at *
          omega) (fun j y hy => by
        have hVl : ((cs2.drop voff).take (mm * ei.size)).length = mm * ei.size := by simp; omega
        rw [ins_get _ _ _ _ hkn, hVl] at hy
        by_cases hj1 : j < k * ei.size
        · rw [if_pos hj1] at hy
          obtain ⟨v, a1, a2⟩ := d1.get hy
          refine ⟨v, ?_, a2, d2 y (List.mem_of_getElem? hy)⟩
          rw [World.cell?_setCells_out _ _ _ _ ⟨b, o + off + j, none⟩ (fun _ _ => by show _ ∨ _; left; show o + off + j < _; omega),
            World.cell?_setCells_out _ _ _ _ ⟨b, o + off + j, none⟩ (fun _ _ => by show _ ∨ _; left; show o + off + j < _; omega)]
          exact d3 j v a1
        · rw [if_neg hj1] at hy
          by_cases hj2 : j < k * ei.size + mm * ei.size
          · rw [if_pos hj2] at hy
            obtain ⟨v, a1, a2⟩ := u1.get hy
            have hlt2 := (List.getElem?_eq_some_iff.1 a1).1
            have e1 : o + off + j = o + off + k * ei.size + (j - k * ei.size) := by omega
            rw [List.getElem?_eq_getElem hlt2] at a1
            refine ⟨v, by rw [e1, hin2 _ hlt2]; exact a1, a2, u2 y (List.mem_of_getElem? hy)⟩
          · rw [if_neg hj2] at hy
            obtain ⟨v, a1, a2⟩ := d1.get hy
            have hlt2 := (List.getElem?_eq_some_iff.1 a1).1
            refine ⟨v, ?_, a2, d2 y (List.mem_of_getElem? hy)⟩
            rw [World.cell?_setCells_out _ _ _ _ ⟨b, o + off + j, none⟩ (fun _ _ => by show _ ∨ _; right; show _ ≤ o + off + j; omega)]
            have e1 : o + off + j = o + off + (k + mm) * ei.size + (j - (k + mm) * ei.size) := by omega
            rw [e1, hin1 _ (by omega), List.getElem_drop]
            rw [List.getElem?_eq_getElem hlt2] at a1
            rw [← a1]
            congr 2
            omega)
      refine ⟨_, _, _, S, rfl, hst, Gaps.app, ?_⟩
      simpa using Rep.own (S := S) _ 0 (n + mm) ei.size c b (o + off) (by simp [muPut]) hroom ⟨_, _, hW.shape _ _ _ ⟨arr, _, hheap, harr⟩, by omega⟩
    · -- a new row
      obtain ⟨ROW, G, g1, g2, g3, hcalls⟩ := hgrow w b (o + off) n c k vb (vo + voff) mm vc ds us hin (by omega) h2 (by omega) hbig hbig2 hdl hul (fun j v hj => d3 j v hj) (fun j v hj => u3 j v hj) (hone d1 d2) (hone u1 u2)
      refine back_of (v' := .slice (some ⟨w.heap.size, 0, none⟩) (n + mm) G) ?_ hcalls n'
      have hks : (k + mm) * ei.size = k * ei.size + mm * ei.size := Nat.add_mul ..
      have hks2 : (n + mm) * ei.size = n * ei.size + mm * ei.size := Nat.add_mul ..
      have hGs : (n + mm) * ei.size ≤ G * ei.size := Nat.mul_le_mul_right _ g1
      have hddl : (ds.drop (k * ei.size)).length = n * ei.size - k * ei.size := by rw [List.length_drop, hdl]
      have hkn2 : k * ei.size ≤ n * ei.size := by omega
      have hB : Born w ((((w.alloc (.cells ROW e)).drew.setCells w.heap.size (k * ei.size) us).drew).setCells w.heap.size ((k + mm) * ei.size) (ds.drop (k * ei.size))) := (((Born.alloc w (.cells ROW e)).drew2.cells _ _).drew2).cells _ _
      obtain ⟨A1, a1, a2, a3⟩ := setCells_row w.heap.size e (0, 0) us (k * ei.size) (w.alloc (.cells ROW e)).drew ROW (alloc_new w (.cells ROW e)) (by omega)
      obtain ⟨A2, b1, b2, b3⟩ := setCells_row w.heap.size e (0, 0) (ds.drop (k * ei.size)) ((k + mm) * ei.size) (((w.alloc (.cells ROW e)).drew.setCells w.heap.size (k * ei.size) us).drew) A1 a1 (by omega)
      have hk1 := hR.kill nm
      have hrep : RepL m S w false (ds.take (k * ei.size) ++ us ++ ds.drop (k * ei.size)) ((cs.drop off).take (k * ei.size) ++ (cs2.drop voff).take (mm * ei.size) ++ (cs.drop off).drop (k * ei.size)) :=
        ((d1.take _).append u1).append (d1.drop _)
      obtain ⟨S', hst⟩ := hk1.rel.newRow (hs.kill nm) hB b1 (fun j => froz_row b1 j) r.info hrep (fun y hy => by
          rcases List.mem_append.1 hy with hy | hy
          · rcases List.mem_append.1 hy with hy | hy
            · exact d2 y (List.mem_of_mem_take hy)
            · exact u2 y hy
          · exact d2 y (List.mem_of_mem_drop hy)) (fun j v hj => by
        rw [ins_get _ _ _ _ (by omega), hul] at hj
        rw [b3 j, hddl]
        by_cases hj1 : j < k * ei.size
        · rw [if_pos hj1] at hj
          rw [if_neg (by omega), a3 j, if_neg (by omega)]
          exact g3 j v (by rw [List.getElem?_take, if_pos hj1]; exact hj)
        · rw [if_neg hj1] at hj
          by_cases hj2 : j < k * ei.size + mm * ei.size
          · rw [if_pos hj2] at hj
            rw [if_neg (by omega), a3 j, if_pos (by omega)]
            exact hj
          · rw [if_neg hj2] at hj
            have hlt2 := (List.getElem?_eq_some_iff.1 hj).1
            rw [if_pos (by omega), List.getElem?_drop, ← hj]
            congr 1
            omega) false (fun _ => trivial)
      refine ⟨_, _, _, S', rfl, hk1.trans hst, Gaps.app, ?_⟩
      simpa using Rep.own (S := S') _ 0 (n + mm) ei.size G w.heap.size 0 (by simp [muPut]) g1 ⟨e, _, ⟨_, _, b1, rfl⟩, by omega⟩
end
end Go.Px
