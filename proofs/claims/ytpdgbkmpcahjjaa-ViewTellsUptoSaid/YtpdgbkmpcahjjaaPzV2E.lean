/- Views: slices of what came in, copies; merge's calls (printed by gmerge2.py). -/
import Derived.Test.YtpdgbkmpcahjjaaPzV2D
set_option linter.unusedVariables false
set_option linter.unusedSimpArgs false
set_option maxRecDepth 100000
namespace Go.Px
open Go
section
variable {E : Env} {t e sz by' : Nat} {L V : List AV} {H : Heap} {a b : O}
theorem slice_sl_hi (R : RowT E t e sz by') {n h : Nat} {cs : List AV} {f : Bool} (ha : gO L V a = .sl n cs f) (hb : gO L V b = .int .i64 (h : Int)) (hn : cs.length = n * sz) (hh : h ≤ n) :
  evalFA E L V H (.slice t a none (some b) none) = some (.val (.sl h (cs.take (h * sz)) (f && h == n)), Acc.none) := by
 obtain ⟨it, h1, h2⟩ := R.ht
 obtain ⟨ie, h3, h4, h5⟩ := R.he
 subst h4
 simp [evalFA, sliceA, boundA, h1, h2, h3, ha, hb, hn, hh]
theorem slice_sl_lo (R : RowT E t e sz by') {n h : Nat} {cs : List AV} {f : Bool} (ha : gO L V a = .sl n cs f) (hb : gO L V b = .int .i64 (h : Int)) (hn : cs.length = n * sz) (hh : h ≤ n) :
  evalFA E L V H (.slice t a (some b) none none) = some (.val (.sl (n - h) (cs.drop (h * sz)) f), Acc.none) := by
 obtain ⟨it, h1, h2⟩ := R.ht
 obtain ⟨ie, h3, h4, h5⟩ := R.he
 subst h4
 have e0 : cs.take (n * ie.size) = cs := List.take_of_length_le (by omega)
 simp [evalFA, sliceA, boundA, h1, h2, h3, ha, hb, hn, hh, e0]
theorem append_firstS (R : RowT E t e sz by') {k : Nat} {cs : List AV} {f : Bool} (ha : gO L V a = .sl 0 [] true) (hx : gO L V b = .sl k cs f) (hl : cs.length = k * sz) (hk : k ≠ 0) (hb : k ≤ 1000000) :
  evalFA E L V H (.append t t a b) = some (.new (.row e cs false) (fun nm => .own nm 0 k sz), Acc.none) := by
 obtain ⟨it, h1, h2⟩ := R.ht
 obtain ⟨ie, h3, h4, h5⟩ := R.he
 have hm : k * ie.bytes ≤ mostBytes := by
  rw [h5]
  exact Nat.le_trans (Nat.mul_le_mul hb R.by1) (by decide)
 have hm2 : k ≤ mostBytes := Nat.le_trans hb (by decide)
 subst h4
 have hs := R.sz0
 simp [evalFA, appendA, appendA0, contentA, countA, h1, h2, h3, ha, hx, hl, hk, hs, hm, hm2]
theorem append_nilS (R : RowT E t e sz by') {x : AV} {cs : List AV} {f : Bool} (ha : gO L V a = x) (hx1 : x = .sl 0 [] true ∨ ∃ n o k s, x = .own n o k s) (hx : gO L V b = .sl 0 cs f) (hl : cs.length = 0) :
  evalFA E L V H (.append t t a b) = some (.val x, Acc.none) := by
 obtain ⟨it, h1, h2⟩ := R.ht
 obtain ⟨ie, h3, h4, h5⟩ := R.he
 subst h4
 have hs := R.sz0
 have hc : cs = [] := List.eq_nil_of_length_eq_zero hl
 subst hc
 rcases hx1 with rfl | ⟨n, o, k, s, rfl⟩ <;> simp [evalFA, appendA, appendA0, contentA, countA, h1, h2, h3, ha, hx, hs]
theorem append_nextS (R : RowT E t e sz by') {nb n k : Nat} {cs0 cs : List AV} {f : Bool} (ha : gO L V a = .own nb 0 n sz) (hb0 : H[nb]? = some (.row e cs0 false)) (hl0 : cs0.length = n * sz) (hx : gO L V b = .sl k cs f) (hl : cs.length = k * sz) (hk : k ≠ 0) (hb : n + k ≤ 1000000) :
  evalFA E L V H (.append t t a b) = some (.app nb (.row e (cs0 ++ cs) false) (n + k) sz, ⟨[], [nb], false⟩) := by
 obtain ⟨it, h1, h2⟩ := R.ht
 obtain ⟨ie, h3, h4, h5⟩ := R.he
 have hm : (n + k) * ie.bytes ≤ mostBytes := by
  rw [h5]
  exact Nat.le_trans (Nat.mul_le_mul hb R.by1) (by decide)
 have hm2 : n + k ≤ mostBytes := Nat.le_trans hb (by decide)
 subst h4
 have hs := R.sz0
 simp [evalFA, appendA, appendA0, contentA, countA, h1, h2, h3, ha, hx, hk, hs, hm, hm2, hb0, hl0, hl, Acc.none]
end
section
variable {E : Env} {L V : List AV} {H : Heap} {K : SPK} {x : AV} {acc : Acc} {sp : List (Nat × Acc)} {bef : List Nat} {call : CallTT} {fo : FO} {a : Acc} {o : AO} {n0 : Nat}
theorem zStepD_toldV {f : Nat} {ar9 : List AV} {p : Heap → Option (Eff × Acc)} {a2 : Acc} (hg : wantedF fo.g L V = some true) (he : evalFA E L V H fo.fa = some (.call (.func f) ar9, a)) (hp : E.prim f ar9 = some p) (hq : p H = some (.val x, a2)) (hi : a2.idle = true) :
  zStepD E call bef n0 fo K sp L V (rep H) = K sp (putFL fo.dst x L) (putFV fo.dst x V) (rep H) := by
 have he' : evalFT E L V (rep H) fo.fa = some (.call (.func f) ar9, a) := by rw [evalFT_ok, he]
 cases hl : fo.light <;> simp [zStepD, runFT, hg, he', primEff, fS_eq, hp, hq, tl_rep, effT, putF_eq, fV_eq, fW_eq, hl, accZ_idle hi]
theorem zStepD_toldN {f r : Nat} {ar9 : List AV} {p : Heap → Option (Eff × Acc)} {a2 : Acc} {mk : Nat → AV} (hg : wantedF fo.g L V = some true) (hr : fo.sl = some r) (he : evalFA E L V H fo.fa = some (.call (.func f) ar9, a)) (hp : E.prim f ar9 = some p) (hq : p H = some (.new o mk, a2)) (ha : (a2.add (some (n0 + r))).idle = false) (hs : spOk bef fo.idx (a2.add (some (n0 + r))) sp = true) :
  zStepD E call bef n0 fo K sp L V (rep H) = K ((fo.idx, a2.add (some (n0 + r))) :: sp) (putFL fo.dst (mk (n0 + r)) L) (putFV fo.dst (mk (n0 + r)) V) (rep (H.set (n0 + r) o)) := by
 have he' : evalFT E L V (rep H) fo.fa = some (.call (.func f) ar9, a) := by rw [evalFT_ok, he]
 simp [zStepD, runFT, hg, he', primEff, fS_eq, hp, hq, tl_rep, effT, putF_eq, fV_eq, fO_eq, layT_eq, FO.slot, hr, rep_lay, layNew, accZ_ok ha hs]
end
end Go.Px
namespace Go.Proofs.PxV2
open Go Go.Px Go.Proofs
theorem clone59 (H : Heap) (B : List Cop) (f : Bool) (hl : B.length < 100000) : (B = [] ∧ sayClone E0 23 [.sl B.length (copC B) f] = some (fun H => appendA E0 H 23 (.sl 0 [] true) (.sl B.length (copC B) f)) ∧ appendA E0 H 23 (.sl 0 [] true) (.sl B.length (copC B) f) = some (.val (.sl 0 [] true), Acc.none)) ∨
  (B ≠ [] ∧ sayClone E0 23 [.sl B.length (copC B) f] = some (fun H => appendA E0 H 23 (.sl 0 [] true) (.sl B.length (copC B) f)) ∧ appendA E0 H 23 (.sl 0 [] true) (.sl B.length (copC B) f) = some (.new (.row 59 (copC B) false) (fun nm => .own nm 0 B.length 3), Acc.none)) := by
 by_cases h : B = []
 ·subst h
  exact .inl ⟨rfl, rfl, append_nilS (L := [.sl 0 [] true, .sl 0 [] f]) (V := []) (a := .l 0) (b := .l 1) row230 rfl (.inl rfl) rfl rfl⟩
 ·exact .inr ⟨h, rfl, append_firstS (L := [.sl 0 [] true, .sl B.length (copC B) f]) (V := []) (a := .l 0) (b := .l 1) row230 rfl rfl (copC_len B) (fun e => h (List.eq_nil_of_length_eq_zero e)) (by omega)⟩
theorem cloneZ59 (call : CallTT) (H : Heap) (B : List Cop) (f : Bool) (hl : B.length < 100000) (L V : List AV) (o1 : O) (h1 : gO L V o1 = .sl B.length (copC B) f) (idx : Nat) (sl : Option Nat) :
  ∃ H' v', (∀ K, (zStep E1 call ⟨.call 59 [o1], .push, none, false, idx, sl⟩) K L V (rep H) = K (v' :: L) V (rep H')) ∧ OwnC H' v' B := by
 have ev : evalFA E1 L V H (.call 59 [o1]) = some (.call (.func 59) [.sl B.length (copC B) f], Acc.none) := by
  rw [← h1]; rfl
 rcases clone59 H B f hl with ⟨h, hp, hq⟩ | ⟨h, hp, hq⟩
 ·exact ⟨H, .sl 0 [] true, fun K => (zStep_toldV (p := fun H => appendA E0 H 23 (.sl 0 [] true) (.sl B.length (copC B) f)) rfl (by rw [evalFT_ok, ev]) hp (by rw [tl_rep]; exact hq)).trans rfl, .inl ⟨h, rfl⟩⟩
 ·exact ⟨H ++ [AO.row 59 (copC B) false], .own H.length 0 B.length 3, fun K => (zStep_toldN rfl ev hp hq).trans rfl, .inr ⟨h, H.length, rfl, get_last⟩⟩
theorem c49 {k : Nat} (Y : YE) (T : TH) (f : Nat) (g : Cop → Cop → Cop) (hnp : E1.prim f = fun _ => none) (hg : ∀ T c d, CY (k + 4) [] (.func f) [copA c, copA d] T = some (copA (g c d), T, ⟨[], [], false⟩)) (hgk : ∀ c d, c.1 = d.1 → (g c d).1 = c.1) (A B : List Cop) (fa fb : Bool) (hA : SortedC A) (hl : A.length + B.length < 50000) (hk : A.length + B.length < k) :
  ∃ fo, CY (k + 5) Y (.func 49) [.sl A.length (copC A) fa, .sl B.length (copC B) fb, .clo 50 [], .clo f []] T = some (.sl (B.foldl (fun C x => insC g x C) A).length (copC (B.foldl (fun C x => insC g x C) A)) fo, T, ⟨[], [], false⟩) ∧ SortedC (B.foldl (fun C x => insC g x C) A) := by
 obtain ⟨H0, v0, e0, ho0⟩ := cloneZ59 (CY (k + 4) []) [] A fa (by omega) [] [.sl A.length (copC A) fa, .sl B.length (copC B) fb, .undef, .undef, .undef, .undef, .undef, .clo 50 [], .undef, .undef, .clo f [], .sl 0 [] true] (.v 0) rfl 1 (some 0)
 obtain ⟨L1, H1, out1, a6, a8, a9, e1, ho1, hs1⟩ := loop49 k [] f g hnp hg hgk (.sl A.length (copC A) fa) B fb (by omega) B.length 0 (k + 4) H0 v0 A .undef .undef .undef [] (by omega) (by omega) ho0 hA (by omega) (by omega)
 rw [List.drop_zero] at ho1 hs1
 obtain ⟨fo, ns, hz⟩ := fzC ho1
 have e2 : ∀ q, bodyZ E1 (CY (k + 4)) [] q (G49 E1) [.sl A.length (copC A) fa, .sl B.length (copC B) fb, .clo 50 [], .clo f []] (rep []) = (G49 E1).z (CY (k + 4)) [] q (finZ E1 [.tmp (.v 11)]) (fun _ _ _ _ => none) (finZ E1 [.tmp (.v 11)]) [] [.sl A.length (copC A) fa, .sl B.length (copC B) fb, .undef, .undef, .undef, .undef, .undef, .clo 50 [], .undef, .undef, .clo f [], .undef] (rep []) := by intro q; kernel_rfl
 refine ⟨fo, call_nomark (k := k + 4) (zf := G49 E1) (r := out1) (T2 := rep H1) rfl rfl (fun _ => rfl) ((e2 _).trans ?_) hz, hs1⟩
 unfold G49
 dsimp only
 refine zqR <| zqV <| zqR <| (e0 _).trans <| zqV <| zqA <| zqA <| zReg_eq.trans <| zqV <| (zV_v (vLenL_sl rfl)).trans <| zqV <| zBlock_app.trans <| (e1 _ _ _).trans ?_
 rw [ifZ_eq, if_pos (by rfl)]
 refine zqR <| zqV <| zRet_app.trans ?_
 rfl
theorem clone61 (H : Heap) (B : List Mem) (f : Bool) (hl : B.length < 100000) : (B = [] ∧ sayClone E0 22 [.sl B.length (memC B) f] = some (fun H => appendA E0 H 22 (.sl 0 [] true) (.sl B.length (memC B) f)) ∧ appendA E0 H 22 (.sl 0 [] true) (.sl B.length (memC B) f) = some (.val (.sl 0 [] true), Acc.none)) ∨
  (B ≠ [] ∧ sayClone E0 22 [.sl B.length (memC B) f] = some (fun H => appendA E0 H 22 (.sl 0 [] true) (.sl B.length (memC B) f)) ∧ appendA E0 H 22 (.sl 0 [] true) (.sl B.length (memC B) f) = some (.new (.row 55 (memC B) false) (fun nm => .own nm 0 B.length 2), Acc.none)) := by
 by_cases h : B = []
 ·subst h
  exact .inl ⟨rfl, rfl, append_nilS (L := [.sl 0 [] true, .sl 0 [] f]) (V := []) (a := .l 0) (b := .l 1) row220 rfl (.inl rfl) rfl rfl⟩
 ·exact .inr ⟨h, rfl, append_firstS (L := [.sl 0 [] true, .sl B.length (memC B) f]) (V := []) (a := .l 0) (b := .l 1) row220 rfl rfl (memC_len B) (fun e => h (List.eq_nil_of_length_eq_zero e)) (by omega)⟩
theorem cloneZ61 (call : CallTT) (H : Heap) (B : List Mem) (f : Bool) (hl : B.length < 100000) (L V : List AV) (o1 : O) (h1 : gO L V o1 = .sl B.length (memC B) f) (idx : Nat) (sl : Option Nat) :
  ∃ H' v', (∀ K, (zStep E1 call ⟨.call 61 [o1], .push, none, false, idx, sl⟩) K L V (rep H) = K (v' :: L) V (rep H')) ∧ OwnM H' v' B := by
 have ev : evalFA E1 L V H (.call 61 [o1]) = some (.call (.func 61) [.sl B.length (memC B) f], Acc.none) := by
  rw [← h1]; rfl
 rcases clone61 H B f hl with ⟨h, hp, hq⟩ | ⟨h, hp, hq⟩
 ·exact ⟨H, .sl 0 [] true, fun K => (zStep_toldV (p := fun H => appendA E0 H 22 (.sl 0 [] true) (.sl B.length (memC B) f)) rfl (by rw [evalFT_ok, ev]) hp (by rw [tl_rep]; exact hq)).trans rfl, .inl ⟨h, rfl⟩⟩
 ·exact ⟨H ++ [AO.row 55 (memC B) false], .own H.length 0 B.length 2, fun K => (zStep_toldN rfl ev hp hq).trans rfl, .inr ⟨h, H.length, rfl, get_last⟩⟩
theorem c54 {k : Nat} (Y : YE) (T : TH) (f : Nat) (g : Mem → Mem → Mem) (hnp : E1.prim f = fun _ => none) (hg : ∀ T c d, CY (k + 4) [] (.func f) [memB c, memB d] T = some (memB (g c d), T, ⟨[], [], false⟩)) (hgk : ∀ c d, c.1 = d.1 → (g c d).1 = c.1) (A B : List Mem) (fa fb : Bool) (hA : SortedM A) (hl : A.length + B.length < 50000) (hk : A.length + B.length < k) :
  ∃ fo, CY (k + 5) Y (.func 54) [.sl A.length (memC A) fa, .sl B.length (memC B) fb, .clo 45 [], .clo f []] T = some (.sl (B.foldl (fun C x => insM g x C) A).length (memC (B.foldl (fun C x => insM g x C) A)) fo, T, ⟨[], [], false⟩) ∧ SortedM (B.foldl (fun C x => insM g x C) A) := by
 obtain ⟨H0, v0, e0, ho0⟩ := cloneZ61 (CY (k + 4) []) [] A fa (by omega) [] [.sl A.length (memC A) fa, .sl B.length (memC B) fb, .undef, .undef, .undef, .undef, .undef, .clo 45 [], .undef, .undef, .clo f [], .sl 0 [] true] (.v 0) rfl 1 (some 0)
 obtain ⟨L1, H1, out1, a6, a8, a9, e1, ho1, hs1⟩ := loop54 k [] f g hnp hg hgk (.sl A.length (memC A) fa) B fb (by omega) B.length 0 (k + 4) H0 v0 A .undef .undef .undef [] (by omega) (by omega) ho0 hA (by omega) (by omega)
 rw [List.drop_zero] at ho1 hs1
 obtain ⟨fo, ns, hz⟩ := fzM ho1
 have e2 : ∀ q, bodyZ E1 (CY (k + 4)) [] q (G54 E1) [.sl A.length (memC A) fa, .sl B.length (memC B) fb, .clo 45 [], .clo f []] (rep []) = (G54 E1).z (CY (k + 4)) [] q (finZ E1 [.tmp (.v 11)]) (fun _ _ _ _ => none) (finZ E1 [.tmp (.v 11)]) [] [.sl A.length (memC A) fa, .sl B.length (memC B) fb, .undef, .undef, .undef, .undef, .undef, .clo 45 [], .undef, .undef, .clo f [], .undef] (rep []) := by intro q; kernel_rfl
 refine ⟨fo, call_nomark (k := k + 4) (zf := G54 E1) (r := out1) (T2 := rep H1) rfl rfl (fun _ => rfl) ((e2 _).trans ?_) hz, hs1⟩
 unfold G54
 dsimp only
 refine zqR <| zqV <| zqR <| (e0 _).trans <| zqV <| zqA <| zqA <| zReg_eq.trans <| zqV <| (zV_v (vLenL_sl rfl)).trans <| zqV <| zBlock_app.trans <| (e1 _ _ _).trans ?_
 rw [ifZ_eq, if_pos (by rfl)]
 refine zqR <| zqV <| zRet_app.trans ?_
 rfl
def gJ (c x : Cop) : Cop := if x.2.1 > c.2.1 ∨ (x.2.1 = c.2.1 ∧ x.2.2 > c.2.2) then x else c
def gS (c x : Cop) : Cop := x
def gM (c x : Mem) : Mem := (c.1, max c.2 x.2)
def gT (c x : Mem) : Mem := (c.1, (c.2 + 1) % 18446744073709551616)
theorem g51 {k : Nat} (T : TH) (c d : Cop) : CY (k + 6) [] (.func 51) [copA c, copA d] T = some (copA (gJ c d), T, ⟨[], [], false⟩) := by
 obtain ⟨s, n, m⟩ := c
 obtain ⟨u, p, z⟩ := d
 have h := c51 (k := k) [] T s u (n : Int) (m : Int) (p : Int) (z : Int)
 have hc : (orI (cmpI (n : Int) (p : Int)) (cmpI (m : Int) (z : Int)) < 0) ↔ (p > n ∨ (p = n ∧ z > m)) := by
  unfold orI cmpI
  rcases Nat.lt_trichotomy n p with h1 | h1 | h1
  ·have : (n : Int) < (p : Int) := by omega
   simp [this, h1]
  ·subst h1
   rcases Nat.lt_trichotomy m z with h2 | h2 | h2
   ·have : (m : Int) < (z : Int) := by omega
    simp [this, h2]
   ·subst h2; simp
   ·have h3 : ¬ (m : Int) < (z : Int) := by omega
    have h4 : (m : Int) > (z : Int) := by omega
    have h5 : ¬ m < z := by omega
    simp [h3, h4, h5]
  ·have h3 : ¬ (n : Int) < (p : Int) := by omega
   have h4 : (n : Int) > (p : Int) := by omega
   have h5 : ¬ n < p := by omega
   have h6 : ¬ p = n := by omega
   simp [h3, h4, h5, h6]
 unfold gJ
 by_cases hh : p > n ∨ (p = n ∧ z > m)
 ·rw [if_pos (hc.2 hh)] at h
  simp only [if_pos hh]
  exact h
 ·rw [if_neg (fun e => hh (hc.1 e))] at h
  simp only [if_neg hh]
  exact h
theorem gJ_key (c d : Cop) (h : c.1 = d.1) : (gJ c d).1 = c.1 := by unfold gJ; split <;> simp [h]
theorem g62 {k : Nat} (T : TH) (c d : Cop) : CY (k + 1) [] (.func 62) [copA c, copA d] T = some (copA (gS c d), T, ⟨[], [], false⟩) := c62 [] T c.1 d.1 _ _ _ _
theorem g55 {k : Nat} (T : TH) (c d : Mem) : CY (k + 1) [] (.func 55) [memB c, memB d] T = some (memB (gM c d), T, ⟨[], [], false⟩) := by
 have h := c55 (k := k) [] T c.1 d.1 (c.2 : Int) (d.2 : Int)
 rw [show (max (c.2 : Int) (d.2 : Int)) = ((max c.2 d.2 : Nat) : Int) by omega] at h
 exact h
theorem g58 {k : Nat} (T : TH) (c d : Mem) : CY (k + 1) [] (.func 58) [memB c, memB d] T = some (memB (gT c d), T, ⟨[], [], false⟩) := by
 have h := c58 (k := k) [] T c.1 d.1 (c.2 : Int) (d.2 : Int)
 rw [show IntKind.u64.wrap ((c.2 : Int) + 1) = (((c.2 + 1) % 18446744073709551616 : Nat) : Int) by simp [IntKind.wrap, IntKind.bits, IntKind.signed]] at h
 exact h
end Go.Proofs.PxV2
