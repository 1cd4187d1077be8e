/- Views: the reference's member, copies (printed by gref.py). -/
import Derived.Test.YtpdgbkmpcahjjaaPzV2E
set_option linter.unusedVariables false
set_option linter.unusedSimpArgs false
set_option maxRecDepth 100000
namespace Go.Px
open Go
theorem store_one_at {E : Env} {L V : List AV} {H : Heap} {st nm off e2 : Nat} {cs : List AV} {v : AV} {p o : O} (ht : ∃ i, E.ty st = some i ∧ i.size = 1) (ha : gO L V p = .loc nm off) (hr : H[nm]? = some (.row e2 cs false)) (hx : gO L V o = v) (hc : cellsOf v = [v]) (hl : off + 1 ≤ cs.length) :
  evalFA E L V H (.store st p o) = some (.put nm (.row e2 (lay cs off [v]) false) (.tup []), ⟨[], [nm], false⟩) := by
 obtain ⟨i, h1, h2⟩ := ht
 simp [evalFA, storeA, h1, h2, ha, hr, hx, hc, hl]
end Go.Px
namespace Go.Proofs.PxV2
open Go Go.Px Go.Proofs
theorem memC_set1 {C : List Mem} {p : Nat} {c : Mem} {m : Nat} (hp : C[p]? = some c) : lay (memC C) (p * 2 + 1) [.int .u64 (m : Int)] = memC (C.set p (c.1, m)) := by
 have hl := (List.getElem?_eq_some_iff.1 hp).1
 have e := memC_set (x := (c.1, m)) hp
 rw [← e]
 have hd : (memC C).drop (p * 2) = iV c.1 :: .int .u64 (c.2 : Int) :: (memC C).drop (p * 2 + 2) := by
  obtain ⟨s, n⟩ := c; exact mem_drop C p s n hp
 have hlen := memC_len C
 unfold lay
 have h1 : (memC C).take (p * 2 + 1) = (memC C).take (p * 2) ++ [iV c.1] := by
  rw [List.take_add, hd]; rfl
 rw [h1]
 simp
theorem sEqlF {s u : List Nat} {p : Bool} (h : (s == u) = p) : binB E1 .eql 9 false false (.str s) (.str u) = some (.bool p) := by
 subst h; rfl
theorem sGtr {s u : List Nat} {p : Bool} (hne : ¬ s = u) (h : lessN u s = p) : binB E1 .gtr 9 false false (.str s) (.str u) = some (.bool p) := by
 show some (AV.bool !(lessN s u || s == u)) = _
 have h1 : (s == u) = false := by simpa using hne
 rw [h1, Bool.or_false]
 cases p with
 | true =>
  cases h2 : lessN s u with
  | false => rfl
  | true => have := less_trans h2 h; rw [less_irrefl] at this; cases this
 | false => rw [less_tri h (fun e => hne e.symm)]; rfl
theorem take_ins {α : Type} {l : List α} {i : Nat} {c : α} (h : l[i]? = some c) (r : List α) : l.take (i + 1) ++ r = l.take i ++ c :: r := by
 rw [List.take_add_one, h]; simp
noncomputable def body56 (call : CallTT) : CZ := xbody56 E1 call
noncomputable def tail56 (call : CallTT) : CZ := xtail56 E1 call
def V56 (x : Mem) (l : List Mem) (f : Bool) (i v4 v5 : AV) : List AV := [memB x, i, .sl l.length (memC l) f, .loc 0 0, v4, v5]
def H56 (x : Mem) : Heap := [.row 55 [iV x.1, .int .u64 (x.2 : Int)] false]
theorem loop56 (call : CallTT) (x : Mem) (l : List Mem) (f : Bool) (hl : l.length < 50000) :
  ∀ (d i q : Nat) (L : List AV) (v4 : AV), i + d = l.length → d < q →
  (∃ L' H' v1' v4' o, (∀ kn kx kr, zLoop q (body56 call) kn kx kr L (V56 x l f (iV i) v4 (.sl 0 [] true)) (rep (H56 x)) = kr L' (V56 x l f v1' v4' o) (rep H')) ∧ OwnM H' o (l.take i ++ insM gM x (l.drop i))) ∨
  (∃ L' v4', (∀ kn kx kr, zLoop q (body56 call) kn kx kr L (V56 x l f (iV i) v4 (.sl 0 [] true)) (rep (H56 x)) = kx 0 L' (V56 x l f (iV l.length) v4' (.sl 0 [] true)) (rep (H56 x))) ∧ insM gM x (l.drop i) = l.drop i ++ [x])
 | 0, i, q, L, v4, hi, hq => by
  obtain ⟨q', rfl⟩ : ∃ q', q = q' + 1 := ⟨q - 1, by omega⟩
  have hil : i = l.length := by omega
  subst hil
  refine .inr ⟨?_, v4, fun kn kx kr => ?_, by simp [insM]⟩
  rotate_left
  rw [zLoop_succ]
  unfold body56 xbody56
  refine zqA <| zqR <| (zP_v (vLenL_sl rfl)).trans <| (zP_v (vInt_eq fLss_ok rfl rfl (r := .bool false) (iLss (decide_eq_false (by omega))))).trans <| (zCond_eq (p := false) rfl).trans ?_
  rw [if_neg (by decide)]
  refine zExit_app.trans ?_
  rfl
 | d + 1, i, q, L, v4, hi, hq => by
  obtain ⟨q', rfl⟩ : ∃ q', q = q' + 1 := ⟨q - 1, by omega⟩
  have hlt : i < l.length := by omega
  obtain ⟨c, hs⟩ : ∃ c, l[i]? = some c := ⟨l[i], by simp [hlt]⟩
  have hw : IntKind.i64.wrap ((i : Int) + 1) = ((i + 1 : Nat) : Int) := by rw [IntKind.wrap_i64]; omega
  have hcl := memC_len l
  have hd : (memC l).drop (i * 2) = iV c.1 :: .int .u64 (c.2 : Int) :: (memC l).drop (i * 2 + 2) := by
   obtain ⟨cs, cn⟩ := c
   exact mem_drop l i cs cn hs
  have hdrop := drop_at hs
  by_cases hec : c.1 = x.1
  ·have he : c.1 = x.1 := hec
   have hins : insM gM x (l.drop i) = gM c x :: l.drop (i + 1) := by rw [hdrop]; simp [insM, hec]
   have hset : l.take i ++ gM c x :: l.drop (i + 1) = l.set i (gM c x) := by rw [List.set_eq_take_append_cons_drop, if_pos hlt]
   have hlay := memC_set1 (m := max c.2 x.2) hs
   rw [hins, hset]
   refine .inl ⟨?_, [.row 55 [iV x.1, .int .u64 (x.2 : Int)] false, .row 55 (memC (l.set i (gM c x))) false], iV i, .own 1 0 l.length 2, .own 1 0 l.length 2, fun kn kx kr => ?_, .inr ⟨fun h => by have h2 := congrArg List.length h; rw [List.length_set] at h2; simp only [List.length_nil] at h2; omega, 1, by simp, rfl⟩⟩
   rotate_left
   rw [zLoop_succ]
   unfold body56 xbody56
   refine zqA <| zqR <| (zP_v (vLenL_sl rfl)).trans <| (zP_v (vInt_eq fLss_ok rfl rfl (r := .bool true) (iLss (decide_eq_true (by omega))))).trans <| (zCond_eq (p := true) rfl).trans ?_
   rw [if_pos rfl]
   refine zqK <| zqA <| zBlock_app.trans <| zqA <| zqA <| zDreg_eq.trans <| (zPD_v (vIndexAddr_sl rfl rfl hlt (by omega))).trans ?_
   rw [hd]
   refine (zPD_v (vFieldAddr_ref rfl (by simp))).trans <| (zLD_idle (wLoad_ref rfl (by simp) rfl) rfl).trans <| (zPD_v (vFieldAddr_loc rfl)).trans <| (zLD_v (wLoad_loc rfl rfl (by simp) rfl) rfl (by kernel_rfl)).trans <| (zPD_v (vInt_eq fEql_ok rfl rfl (r := .bool true) (iEql (decide_eq_true he)))).trans <| (zCond_eq (p := true) rfl).trans ?_
   rw [if_pos rfl]
   refine zqR ?_
   refine (zStep_newH rfl (append_firstS row22 rfl rfl (memC_len l) (by omega) (by omega))).trans ?_
   refine zqV <| zqA <| zDreg_eq.trans <| (zPD_v (vIndexAddr_sl rfl rfl hlt (by omega))).trans ?_
   rw [hd]
   refine (zPD_v (vFieldAddr_ref rfl (by simp))).trans <| (zLD_idle (wLoad_ref rfl (by simp) rfl) rfl).trans <| (zPD_v (vFieldAddr_loc rfl)).trans <| (zLD_v (wLoad_loc rfl rfl (by simp) rfl) rfl (by kernel_rfl)).trans <| (zStepD_val rfl (most_uG rfl rfl) rfl).trans <| (zPD_v (vIndexAddr_own rfl rfl hlt)).trans <| (zPD_v (vFieldAddr_loc rfl)).trans <| (zStepD_put rfl (store_one_at (nm := 1) ⟨_, rfl, rfl⟩ rfl rfl rfl rfl (by simp; omega)) rfl (by kernel_rfl)).trans <| zqR <| zqV <| zRet_app.trans ?_
   rw [show gM c x = (c.1, max c.2 x.2) from rfl, ← hlay]
   rw [show (((max c.2 x.2 : Nat) : Nat) : Int) = max (c.2 : Int) (x.2 : Int) by omega]
   rw [show 0 + i * 2 + 1 = i * 2 + 1 by omega]
   rfl
  have he : ¬ c.1 = x.1 := hec
  have hn : ¬ c.1 = x.1 := he
  cases hgt : lessI x.1 c.1 with
  | true =>
   have hg : decide (c.1 > x.1) = true := by simpa [lessI] using hgt
   have hins : insM gM x (l.drop i) = x :: l.drop i := by rw [hdrop]; simp [insM, hn, hgt]
   rw [hins]
   have htd : memC (l.take i ++ x :: l.drop i) = (memC l).take (i * 2) ++ [iV x.1, .int .u64 (x.2 : Int)] ++ (memC l).drop (i * 2) := by
    rw [memC_app, memC_take, memC_drop]
    obtain ⟨s, n⟩ := x
    simp [memC]
   by_cases hz : i = 0
   ·subst hz
    have hk : ((H56 x) ++ List.replicate 4 AO.dead).length = 5 := rfl
    refine .inl ⟨?_, ((((H56 x) ++ List.replicate 4 AO.dead).set 2 (.row 55 [iV x.1, .int .u64 (x.2 : Int)] false)).set 3 .dead).set 4 (.row 55 ([iV x.1, .int .u64 (x.2 : Int)] ++ memC l) false), iV (0 : Nat), v4, .own 4 0 (1 + (l.length - 0)) 2, fun kn kx kr => ?_, .inr ⟨by simp, 4, by simp; omega, ?_⟩⟩
    rotate_left
    ·rw [zLoop_succ]
     unfold body56 xbody56
     refine zqA <| zqR <| (zP_v (vLenL_sl rfl)).trans <| (zP_v (vInt_eq fLss_ok rfl rfl (r := .bool true) (iLss (decide_eq_true (by omega))))).trans <| (zCond_eq (p := true) rfl).trans ?_
     rw [if_pos rfl]
     refine zqK <| zqA <| zBlock_app.trans <| zqA <| zqA <| zDreg_eq.trans <| (zPD_v (vIndexAddr_sl rfl rfl hlt (by omega))).trans ?_
     rw [hd]
     refine (zPD_v (vFieldAddr_ref rfl (by simp))).trans <| (zLD_idle (wLoad_ref rfl (by simp) rfl) rfl).trans <| (zPD_v (vFieldAddr_loc rfl)).trans <| (zLD_v (wLoad_loc rfl rfl (by simp) rfl) rfl (by kernel_rfl)).trans <| (zPD_v (vInt_eq fEql_ok rfl rfl (r := .bool false) (iEql (decide_eq_false he)))).trans <| (zCond_eq (p := false) rfl).trans ?_
     rw [if_neg (by decide)]
     refine zqK <| zqA <| zDreg_eq.trans <| (zPD_v (vIndexAddr_sl rfl rfl hlt (by omega))).trans ?_
     rw [hd]
     refine (zPD_v (vFieldAddr_ref rfl (by simp))).trans <| (zLD_idle (wLoad_ref rfl (by simp) rfl) rfl).trans <| (zPD_v (vFieldAddr_loc rfl)).trans <| (zLD_v (wLoad_loc rfl rfl (by simp) rfl) rfl (by kernel_rfl)).trans <| (zPD_v (vInt_eq fGtr_ok rfl rfl (r := .bool true) (iGtr hg))).trans <| (zCond_eq (p := true) rfl).trans ?_
     rw [if_pos rfl]
     refine zqA <| zDreg_eq.trans <| (zStepD_val rfl (slice_sl_hi row22 (h := 0) rfl rfl (memC_len l) (by omega)) rfl).trans <| (zStepD_val rfl (append_nilS row22 rfl (.inl rfl) rfl (by simp)) rfl).trans <| (zLD_v (wLoad_loc rfl rfl (by simp) rfl) rfl (by kernel_rfl)).trans ?_
     refine (zStepD_new rfl rfl (buildOne row22 (y := .agg [iV x.1, .int .u64 (x.2 : Int)]) rfl (by rfl) ⟨_, rfl, rfl⟩ (by decide)) rfl (by kernel_rfl)).trans ?_
     refine (zStepD_new rfl rfl (append_firstG (nm := 2) row22 rfl rfl rfl rfl (by decide) (by decide)) rfl (by kernel_rfl)).trans ?_
     refine (zStepD_val rfl (slice_sl_lo row22 (h := 0) rfl rfl (memC_len l) (by omega)) rfl).trans ?_
     refine (zStepD_app rfl rfl (append_nextS (nb := 3) (n := 1) row22 rfl rfl rfl rfl (by simp [memC_len]) (by omega) (by omega)) rfl (by kernel_rfl)).trans ?_
     refine (zVD_v vMv_eq).trans <| zRet_app.trans ?_
     rfl
    ·rw [htd]; rfl
   ·obtain ⟨R, hR⟩ : ∃ R, R = ((memC l).take (i * 2) ++ ([iV x.1, .int .u64 (x.2 : Int)] : List AV)) ++ (memC l).drop (i * 2) := ⟨_, rfl⟩
    refine .inl ⟨?_, (((((H56 x) ++ List.replicate 4 AO.dead).set 1 .dead).set 2 (.row 55 [iV x.1, .int .u64 (x.2 : Int)] false)).set 3 .dead).set 4 (.row 55 R false), iV i, v4, .own 4 0 (i + 1 + (l.length - i)) 2, fun kn kx kr => ?_, .inr ⟨by simp, 4, by simp; omega, ?_⟩⟩
    rotate_left
    ·rw [zLoop_succ]
     unfold body56 xbody56
     refine zqA <| zqR <| (zP_v (vLenL_sl rfl)).trans <| (zP_v (vInt_eq fLss_ok rfl rfl (r := .bool true) (iLss (decide_eq_true (by omega))))).trans <| (zCond_eq (p := true) rfl).trans ?_
     rw [if_pos rfl]
     refine zqK <| zqA <| zBlock_app.trans <| zqA <| zqA <| zDreg_eq.trans <| (zPD_v (vIndexAddr_sl rfl rfl hlt (by omega))).trans ?_
     rw [hd]
     refine (zPD_v (vFieldAddr_ref rfl (by simp))).trans <| (zLD_idle (wLoad_ref rfl (by simp) rfl) rfl).trans <| (zPD_v (vFieldAddr_loc rfl)).trans <| (zLD_v (wLoad_loc rfl rfl (by simp) rfl) rfl (by kernel_rfl)).trans <| (zPD_v (vInt_eq fEql_ok rfl rfl (r := .bool false) (iEql (decide_eq_false he)))).trans <| (zCond_eq (p := false) rfl).trans ?_
     rw [if_neg (by decide)]
     refine zqK <| zqA <| zDreg_eq.trans <| (zPD_v (vIndexAddr_sl rfl rfl hlt (by omega))).trans ?_
     rw [hd]
     refine (zPD_v (vFieldAddr_ref rfl (by simp))).trans <| (zLD_idle (wLoad_ref rfl (by simp) rfl) rfl).trans <| (zPD_v (vFieldAddr_loc rfl)).trans <| (zLD_v (wLoad_loc rfl rfl (by simp) rfl) rfl (by kernel_rfl)).trans <| (zPD_v (vInt_eq fGtr_ok rfl rfl (r := .bool true) (iGtr hg))).trans <| (zCond_eq (p := true) rfl).trans ?_
     rw [if_pos rfl]
     refine zqA <| zDreg_eq.trans <| (zStepD_val rfl (slice_sl_hi row22 (h := i) rfl rfl (memC_len l) (by omega)) rfl).trans ?_
     refine (zStepD_new rfl rfl (append_firstS row22 rfl rfl (by simp [memC_len]; omega) (by omega) (by omega)) rfl (by kernel_rfl)).trans ?_
     refine (zLD_v (wLoad_loc rfl rfl (by simp) rfl) rfl (by kernel_rfl)).trans ?_
     refine (zStepD_new rfl rfl (buildOne row22 (y := .agg [iV x.1, .int .u64 (x.2 : Int)]) rfl (by rfl) ⟨_, rfl, rfl⟩ (by decide)) rfl (by kernel_rfl)).trans ?_
     refine (zStepD_app rfl rfl (append_nextG (nb := 1) (nm := 2) (n := i) row22 rfl rfl (by simp [memC_len]; omega) rfl rfl (k := 1) rfl (by decide) (by omega)) rfl (by kernel_rfl)).trans ?_
     refine (zStepD_val rfl (slice_sl_lo row22 (h := i) rfl rfl (memC_len l) (by omega)) rfl).trans ?_
     refine (zStepD_app rfl rfl (append_nextS (nb := 3) (n := i + 1) row22 rfl rfl (by simp [memC_len, cellsOf]; omega) rfl (by simp [memC_len]; omega) (by omega) (by omega)) rfl (by kernel_rfl)).trans ?_
     refine (zVD_v vMv_eq).trans <| zRet_app.trans ?_
     rw [hR]
     rfl
    ·rw [htd, ← hR]; rfl
  | false =>
   have hg : decide (c.1 > x.1) = false := by simpa [lessI] using hgt
   have hins : insM gM x (l.drop i) = c :: insM gM x (l.drop (i + 1)) := by rw [hdrop]; simp [insM, hn, hgt]
   have next : ∀ kn kx kr, zLoop (q' + 1) (body56 call) kn kx kr L (V56 x l f (iV i) v4 (.sl 0 [] true)) (rep (H56 x)) = zLoop q' (body56 call) kn kx kr [.int .i64 ((i + 1 : Nat) : Int), iV i] (V56 x l f (iV (i + 1 : Nat)) v4 (.sl 0 [] true)) (rep (H56 x)) := fun kn kx kr => by
    rw [zLoop_succ]
    conv => lhs; unfold body56 xbody56
    refine zqA <| zqR <| (zP_v (vLenL_sl rfl)).trans <| (zP_v (vInt_eq fLss_ok rfl rfl (r := .bool true) (iLss (decide_eq_true (by omega))))).trans <| (zCond_eq (p := true) rfl).trans ?_
    rw [if_pos rfl]
    refine zqK <| zqA <| zBlock_app.trans <| zqA <| zqA <| zDreg_eq.trans <| (zPD_v (vIndexAddr_sl rfl rfl hlt (by omega))).trans ?_
    rw [hd]
    refine (zPD_v (vFieldAddr_ref rfl (by simp))).trans <| (zLD_idle (wLoad_ref rfl (by simp) rfl) rfl).trans <| (zPD_v (vFieldAddr_loc rfl)).trans <| (zLD_v (wLoad_loc rfl rfl (by simp) rfl) rfl (by kernel_rfl)).trans <| (zPD_v (vInt_eq fEql_ok rfl rfl (r := .bool false) (iEql (decide_eq_false he)))).trans <| (zCond_eq (p := false) rfl).trans ?_
    rw [if_neg (by decide)]
    refine zqK <| zqA <| zDreg_eq.trans <| (zPD_v (vIndexAddr_sl rfl rfl hlt (by omega))).trans ?_
    rw [hd]
    refine (zPD_v (vFieldAddr_ref rfl (by simp))).trans <| (zLD_idle (wLoad_ref rfl (by simp) rfl) rfl).trans <| (zPD_v (vFieldAddr_loc rfl)).trans <| (zLD_v (wLoad_loc rfl rfl (by simp) rfl) rfl (by kernel_rfl)).trans <| (zPD_v (vInt_eq fGtr_ok rfl rfl (r := .bool false) (iGtr hg))).trans <| (zCond_eq (p := false) rfl).trans ?_
    rw [if_neg (by decide)]
    refine zqK <| zReg_eq.trans <| (zP_v vMv_eq).trans <| (zP_v (vInt_eq fAdd_ok rfl rfl rfl)).trans ?_
    rw [hw]
    refine zqV ?_
    rfl
   rcases loop56 call x l f hl d (i + 1) q' [.int .i64 ((i + 1 : Nat) : Int), iV i] v4 (by omega) (by omega) with ⟨L', H', v1', v4', o, e, ho⟩ | ⟨L', v4', e, hi2⟩
   ·exact .inl ⟨L', H', v1', v4', o, fun kn kx kr => (next kn kx kr).trans (e kn kx kr), by rw [hins, ← take_ins hs]; exact ho⟩
   ·exact .inr ⟨L', v4', fun kn kx kr => (next kn kx kr).trans (e kn kx kr), by rw [hins, hi2, hdrop]; rfl⟩
theorem c56 {k : Nat} (Y : YE) (T : TH) (x : Mem) (l : List Mem) (f : Bool) (hl : l.length < 50000) (hk : l.length < k) :
  ∃ fo, CY (k + 1) Y (.func 56) [.sl l.length (memC l) f, memB x] T = some (.sl (insM gM x l).length (memC (insM gM x l)) fo, T, ⟨[], [], false⟩) := by
 have e0 : ∀ q, bodyZ E1 (CY k) [] q (G56 E1) [.sl l.length (memC l) f, memB x] (rep []) = (G56 E1).z (CY k) [] q (finZ E1 [.tmp (.v 5)]) (fun _ _ _ _ => none) (finZ E1 [.tmp (.v 5)]) [] [memB x, .undef, .sl l.length (memC l) f, .undef, .undef, .undef] (rep []) := by intro q; kernel_rfl
 have front : ∀ r : AV × TH, (zSeq (zBlock 0 (zLoop k (body56 (CY k [])))) (tail56 (CY k []))) (finZ E1 [.tmp (.v 5)]) (fun _ _ _ _ => none) (finZ E1 [.tmp (.v 5)]) [] (V56 x l f (iV (0 : Nat)) .undef (.sl 0 [] true)) (rep (H56 x)) = some r → bodyZ E1 (CY k) [] k (G56 E1) [.sl l.length (memC l) f, memB x] (rep []) = some r := fun r hh => by
  refine (e0 _).trans ?_
  unfold G56
  dsimp only
  refine zqR ?_
  refine (zStep_newH rfl (box55 (x := iV x.1) (y := .int .u64 (x.2 : Int)) rfl)).trans ?_
  refine zqV <| zqA <| zqA <| zReg_eq.trans <| zqV ?_
  exact hh
 have fin : ∀ (H' : Heap) (o : AV) (L V : List AV), OwnM H' o (insM gM x l) → (finZ E1 [.tmp (.v 5)] L V (rep H') = some (o, rep H')) → bodyZ E1 (CY k) [] k (G56 E1) [.sl l.length (memC l) f, memB x] (rep []) = finZ E1 [.tmp (.v 5)] L V (rep H') → ∃ fo, CY (k + 1) Y (.func 56) [.sl l.length (memC l) f, memB x] T = some (.sl (insM gM x l).length (memC (insM gM x l)) fo, T, ⟨[], [], false⟩) := fun H' o L V ho hv hb => by
  obtain ⟨fo, ns, hz⟩ := fzM ho
  refine ⟨fo, call_nomark (zf := G56 E1) (r := o) (T2 := rep H') rfl rfl (fun _ => rfl) (hb.trans hv) hz⟩
 rcases loop56 (CY k []) x l f hl l.length 0 k [] .undef (by omega) hk with ⟨L', H', v1', v4', o, e, ho⟩ | ⟨L', v4', e, hi⟩
 ·simp only [List.take_zero, List.drop_zero, List.nil_append] at ho
  refine fin H' o L' (V56 x l f v1' v4' o) ho rfl ?_
  have : finZ E1 [.tmp (.v 5)] L' (V56 x l f v1' v4' o) (rep H') = some (o, rep H') := rfl
  rw [this]
  refine front _ ?_
  refine zqA <| zBlock_app.trans ?_
  exact e _ _ _
 ·rw [List.drop_zero] at hi
  by_cases hz : l = []
  ·subst hz
   have ho : OwnM (((H56 x) ++ List.replicate 3 AO.dead).set 2 (.row 55 [iV x.1, .int .u64 (x.2 : Int)] false) |>.set 3 (.row 55 [iV x.1, .int .u64 (x.2 : Int)] false)) (.own 3 0 1 2) (insM gM x []) := .inr ⟨by simp [insM], 3, by simp [insM], by
    obtain ⟨s, n⟩ := x
    rfl⟩
   refine fin _ _ [] (V56 x [] f (iV (0 : Nat)) v4' (.own 3 0 1 2)) ho rfl ?_
   refine (front _ ?_).trans (show some (AV.own 3 0 1 2, _) = _ from rfl)
   refine zqA <| zBlock_app.trans <| (e _ _ _).trans ?_
   rw [ifZ_eq, if_pos (by rfl)]
   unfold tail56 xtail56
   refine zqA <| zDreg_eq.trans <| (zStepD_val rfl (append_nilS row22 rfl (.inl rfl) rfl rfl) rfl).trans <| (zLD_v (wLoad_loc rfl rfl (by simp) rfl) rfl (by kernel_rfl)).trans ?_
   refine (zStepD_new rfl rfl (buildOne row22 (y := .agg [iV x.1, .int .u64 (x.2 : Int)]) rfl (by rfl) ⟨_, rfl, rfl⟩ (by decide)) rfl (by kernel_rfl)).trans ?_
   refine (zStepD_new rfl rfl (append_firstG (nm := 2) row22 rfl rfl rfl rfl (by decide) (by decide)) rfl (by kernel_rfl)).trans ?_
   refine (zVD_v vMv_eq).trans <| zRet_app.trans ?_
   rfl
  ·have hne : l.length ≠ 0 := fun h => hz (List.eq_nil_of_length_eq_zero h)
   have ho : OwnM ((((H56 x) ++ List.replicate 3 AO.dead).set 1 .dead |>.set 2 (.row 55 [iV x.1, .int .u64 (x.2 : Int)] false)).set 3 (.row 55 (memC l ++ [iV x.1, .int .u64 (x.2 : Int)]) false)) (.own 3 0 (l.length + 1) 2) (insM gM x l) := by
    rw [hi]
    refine .inr ⟨by simp, 3, by simp, ?_⟩
    rw [memC_app]
    obtain ⟨s, n⟩ := x
    rfl
   refine fin _ _ [] (V56 x l f (iV l.length) v4' (.own 3 0 (l.length + 1) 2)) ho rfl ?_
   refine (front _ ?_).trans (show some (AV.own 3 0 (l.length + 1) 2, _) = _ from rfl)
   refine zqA <| zBlock_app.trans <| (e _ _ _).trans ?_
   rw [ifZ_eq, if_pos (by rfl)]
   unfold tail56 xtail56
   refine zqA <| zDreg_eq.trans ?_
   refine (zStepD_new rfl rfl (append_firstS row22 rfl rfl (memC_len l) (by omega) (by omega)) rfl (by kernel_rfl)).trans ?_
   refine (zLD_v (wLoad_loc rfl rfl (by simp) rfl) rfl (by kernel_rfl)).trans ?_
   refine (zStepD_new rfl rfl (buildOne row22 (y := .agg [iV x.1, .int .u64 (x.2 : Int)]) rfl (by rfl) ⟨_, rfl, rfl⟩ (by decide)) rfl (by kernel_rfl)).trans ?_
   refine (zStepD_app rfl rfl (append_nextG (nb := 1) (nm := 2) (n := l.length) row22 rfl rfl (memC_len l) rfl rfl (k := 1) rfl (by decide) (by omega)) rfl (by kernel_rfl)).trans ?_
   refine (zVD_v vMv_eq).trans <| zRet_app.trans ?_
   rfl
theorem set_same {α : Type} {l : List α} {j : Nat} {x : α} (h : l[j]? = some x) : l.set j x = l := by
 obtain ⟨hj, rfl⟩ := List.getElem?_eq_some_iff.1 h
 exact List.set_getElem_self hj
noncomputable def body57 (call : CallTT) : CZ := xbody57 E1 call
noncomputable def tail57 (call : CallTT) : CZ := xtail57 E1 call
def V57 (x : Cop) (l : List Cop) (f : Bool) (i v4 v5 : AV) : List AV := [copA x, i, .sl l.length (copC l) f, .loc 0 0, v4, v5]
def H57 (x : Cop) : Heap := [.row 59 [.str x.1, .int .u64 (x.2.1 : Int), .int .u64 (x.2.2 : Int)] false]
theorem loop57 (call : CallTT) (x : Cop) (l : List Cop) (f : Bool) (hl : l.length < 50000) :
  ∀ (d i q : Nat) (L : List AV) (v4 : AV), i + d = l.length → d < q →
  (∃ L' H' v1' v4' o, (∀ kn kx kr, zLoop q (body57 call) kn kx kr L (V57 x l f (iV i) v4 (.sl 0 [] true)) (rep (H57 x)) = kr L' (V57 x l f v1' v4' o) (rep H')) ∧ OwnC H' o (l.take i ++ insC gJ x (l.drop i))) ∨
  (∃ L' v4', (∀ kn kx kr, zLoop q (body57 call) kn kx kr L (V57 x l f (iV i) v4 (.sl 0 [] true)) (rep (H57 x)) = kx 0 L' (V57 x l f (iV l.length) v4' (.sl 0 [] true)) (rep (H57 x))) ∧ insC gJ x (l.drop i) = l.drop i ++ [x])
 | 0, i, q, L, v4, hi, hq => by
  obtain ⟨q', rfl⟩ : ∃ q', q = q' + 1 := ⟨q - 1, by omega⟩
  have hil : i = l.length := by omega
  subst hil
  refine .inr ⟨?_, v4, fun kn kx kr => ?_, by simp [insC]⟩
  rotate_left
  rw [zLoop_succ]
  unfold body57 xbody57
  refine zqA <| zqR <| (zP_v (vLenL_sl rfl)).trans <| (zP_v (vInt_eq fLss_ok rfl rfl (r := .bool false) (iLss (decide_eq_false (by omega))))).trans <| (zCond_eq (p := false) rfl).trans ?_
  rw [if_neg (by decide)]
  refine zExit_app.trans ?_
  rfl
 | d + 1, i, q, L, v4, hi, hq => by
  obtain ⟨q', rfl⟩ : ∃ q', q = q' + 1 := ⟨q - 1, by omega⟩
  have hlt : i < l.length := by omega
  obtain ⟨c, hs⟩ : ∃ c, l[i]? = some c := ⟨l[i], by simp [hlt]⟩
  have hw : IntKind.i64.wrap ((i : Int) + 1) = ((i + 1 : Nat) : Int) := by rw [IntKind.wrap_i64]; omega
  have hcl := copC_len l
  have hd : (copC l).drop (i * 3) = .str c.1 :: .int .u64 (c.2.1 : Int) :: .int .u64 (c.2.2 : Int) :: (copC l).drop (i * 3 + 3) := by
   obtain ⟨cs, cn, cm⟩ := c
   exact cop_drop l i cs cn cm hs
  have hdrop := drop_at hs
  cases he : (c.1 == x.1) with
  | true =>
   have hec : c.1 = x.1 := by simpa using he
   have hins : insC gJ x (l.drop i) = gJ c x :: l.drop (i + 1) := by rw [hdrop]; simp [insC, hec]
   have hset : l.take i ++ gJ c x :: l.drop (i + 1) = l.set i (gJ c x) := by rw [List.set_eq_take_append_cons_drop, if_pos hlt]
   rw [hins, hset]
   refine .inl ?_
   have out : ∀ (L' : List AV), (∀ kn kx kr, zLoop (q' + 1) (body57 call) kn kx kr L (V57 x l f (iV i) v4 (.sl 0 [] true)) (rep (H57 x)) = kr L' (V57 x l f (iV i) (.own 1 0 l.length 3) (.own 1 0 l.length 3)) (rep [.row 59 [.str x.1, .int .u64 (x.2.1 : Int), .int .u64 (x.2.2 : Int)] false, .row 59 (copC (l.set i (gJ c x))) false])) → ∃ L' H' v1' v4' o, (∀ kn kx kr, zLoop (q' + 1) (body57 call) kn kx kr L (V57 x l f (iV i) v4 (.sl 0 [] true)) (rep (H57 x)) = kr L' (V57 x l f v1' v4' o) (rep H')) ∧ OwnC H' o (l.set i (gJ c x)) := fun L' h =>
    ⟨L', [.row 59 [.str x.1, .int .u64 (x.2.1 : Int), .int .u64 (x.2.2 : Int)] false, .row 59 (copC (l.set i (gJ c x))) false], iV i, .own 1 0 l.length 3, .own 1 0 l.length 3, h, .inr ⟨fun h => by have h2 := congrArg List.length h; rw [List.length_set] at h2; simp only [List.length_nil] at h2; omega, 1, by simp, rfl⟩⟩
   by_cases g1 : x.2.1 > c.2.1
   ·have hlay := copC_set (x := x) hs
    rw [show gJ c x = x by unfold gJ; rw [if_pos (.inl g1)]] at out ⊢
    rw [← hlay] at out
    refine out ?_ fun kn kx kr => ?_
    rotate_left
    ·rw [zLoop_succ]
     unfold body57 xbody57
     refine zqA <| zqR <| (zP_v (vLenL_sl rfl)).trans <| (zP_v (vInt_eq fLss_ok rfl rfl (r := .bool true) (iLss (decide_eq_true (by omega))))).trans <| (zCond_eq (p := true) rfl).trans ?_
     rw [if_pos rfl]
     refine zqK <| zqA <| zBlock_app.trans <| zqA <| zqA <| zDreg_eq.trans <| (zPD_v (vIndexAddr_sl rfl rfl hlt (by omega))).trans ?_
     rw [hd]
     refine (zPD_v (vFieldAddr_ref rfl (by simp))).trans <| (zLD_idle (wLoad_ref rfl (by simp) rfl) rfl).trans <| (zPD_v (vFieldAddr_loc rfl)).trans <| (zLD_v (wLoad_loc rfl rfl (by simp) rfl) rfl (by kernel_rfl)).trans <| (zPD_v (vInt_bin rfl rfl (x := .bool true) (sEqlF he))).trans <| (zCond_eq (p := true) rfl).trans ?_
     rw [if_pos rfl]
     refine zqR ?_
     refine (zStep_newH rfl (append_firstS row23 rfl rfl (copC_len l) (by omega) (by omega))).trans ?_
     refine zqV <| zqA <| zqA <| zDreg_eq.trans <| (zPD_v (vFieldAddr_loc rfl)).trans <| (zLD_v (wLoad_loc rfl rfl (by simp) rfl) rfl (by kernel_rfl)).trans <| (zPD_v (vIndexAddr_sl rfl rfl hlt (by omega))).trans ?_
     rw [hd]
     refine (zPD_v (vFieldAddr_ref rfl (by simp))).trans <| (zLD_idle (wLoad_ref rfl (by simp) rfl) rfl).trans <| (zPD_v (vInt_eq fGtr_ok rfl rfl (r := .bool true) (iGtr (decide_eq_true (by omega))))).trans <| zqM rfl <| zqM rfl <| zqM rfl <| zqM rfl <| zqM rfl <| zqM rfl <| zqM rfl <| zqM rfl <| zqM rfl <| zqS rfl <| zqS rfl <| zqS rfl <| zqS rfl <| zqS rfl <| zqS rfl <| zqS rfl <| zqS rfl <| zqM rfl <| (zPD_v (vPick_eq (q := true) rfl)).trans <| (zCond_eq (p := true) rfl).trans ?_
     rw [if_pos rfl]
     refine zReg_eq.trans <| (zL_v (wLoad_loc rfl rfl (by simp) rfl)).trans <| (zP_v (vIndexAddr_own rfl rfl hlt)).trans <| (zStep_putH rfl (store_at (nm := 1) (vs := [.str x.1, .int .u64 (x.2.1 : Int), .int .u64 (x.2.2 : Int)]) ⟨_, rfl, rfl⟩ (by simp) rfl rfl rfl (by simp; omega))).trans <| zqR <| zqV <| zRet_app.trans ?_
     rw [show 0 + i * 3 = i * 3 by omega]
     rfl
   by_cases g2 : x.2.1 = c.2.1
   ·by_cases g3 : x.2.2 > c.2.2
    ·have hlay := copC_set (x := x) hs
     rw [show gJ c x = x by unfold gJ; rw [if_pos (.inr ⟨g2, g3⟩)]] at out ⊢
     rw [← hlay] at out
     refine out ?_ fun kn kx kr => ?_
     rotate_left
     ·rw [zLoop_succ]
      unfold body57 xbody57
      refine zqA <| zqR <| (zP_v (vLenL_sl rfl)).trans <| (zP_v (vInt_eq fLss_ok rfl rfl (r := .bool true) (iLss (decide_eq_true (by omega))))).trans <| (zCond_eq (p := true) rfl).trans ?_
      rw [if_pos rfl]
      refine zqK <| zqA <| zBlock_app.trans <| zqA <| zqA <| zDreg_eq.trans <| (zPD_v (vIndexAddr_sl rfl rfl hlt (by omega))).trans ?_
      rw [hd]
      refine (zPD_v (vFieldAddr_ref rfl (by simp))).trans <| (zLD_idle (wLoad_ref rfl (by simp) rfl) rfl).trans <| (zPD_v (vFieldAddr_loc rfl)).trans <| (zLD_v (wLoad_loc rfl rfl (by simp) rfl) rfl (by kernel_rfl)).trans <| (zPD_v (vInt_bin rfl rfl (x := .bool true) (sEqlF he))).trans <| (zCond_eq (p := true) rfl).trans ?_
      rw [if_pos rfl]
      refine zqR ?_
      refine (zStep_newH rfl (append_firstS row23 rfl rfl (copC_len l) (by omega) (by omega))).trans ?_
      refine zqV <| zqA <| zqA <| zDreg_eq.trans <| (zPD_v (vFieldAddr_loc rfl)).trans <| (zLD_v (wLoad_loc rfl rfl (by simp) rfl) rfl (by kernel_rfl)).trans <| (zPD_v (vIndexAddr_sl rfl rfl hlt (by omega))).trans ?_
      rw [hd]
      refine (zPD_v (vFieldAddr_ref rfl (by simp))).trans <| (zLD_idle (wLoad_ref rfl (by simp) rfl) rfl).trans <| (zPD_v (vInt_eq fGtr_ok rfl rfl (r := .bool false) (iGtr (decide_eq_false (by omega))))).trans <| zqH rfl <| (zPD_v (vFieldAddr_loc rfl)).trans <| zqH rfl <| (zLD_v (wLoad_loc rfl rfl (by simp) rfl) rfl (by kernel_rfl)).trans <| zqH rfl <| (zPD_v vMv_eq).trans <| zqH rfl <| (zPD_v vMv_eq).trans <| zqH rfl <| (zPD_v (vIndexAddr_sl rfl rfl hlt (by omega))).trans ?_
      rw [hd]
      refine zqH rfl <| (zPD_v (vFieldAddr_ref rfl (by simp))).trans <| zqH rfl <| (zLD_idle (wLoad_ref rfl (by simp) rfl) rfl).trans <| zqH rfl <| (zPD_v (vInt_eq fEql_ok rfl rfl (r := .bool true) (iEql (decide_eq_true (by omega))))).trans <| zqH rfl <| (zPD_v vMv_eq).trans <| zqH rfl <| (zPD_v (vFieldAddr_loc rfl)).trans <| zqH rfl <| (zLD_v (wLoad_loc rfl rfl (by simp) rfl) rfl (by kernel_rfl)).trans <| zqH rfl <| (zPD_v vMv_eq).trans <| zqH rfl <| (zPD_v vMv_eq).trans <| zqH rfl <| (zPD_v (vIndexAddr_sl rfl rfl hlt (by omega))).trans ?_
      rw [hd]
      refine zqH rfl <| (zPD_v (vFieldAddr_ref rfl (by simp))).trans <| zqH rfl <| (zLD_idle (wLoad_ref rfl (by simp) rfl) rfl).trans <| zqH rfl <| (zPD_v (vInt_eq fGtr_ok rfl rfl (r := .bool true) (iGtr (decide_eq_true (by omega))))).trans <| zqH rfl <| (zPD_v (vPick_eq (q := true) rfl)).trans <| (zPD_v (vPick_eq (q := false) rfl)).trans <| (zCond_eq (p := true) rfl).trans ?_
      rw [if_pos rfl]
      refine zReg_eq.trans <| (zL_v (wLoad_loc rfl rfl (by simp) rfl)).trans <| (zP_v (vIndexAddr_own rfl rfl hlt)).trans <| (zStep_putH rfl (store_at (nm := 1) (vs := [.str x.1, .int .u64 (x.2.1 : Int), .int .u64 (x.2.2 : Int)]) ⟨_, rfl, rfl⟩ (by simp) rfl rfl rfl (by simp; omega))).trans <| zqR <| zqV <| zRet_app.trans ?_
      rw [show 0 + i * 3 = i * 3 by omega]
      rfl
    ·rw [show gJ c x = c by unfold gJ; rw [if_neg (by omega)], set_same hs] at out ⊢
     refine out ?_ fun kn kx kr => ?_
     rotate_left
     ·rw [zLoop_succ]
      unfold body57 xbody57
      refine zqA <| zqR <| (zP_v (vLenL_sl rfl)).trans <| (zP_v (vInt_eq fLss_ok rfl rfl (r := .bool true) (iLss (decide_eq_true (by omega))))).trans <| (zCond_eq (p := true) rfl).trans ?_
      rw [if_pos rfl]
      refine zqK <| zqA <| zBlock_app.trans <| zqA <| zqA <| zDreg_eq.trans <| (zPD_v (vIndexAddr_sl rfl rfl hlt (by omega))).trans ?_
      rw [hd]
      refine (zPD_v (vFieldAddr_ref rfl (by simp))).trans <| (zLD_idle (wLoad_ref rfl (by simp) rfl) rfl).trans <| (zPD_v (vFieldAddr_loc rfl)).trans <| (zLD_v (wLoad_loc rfl rfl (by simp) rfl) rfl (by kernel_rfl)).trans <| (zPD_v (vInt_bin rfl rfl (x := .bool true) (sEqlF he))).trans <| (zCond_eq (p := true) rfl).trans ?_
      rw [if_pos rfl]
      refine zqR ?_
      refine (zStep_newH rfl (append_firstS row23 rfl rfl (copC_len l) (by omega) (by omega))).trans ?_
      refine zqV <| zqA <| zqA <| zDreg_eq.trans <| (zPD_v (vFieldAddr_loc rfl)).trans <| (zLD_v (wLoad_loc rfl rfl (by simp) rfl) rfl (by kernel_rfl)).trans <| (zPD_v (vIndexAddr_sl rfl rfl hlt (by omega))).trans ?_
      rw [hd]
      refine (zPD_v (vFieldAddr_ref rfl (by simp))).trans <| (zLD_idle (wLoad_ref rfl (by simp) rfl) rfl).trans <| (zPD_v (vInt_eq fGtr_ok rfl rfl (r := .bool false) (iGtr (decide_eq_false (by omega))))).trans <| zqH rfl <| (zPD_v (vFieldAddr_loc rfl)).trans <| zqH rfl <| (zLD_v (wLoad_loc rfl rfl (by simp) rfl) rfl (by kernel_rfl)).trans <| zqH rfl <| (zPD_v vMv_eq).trans <| zqH rfl <| (zPD_v vMv_eq).trans <| zqH rfl <| (zPD_v (vIndexAddr_sl rfl rfl hlt (by omega))).trans ?_
      rw [hd]
      refine zqH rfl <| (zPD_v (vFieldAddr_ref rfl (by simp))).trans <| zqH rfl <| (zLD_idle (wLoad_ref rfl (by simp) rfl) rfl).trans <| zqH rfl <| (zPD_v (vInt_eq fEql_ok rfl rfl (r := .bool true) (iEql (decide_eq_true (by omega))))).trans <| zqH rfl <| (zPD_v vMv_eq).trans <| zqH rfl <| (zPD_v (vFieldAddr_loc rfl)).trans <| zqH rfl <| (zLD_v (wLoad_loc rfl rfl (by simp) rfl) rfl (by kernel_rfl)).trans <| zqH rfl <| (zPD_v vMv_eq).trans <| zqH rfl <| (zPD_v vMv_eq).trans <| zqH rfl <| (zPD_v (vIndexAddr_sl rfl rfl hlt (by omega))).trans ?_
      rw [hd]
      refine zqH rfl <| (zPD_v (vFieldAddr_ref rfl (by simp))).trans <| zqH rfl <| (zLD_idle (wLoad_ref rfl (by simp) rfl) rfl).trans <| zqH rfl <| (zPD_v (vInt_eq fGtr_ok rfl rfl (r := .bool false) (iGtr (decide_eq_false (by omega))))).trans <| zqH rfl <| (zPD_v (vPick_eq (q := true) rfl)).trans <| (zPD_v (vPick_eq (q := false) rfl)).trans <| (zCond_eq (p := false) rfl).trans ?_
      rw [if_neg (by decide)]
      refine zqK <| zqR <| zqV <| zRet_app.trans ?_
      rfl
   ·rw [show gJ c x = c by unfold gJ; rw [if_neg (by omega)], set_same hs] at out ⊢
    refine out ?_ fun kn kx kr => ?_
    rotate_left
    ·rw [zLoop_succ]
     unfold body57 xbody57
     refine zqA <| zqR <| (zP_v (vLenL_sl rfl)).trans <| (zP_v (vInt_eq fLss_ok rfl rfl (r := .bool true) (iLss (decide_eq_true (by omega))))).trans <| (zCond_eq (p := true) rfl).trans ?_
     rw [if_pos rfl]
     refine zqK <| zqA <| zBlock_app.trans <| zqA <| zqA <| zDreg_eq.trans <| (zPD_v (vIndexAddr_sl rfl rfl hlt (by omega))).trans ?_
     rw [hd]
     refine (zPD_v (vFieldAddr_ref rfl (by simp))).trans <| (zLD_idle (wLoad_ref rfl (by simp) rfl) rfl).trans <| (zPD_v (vFieldAddr_loc rfl)).trans <| (zLD_v (wLoad_loc rfl rfl (by simp) rfl) rfl (by kernel_rfl)).trans <| (zPD_v (vInt_bin rfl rfl (x := .bool true) (sEqlF he))).trans <| (zCond_eq (p := true) rfl).trans ?_
     rw [if_pos rfl]
     refine zqR ?_
     refine (zStep_newH rfl (append_firstS row23 rfl rfl (copC_len l) (by omega) (by omega))).trans ?_
     refine zqV <| zqA <| zqA <| zDreg_eq.trans <| (zPD_v (vFieldAddr_loc rfl)).trans <| (zLD_v (wLoad_loc rfl rfl (by simp) rfl) rfl (by kernel_rfl)).trans <| (zPD_v (vIndexAddr_sl rfl rfl hlt (by omega))).trans ?_
     rw [hd]
     refine (zPD_v (vFieldAddr_ref rfl (by simp))).trans <| (zLD_idle (wLoad_ref rfl (by simp) rfl) rfl).trans <| (zPD_v (vInt_eq fGtr_ok rfl rfl (r := .bool false) (iGtr (decide_eq_false (by omega))))).trans <| zqH rfl <| (zPD_v (vFieldAddr_loc rfl)).trans <| zqH rfl <| (zLD_v (wLoad_loc rfl rfl (by simp) rfl) rfl (by kernel_rfl)).trans <| zqH rfl <| (zPD_v vMv_eq).trans <| zqH rfl <| (zPD_v vMv_eq).trans <| zqH rfl <| (zPD_v (vIndexAddr_sl rfl rfl hlt (by omega))).trans ?_
     rw [hd]
     refine zqH rfl <| (zPD_v (vFieldAddr_ref rfl (by simp))).trans <| zqH rfl <| (zLD_idle (wLoad_ref rfl (by simp) rfl) rfl).trans <| zqH rfl <| (zPD_v (vInt_eq fEql_ok rfl rfl (r := .bool false) (iEql (decide_eq_false (by omega))))).trans <| zqH rfl <| (zPD_v vMv_eq).trans <| zqM rfl <| zqM rfl <| zqM rfl <| zqM rfl <| zqM rfl <| zqM rfl <| zqM rfl <| zqM rfl <| zqH rfl <| (zPD_v (vPick_eq (q := false) rfl)).trans <| (zPD_v (vPick_eq (q := false) rfl)).trans <| (zCond_eq (p := false) rfl).trans ?_
     rw [if_neg (by decide)]
     refine zqK <| zqR <| zqV <| zRet_app.trans ?_
     rfl
  | false =>
   have hn : ¬ c.1 = x.1 := by simpa using he
   cases hgt : lessN x.1 c.1 with
   | true =>
    have hg : lessN x.1 c.1 = true := hgt
    have hins : insC gJ x (l.drop i) = x :: l.drop i := by rw [hdrop]; simp [insC, hn, hgt]
    rw [hins]
    have htd : copC (l.take i ++ x :: l.drop i) = (copC l).take (i * 3) ++ [.str x.1, .int .u64 (x.2.1 : Int), .int .u64 (x.2.2 : Int)] ++ (copC l).drop (i * 3) := by
     rw [copC_app, copC_take, copC_drop]
     obtain ⟨s, n, m⟩ := x
     simp [copC]
    by_cases hz : i = 0
    ·subst hz
     have hk : ((H57 x) ++ List.replicate 4 AO.dead).length = 5 := rfl
     refine .inl ⟨?_, ((((H57 x) ++ List.replicate 4 AO.dead).set 2 (.row 59 [.str x.1, .int .u64 (x.2.1 : Int), .int .u64 (x.2.2 : Int)] false)).set 3 .dead).set 4 (.row 59 ([.str x.1, .int .u64 (x.2.1 : Int), .int .u64 (x.2.2 : Int)] ++ copC l) false), iV (0 : Nat), v4, .own 4 0 (1 + (l.length - 0)) 3, fun kn kx kr => ?_, .inr ⟨by simp, 4, by simp; omega, ?_⟩⟩
     rotate_left
     ·rw [zLoop_succ]
      unfold body57 xbody57
      refine zqA <| zqR <| (zP_v (vLenL_sl rfl)).trans <| (zP_v (vInt_eq fLss_ok rfl rfl (r := .bool true) (iLss (decide_eq_true (by omega))))).trans <| (zCond_eq (p := true) rfl).trans ?_
      rw [if_pos rfl]
      refine zqK <| zqA <| zBlock_app.trans <| zqA <| zqA <| zDreg_eq.trans <| (zPD_v (vIndexAddr_sl rfl rfl hlt (by omega))).trans ?_
      rw [hd]
      refine (zPD_v (vFieldAddr_ref rfl (by simp))).trans <| (zLD_idle (wLoad_ref rfl (by simp) rfl) rfl).trans <| (zPD_v (vFieldAddr_loc rfl)).trans <| (zLD_v (wLoad_loc rfl rfl (by simp) rfl) rfl (by kernel_rfl)).trans <| (zPD_v (vInt_bin rfl rfl (x := .bool false) (sEqlF he))).trans <| (zCond_eq (p := false) rfl).trans ?_
      rw [if_neg (by decide)]
      refine zqK <| zqA <| zDreg_eq.trans <| (zPD_v (vIndexAddr_sl rfl rfl hlt (by omega))).trans ?_
      rw [hd]
      refine (zPD_v (vFieldAddr_ref rfl (by simp))).trans <| (zLD_idle (wLoad_ref rfl (by simp) rfl) rfl).trans <| (zPD_v (vFieldAddr_loc rfl)).trans <| (zLD_v (wLoad_loc rfl rfl (by simp) rfl) rfl (by kernel_rfl)).trans <| (zPD_v (vInt_bin rfl rfl (x := .bool true) (sGtr hn hg))).trans <| (zCond_eq (p := true) rfl).trans ?_
      rw [if_pos rfl]
      refine zqA <| zDreg_eq.trans <| (zStepD_val rfl (slice_sl_hi row23 (h := 0) rfl rfl (copC_len l) (by omega)) rfl).trans <| (zStepD_val rfl (append_nilS row23 rfl (.inl rfl) rfl (by simp)) rfl).trans <| (zLD_v (wLoad_loc rfl rfl (by simp) rfl) rfl (by kernel_rfl)).trans ?_
      refine (zStepD_new rfl rfl (buildOne row23 (y := .agg [.str x.1, .int .u64 (x.2.1 : Int), .int .u64 (x.2.2 : Int)]) rfl (by rfl) ⟨_, rfl, rfl⟩ (by decide)) rfl (by kernel_rfl)).trans ?_
      refine (zStepD_new rfl rfl (append_firstG (nm := 2) row23 rfl rfl rfl rfl (by decide) (by decide)) rfl (by kernel_rfl)).trans ?_
      refine (zStepD_val rfl (slice_sl_lo row23 (h := 0) rfl rfl (copC_len l) (by omega)) rfl).trans ?_
      refine (zStepD_app rfl rfl (append_nextS (nb := 3) (n := 1) row23 rfl rfl rfl rfl (by simp [copC_len]) (by omega) (by omega)) rfl (by kernel_rfl)).trans ?_
      refine (zVD_v vMv_eq).trans <| zRet_app.trans ?_
      rfl
     ·rw [htd]; rfl
    ·obtain ⟨R, hR⟩ : ∃ R, R = ((copC l).take (i * 3) ++ ([.str x.1, .int .u64 (x.2.1 : Int), .int .u64 (x.2.2 : Int)] : List AV)) ++ (copC l).drop (i * 3) := ⟨_, rfl⟩
     refine .inl ⟨?_, (((((H57 x) ++ List.replicate 4 AO.dead).set 1 .dead).set 2 (.row 59 [.str x.1, .int .u64 (x.2.1 : Int), .int .u64 (x.2.2 : Int)] false)).set 3 .dead).set 4 (.row 59 R false), iV i, v4, .own 4 0 (i + 1 + (l.length - i)) 3, fun kn kx kr => ?_, .inr ⟨by simp, 4, by simp; omega, ?_⟩⟩
     rotate_left
     ·rw [zLoop_succ]
      unfold body57 xbody57
      refine zqA <| zqR <| (zP_v (vLenL_sl rfl)).trans <| (zP_v (vInt_eq fLss_ok rfl rfl (r := .bool true) (iLss (decide_eq_true (by omega))))).trans <| (zCond_eq (p := true) rfl).trans ?_
      rw [if_pos rfl]
      refine zqK <| zqA <| zBlock_app.trans <| zqA <| zqA <| zDreg_eq.trans <| (zPD_v (vIndexAddr_sl rfl rfl hlt (by omega))).trans ?_
      rw [hd]
      refine (zPD_v (vFieldAddr_ref rfl (by simp))).trans <| (zLD_idle (wLoad_ref rfl (by simp) rfl) rfl).trans <| (zPD_v (vFieldAddr_loc rfl)).trans <| (zLD_v (wLoad_loc rfl rfl (by simp) rfl) rfl (by kernel_rfl)).trans <| (zPD_v (vInt_bin rfl rfl (x := .bool false) (sEqlF he))).trans <| (zCond_eq (p := false) rfl).trans ?_
      rw [if_neg (by decide)]
      refine zqK <| zqA <| zDreg_eq.trans <| (zPD_v (vIndexAddr_sl rfl rfl hlt (by omega))).trans ?_
      rw [hd]
      refine (zPD_v (vFieldAddr_ref rfl (by simp))).trans <| (zLD_idle (wLoad_ref rfl (by simp) rfl) rfl).trans <| (zPD_v (vFieldAddr_loc rfl)).trans <| (zLD_v (wLoad_loc rfl rfl (by simp) rfl) rfl (by kernel_rfl)).trans <| (zPD_v (vInt_bin rfl rfl (x := .bool true) (sGtr hn hg))).trans <| (zCond_eq (p := true) rfl).trans ?_
      rw [if_pos rfl]
      refine zqA <| zDreg_eq.trans <| (zStepD_val rfl (slice_sl_hi row23 (h := i) rfl rfl (copC_len l) (by omega)) rfl).trans ?_
      refine (zStepD_new rfl rfl (append_firstS row23 rfl rfl (by simp [copC_len]; omega) (by omega) (by omega)) rfl (by kernel_rfl)).trans ?_
      refine (zLD_v (wLoad_loc rfl rfl (by simp) rfl) rfl (by kernel_rfl)).trans ?_
      refine (zStepD_new rfl rfl (buildOne row23 (y := .agg [.str x.1, .int .u64 (x.2.1 : Int), .int .u64 (x.2.2 : Int)]) rfl (by rfl) ⟨_, rfl, rfl⟩ (by decide)) rfl (by kernel_rfl)).trans ?_
      refine (zStepD_app rfl rfl (append_nextG (nb := 1) (nm := 2) (n := i) row23 rfl rfl (by simp [copC_len]; omega) rfl rfl (k := 1) rfl (by decide) (by omega)) rfl (by kernel_rfl)).trans ?_
      refine (zStepD_val rfl (slice_sl_lo row23 (h := i) rfl rfl (copC_len l) (by omega)) rfl).trans ?_
      refine (zStepD_app rfl rfl (append_nextS (nb := 3) (n := i + 1) row23 rfl rfl (by simp [copC_len, cellsOf]; omega) rfl (by simp [copC_len]; omega) (by omega) (by omega)) rfl (by kernel_rfl)).trans ?_
      refine (zVD_v vMv_eq).trans <| zRet_app.trans ?_
      rw [hR]
      rfl
     ·rw [htd, ← hR]; rfl
   | false =>
    have hg : lessN x.1 c.1 = false := hgt
    have hins : insC gJ x (l.drop i) = c :: insC gJ x (l.drop (i + 1)) := by rw [hdrop]; simp [insC, hn, hgt]
    have next : ∀ kn kx kr, zLoop (q' + 1) (body57 call) kn kx kr L (V57 x l f (iV i) v4 (.sl 0 [] true)) (rep (H57 x)) = zLoop q' (body57 call) kn kx kr [.int .i64 ((i + 1 : Nat) : Int), iV i] (V57 x l f (iV (i + 1 : Nat)) v4 (.sl 0 [] true)) (rep (H57 x)) := fun kn kx kr => by
     rw [zLoop_succ]
     conv => lhs; unfold body57 xbody57
     refine zqA <| zqR <| (zP_v (vLenL_sl rfl)).trans <| (zP_v (vInt_eq fLss_ok rfl rfl (r := .bool true) (iLss (decide_eq_true (by omega))))).trans <| (zCond_eq (p := true) rfl).trans ?_
     rw [if_pos rfl]
     refine zqK <| zqA <| zBlock_app.trans <| zqA <| zqA <| zDreg_eq.trans <| (zPD_v (vIndexAddr_sl rfl rfl hlt (by omega))).trans ?_
     rw [hd]
     refine (zPD_v (vFieldAddr_ref rfl (by simp))).trans <| (zLD_idle (wLoad_ref rfl (by simp) rfl) rfl).trans <| (zPD_v (vFieldAddr_loc rfl)).trans <| (zLD_v (wLoad_loc rfl rfl (by simp) rfl) rfl (by kernel_rfl)).trans <| (zPD_v (vInt_bin rfl rfl (x := .bool false) (sEqlF he))).trans <| (zCond_eq (p := false) rfl).trans ?_
     rw [if_neg (by decide)]
     refine zqK <| zqA <| zDreg_eq.trans <| (zPD_v (vIndexAddr_sl rfl rfl hlt (by omega))).trans ?_
     rw [hd]
     refine (zPD_v (vFieldAddr_ref rfl (by simp))).trans <| (zLD_idle (wLoad_ref rfl (by simp) rfl) rfl).trans <| (zPD_v (vFieldAddr_loc rfl)).trans <| (zLD_v (wLoad_loc rfl rfl (by simp) rfl) rfl (by kernel_rfl)).trans <| (zPD_v (vInt_bin rfl rfl (x := .bool false) (sGtr hn hg))).trans <| (zCond_eq (p := false) rfl).trans ?_
     rw [if_neg (by decide)]
     refine zqK <| zReg_eq.trans <| (zP_v vMv_eq).trans <| (zP_v (vInt_eq fAdd_ok rfl rfl rfl)).trans ?_
     rw [hw]
     refine zqV ?_
     rfl
    rcases loop57 call x l f hl d (i + 1) q' [.int .i64 ((i + 1 : Nat) : Int), iV i] v4 (by omega) (by omega) with ⟨L', H', v1', v4', o, e, ho⟩ | ⟨L', v4', e, hi2⟩
    ·exact .inl ⟨L', H', v1', v4', o, fun kn kx kr => (next kn kx kr).trans (e kn kx kr), by rw [hins, ← take_ins hs]; exact ho⟩
    ·exact .inr ⟨L', v4', fun kn kx kr => (next kn kx kr).trans (e kn kx kr), by rw [hins, hi2, hdrop]; rfl⟩
theorem c57 {k : Nat} (Y : YE) (T : TH) (x : Cop) (l : List Cop) (f : Bool) (hl : l.length < 50000) (hk : l.length < k) :
  ∃ fo, CY (k + 1) Y (.func 57) [.sl l.length (copC l) f, copA x] T = some (.sl (insC gJ x l).length (copC (insC gJ x l)) fo, T, ⟨[], [], false⟩) := by
 have e0 : ∀ q, bodyZ E1 (CY k) [] q (G57 E1) [.sl l.length (copC l) f, copA x] (rep []) = (G57 E1).z (CY k) [] q (finZ E1 [.tmp (.v 5)]) (fun _ _ _ _ => none) (finZ E1 [.tmp (.v 5)]) [] [copA x, .undef, .sl l.length (copC l) f, .undef, .undef, .undef] (rep []) := by intro q; kernel_rfl
 have front : ∀ r : AV × TH, (zSeq (zBlock 0 (zLoop k (body57 (CY k [])))) (tail57 (CY k []))) (finZ E1 [.tmp (.v 5)]) (fun _ _ _ _ => none) (finZ E1 [.tmp (.v 5)]) [] (V57 x l f (iV (0 : Nat)) .undef (.sl 0 [] true)) (rep (H57 x)) = some r → bodyZ E1 (CY k) [] k (G57 E1) [.sl l.length (copC l) f, copA x] (rep []) = some r := fun r hh => by
  refine (e0 _).trans ?_
  unfold G57
  dsimp only
  refine zqR ?_
  refine (zStep_newH rfl (box59 (x := .str x.1) (y := .int .u64 (x.2.1 : Int)) (z := .int .u64 (x.2.2 : Int)) rfl)).trans ?_
  refine zqV <| zqA <| zqA <| zReg_eq.trans <| zqV ?_
  exact hh
 have fin : ∀ (H' : Heap) (o : AV) (L V : List AV), OwnC H' o (insC gJ x l) → (finZ E1 [.tmp (.v 5)] L V (rep H') = some (o, rep H')) → bodyZ E1 (CY k) [] k (G57 E1) [.sl l.length (copC l) f, copA x] (rep []) = finZ E1 [.tmp (.v 5)] L V (rep H') → ∃ fo, CY (k + 1) Y (.func 57) [.sl l.length (copC l) f, copA x] T = some (.sl (insC gJ x l).length (copC (insC gJ x l)) fo, T, ⟨[], [], false⟩) := fun H' o L V ho hv hb => by
  obtain ⟨fo, ns, hz⟩ := fzC ho
  refine ⟨fo, call_nomark (zf := G57 E1) (r := o) (T2 := rep H') rfl rfl (fun _ => rfl) (hb.trans hv) hz⟩
 rcases loop57 (CY k []) x l f hl l.length 0 k [] .undef (by omega) hk with ⟨L', H', v1', v4', o, e, ho⟩ | ⟨L', v4', e, hi⟩
 ·simp only [List.take_zero, List.drop_zero, List.nil_append] at ho
  refine fin H' o L' (V57 x l f v1' v4' o) ho rfl ?_
  have : finZ E1 [.tmp (.v 5)] L' (V57 x l f v1' v4' o) (rep H') = some (o, rep H') := rfl
  rw [this]
  refine front _ ?_
  refine zqA <| zBlock_app.trans ?_
  exact e _ _ _
 ·rw [List.drop_zero] at hi
  by_cases hz : l = []
  ·subst hz
   have ho : OwnC (((H57 x) ++ List.replicate 3 AO.dead).set 2 (.row 59 [.str x.1, .int .u64 (x.2.1 : Int), .int .u64 (x.2.2 : Int)] false) |>.set 3 (.row 59 [.str x.1, .int .u64 (x.2.1 : Int), .int .u64 (x.2.2 : Int)] false)) (.own 3 0 1 3) (insC gJ x []) := .inr ⟨by simp [insC], 3, by simp [insC], by
    obtain ⟨s, n, m⟩ := x
    rfl⟩
   refine fin _ _ [] (V57 x [] f (iV (0 : Nat)) v4' (.own 3 0 1 3)) ho rfl ?_
   refine (front _ ?_).trans (show some (AV.own 3 0 1 3, _) = _ from rfl)
   refine zqA <| zBlock_app.trans <| (e _ _ _).trans ?_
   rw [ifZ_eq, if_pos (by rfl)]
   unfold tail57 xtail57
   refine zqA <| zDreg_eq.trans <| (zStepD_val rfl (append_nilS row23 rfl (.inl rfl) rfl rfl) rfl).trans <| (zLD_v (wLoad_loc rfl rfl (by simp) rfl) rfl (by kernel_rfl)).trans ?_
   refine (zStepD_new rfl rfl (buildOne row23 (y := .agg [.str x.1, .int .u64 (x.2.1 : Int), .int .u64 (x.2.2 : Int)]) rfl (by rfl) ⟨_, rfl, rfl⟩ (by decide)) rfl (by kernel_rfl)).trans ?_
   refine (zStepD_new rfl rfl (append_firstG (nm := 2) row23 rfl rfl rfl rfl (by decide) (by decide)) rfl (by kernel_rfl)).trans ?_
   refine (zVD_v vMv_eq).trans <| zRet_app.trans ?_
   rfl
  ·have hne : l.length ≠ 0 := fun h => hz (List.eq_nil_of_length_eq_zero h)
   have ho : OwnC ((((H57 x) ++ List.replicate 3 AO.dead).set 1 .dead |>.set 2 (.row 59 [.str x.1, .int .u64 (x.2.1 : Int), .int .u64 (x.2.2 : Int)] false)).set 3 (.row 59 (copC l ++ [.str x.1, .int .u64 (x.2.1 : Int), .int .u64 (x.2.2 : Int)]) false)) (.own 3 0 (l.length + 1) 3) (insC gJ x l) := by
    rw [hi]
    refine .inr ⟨by simp, 3, by simp, ?_⟩
    rw [copC_app]
    obtain ⟨s, n, m⟩ := x
    rfl
   refine fin _ _ [] (V57 x l f (iV l.length) v4' (.own 3 0 (l.length + 1) 3)) ho rfl ?_
   refine (front _ ?_).trans (show some (AV.own 3 0 (l.length + 1) 3, _) = _ from rfl)
   refine zqA <| zBlock_app.trans <| (e _ _ _).trans ?_
   rw [ifZ_eq, if_pos (by rfl)]
   unfold tail57 xtail57
   refine zqA <| zDreg_eq.trans ?_
   refine (zStepD_new rfl rfl (append_firstS row23 rfl rfl (copC_len l) (by omega) (by omega)) rfl (by kernel_rfl)).trans ?_
   refine (zLD_v (wLoad_loc rfl rfl (by simp) rfl) rfl (by kernel_rfl)).trans ?_
   refine (zStepD_new rfl rfl (buildOne row23 (y := .agg [.str x.1, .int .u64 (x.2.1 : Int), .int .u64 (x.2.2 : Int)]) rfl (by rfl) ⟨_, rfl, rfl⟩ (by decide)) rfl (by kernel_rfl)).trans ?_
   refine (zStepD_app rfl rfl (append_nextG (nb := 1) (nm := 2) (n := l.length) row23 rfl rfl (copC_len l) rfl rfl (k := 1) rfl (by decide) (by omega)) rfl (by kernel_rfl)).trans ?_
   refine (zVD_v vMv_eq).trans <| zRet_app.trans ?_
   rfl
end Go.Proofs.PxV2
