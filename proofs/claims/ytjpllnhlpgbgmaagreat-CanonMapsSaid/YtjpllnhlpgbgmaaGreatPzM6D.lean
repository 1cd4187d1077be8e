/- Canon: two rows of entries merged (walks by zauto). -/
import Derived.Test.YtjpllnhlpgbgmaaGreatPzM6C
import Derived.Test.YtjpllnhlpgbgmaaGreatPb4
set_option linter.unusedVariables false
set_option linter.unusedSimpArgs false
set_option maxRecDepth 100000
namespace Go.Proofs.PxM6
open Go Go.Px Go.Proofs
theorem c158 {k : Nat} (Y : YE) (T : TH) (s t : List Nat) : CY (k + 1) Y (.func 158) [.str s, .str t] T = some (.int .i64 (cmpN s t), T, ⟨[], [], false⟩) := by
 refine call_go (zf := G158 E1) rfl rfl (fun _ => rfl) (fun _ => rfl) ?_
 unfold G158
 dsimp only
 refine zpR <| st (zV_v (vMv_q rfl)) <| zpR <| st (zS_toldV rfl rfl rfl rfl) <| st (zV_v (vMv_q rfl)) <| st zRet_app ?_
 exact ends_fz rfl
theorem c143 {k : Nat} (Y : YE) (T : TH) (s t : List Nat) : CY (k + 2) Y (.func 143) [.str s, .str t] T = some (.int .i64 (cmpN s t), T, ⟨[], [], false⟩) := by
 refine call_go (zf := G143 E1) rfl rfl (fun _ => rfl) (fun _ => rfl) ?_
 unfold G143
 dsimp only
 refine zpR <| st (zV_v (vMv_q rfl)) <| zpR <| st (cP_call rfl (c158 _ _ _ _)) <| st (zV_v (vMv_q rfl)) <| st zRet_app ?_
 exact ends_fz rfl
theorem blt_self (a : Nat) : Nat.blt a a = false := by
 cases h : Nat.blt a a with
 | false => rfl
 | true => rw [Nat.blt_eq] at h; omega
theorem less_irrefl : ∀ (a : List Nat), lessN a a = false
 | [] => rfl
 | a :: x => by simp [lessN, less_irrefl x, blt_self]
theorem cmpN_lt (a b : List Nat) : (cmpN a b < 0) ↔ lessN a b = true := by
 unfold cmpN
 by_cases h : (a == b) = true
 ·rw [if_pos h]
  have : a = b := by simpa using h
  subst this
  simp [less_irrefl]
 ·rw [if_neg h]
  by_cases h2 : lessN a b = true
  ·rw [if_pos h2]; simp [h2]
  ·rw [if_neg h2]; simp [h2]
abbrev Mrg := Ent × Option (List Nat)
def mO : Option (List Nat) → AV
 | none => .nilptr
 | some l => .ref (numC l)
def mE (x : Mrg) : AV := .agg [.str x.1.1, .ref (numC x.1.2), mO x.2]
def mergeE : List Ent → List Ent → List Mrg
 | [], b => b.map fun y => (y, none)
 | x :: a, [] => (x, none) :: mergeE a []
 | x :: a, y :: b => if lessN x.1 y.1 then (x, none) :: mergeE a (y :: b) else if lessN y.1 x.1 then (y, none) :: mergeE (x :: a) b else (x, some y.2) :: mergeE a b
 termination_by a b => a.length + b.length
noncomputable def body157 (call : CallTT) : CZ := (zSeq (zSeq (zReg fun k => (zL 1 false (.v 0)) ((zP (vLenL (.l 0))) ((zP (vInt E1 fGtr .gtr 3 false true (.l 0) (.k (.int .i64 0)))) ((zG (.l 0) false .push (zL 1 false (.v 1))) ((zG (.l 1) false .push (zP (vLenL (.l 0)))) ((zG (.l 2) false .push (zP (vInt E1 fGtr .gtr 3 false true (.l 0) (.k (.int .i64 0))))) ((zP (vPick (.l 3) (.k (.bool true)) (.l 0))) k)))))))
 (zCond (.l 0) zSkip (zExit 0)))
 (zBlock 1 (zSeq (zReg fun k => (zStep E1 call ⟨.alloc 163, (.var 3), none, false, 0, (some 0)⟩) k)
 (zSeq (zBlock 2 (zSeq (zDreg 1 fun n0 k => (zLD B51 0 1 false (.v 1)) ((zPD (vLenL (.l 0))) ((zPD (vInt E1 fEql .eql 3 false true (.l 0) (.k (.int .i64 0)))) ((zGD (.l 0) false .push (zLD B51 4 1 false (.v 0))) ((zGD (.l 1) false .push (zPD (vLenL (.l 0)))) ((zGD (.l 2) false .push (zPD (vInt E1 fGtr .gtr 3 false true (.l 0) (.k (.int .i64 0))))) ((zGD (.l 3) false .push (zPD (vMv (.l 0)))) ((zGD (.l 0) true .push (zLD B51 8 1 false (.v 2))) ((zGD (.l 1) true .push (zLD B51 9 1 false (.v 0))) ((zGD (.l 2) true .push (zPD (vIndexAddr 3 (.l 0) (.k (.int .i64 0))))) ((zGD (.l 3) true .push (zPD (vFieldAddr 0 (.l 0)))) ((zGD (.l 4) true .push (zLD B51 12 1 false (.l 0))) ((zGD (.l 5) true .push (zLD B51 13 1 false (.v 1))) ((zGD (.l 6) true .push (zPD (vIndexAddr 3 (.l 0) (.k (.int .i64 0))))) ((zGD (.l 7) true .push (zPD (vFieldAddr 0 (.l 0)))) ((zGD (.l 8) true .push (zLD B51 16 1 false (.l 0))) ((zGD (.l 9) true .push (zStepD E1 call B51 n0 ⟨.callv (.l 8) [(.l 4), (.l 0)], .push, none, false, 17, (some 0)⟩)) ((zGD (.l 10) true .push (zPD (vInt E1 fLss .lss 3 false true (.l 0) (.k (.int .i64 0))))) ((zGD (.l 15) false .push (zPD (vPick (.l 11) (.l 0) (.k (.bool false))))) ((zPD (vPick (.l 16) (.k (.bool true)) (.l 0))) ((zPD (vMv (.l 0))) k)))))))))))))))))))))
 (zCond (.l 0) (zDreg 0 fun n0 k => (zLD B52 0 1 false (.v 0)) ((zPD (vIndexAddr 3 (.l 0) (.k (.int .i64 0)))) ((zLD B52 2 3 true (.l 0)) ((zLD B52 3 1 false (.v 0)) ((zStepD E1 call B52 n0 ⟨.slice 158 (.l 0) (some (.k (.int .i64 1))) none none, .push, none, false, 4, none⟩) ((zStepD E1 call B52 n0 ⟨.store 163 (.v 3) (.l 2), .none, none, false, 5, none⟩) ((zStepD E1 call B52 n0 ⟨.store 158 (.v 0) (.l 0), .none, none, false, 6, none⟩) k))))))) (zSeq (zDreg 1 fun n0 k => (zLD B53 0 1 false (.v 0)) ((zPD (vLenL (.l 0))) ((zPD (vInt E1 fEql .eql 3 false true (.l 0) (.k (.int .i64 0)))) ((zGD (.l 0) false .push (zLD B53 4 1 false (.v 2))) ((zGD (.l 1) false .push (zLD B53 5 1 false (.v 1))) ((zGD (.l 2) false .push (zPD (vIndexAddr 3 (.l 0) (.k (.int .i64 0))))) ((zGD (.l 3) false .push (zPD (vFieldAddr 0 (.l 0)))) ((zGD (.l 4) false .push (zLD B53 8 1 false (.l 0))) ((zGD (.l 5) false .push (zLD B53 9 1 false (.v 0))) ((zGD (.l 6) false .push (zPD (vIndexAddr 3 (.l 0) (.k (.int .i64 0))))) ((zGD (.l 7) false .push (zPD (vFieldAddr 0 (.l 0)))) ((zGD (.l 8) false .push (zLD B53 12 1 false (.l 0))) ((zGD (.l 9) false .push (zStepD E1 call B53 n0 ⟨.callv (.l 8) [(.l 4), (.l 0)], .push, none, false, 13, (some 0)⟩)) ((zGD (.l 10) false .push (zPD (vInt E1 fLss .lss 3 false true (.l 0) (.k (.int .i64 0))))) ((zPD (vPick (.l 11) (.k (.bool true)) (.l 0))) ((zPD (vMv (.l 0))) k))))))))))))))))
 (zCond (.l 0) (zDreg 0 fun n0 k => (zLD B52 0 1 false (.v 1)) ((zPD (vIndexAddr 3 (.l 0) (.k (.int .i64 0)))) ((zLD B52 2 3 true (.l 0)) ((zLD B52 3 1 false (.v 1)) ((zStepD E1 call B52 n0 ⟨.slice 158 (.l 0) (some (.k (.int .i64 1))) none none, .push, none, false, 4, none⟩) ((zStepD E1 call B52 n0 ⟨.store 163 (.v 3) (.l 2), .none, none, false, 5, none⟩) ((zStepD E1 call B52 n0 ⟨.store 158 (.v 1) (.l 0), .none, none, false, 6, none⟩) k))))))) (zDreg 0 fun n0 k => (zLD B54 0 1 false (.v 0)) ((zPD (vIndexAddr 3 (.l 0) (.k (.int .i64 0)))) ((zPD (vFieldAddr 0 (.l 0))) ((zLD B54 3 1 false (.l 0)) ((zLD B54 4 1 false (.v 0)) ((zPD (vIndexAddr 3 (.l 0) (.k (.int .i64 0)))) ((zPD (vFieldAddr 1 (.l 0))) ((zLD B54 7 1 false (.l 0)) ((zLD B54 8 1 false (.v 1)) ((zPD (vIndexAddr 3 (.l 0) (.k (.int .i64 0)))) ((zPD (vFieldAddr 1 (.l 0))) ((zLD B54 11 1 false (.l 0)) ((zStepD E1 call B54 n0 ⟨.build 163 [(0, (.l 8)), (1, (.l 4)), (2, (.l 0))], .push, none, false, 12, none⟩) ((zLD B54 13 1 false (.v 0)) ((zStepD E1 call B54 n0 ⟨.slice 158 (.l 0) (some (.k (.int .i64 1))) none none, .push, none, false, 14, none⟩) ((zLD B54 15 1 false (.v 1)) ((zStepD E1 call B54 n0 ⟨.slice 158 (.l 0) (some (.k (.int .i64 1))) none none, .push, none, false, 16, none⟩) ((zStepD E1 call B54 n0 ⟨.store 163 (.v 3) (.l 4), .none, none, false, 17, none⟩) ((zStepD E1 call B54 n0 ⟨.store 158 (.v 0) (.l 2), .none, none, false, 18, none⟩) ((zStepD E1 call B54 n0 ⟨.store 158 (.v 1) (.l 0), .none, none, false, 19, none⟩) k)))))))))))))))))))))))))
 (zSeq (zReg fun k => (zL 3 true (.v 3)) ((zStep E1 call ⟨.callv (.v 4) [(.l 0)], .push, none, false, 2, (some 0)⟩) ((zP (vNot (.l 0))) k)))
 (zCond (.l 0) zRet zSkip))))))
def V157 (na nb nc l : Nat) (v3 : AV) : List AV := [.loc na 0, .loc nb 0, .loc nc 0, v3, .yield l]
def entR (a : List Ent) (f : Bool) : AO := .row 158 [.sl a.length (entC a) f] false
set_option maxHeartbeats 8000000 in
theorem loop157 {P : Ans → Prop} {kn : KB} {kx : Nat → KB} {kr : KB} {k : Nat} {Y : YE} (l na nb nc : Nat) (J : List Mrg → HL → Prop) (D : HL → Prop)
  (hround : ∀ H x r fr A B C, J (x :: r) fr → Has H ((na, A) :: (nb, B) :: (nc, C) :: fr) → ∃ p H' ac fr', CY (k + 3) Y (.yield l) [mE x] (rep H) = some (.bool p, rep H', ac) ∧ Has H' ((na, A) :: (nb, B) :: (nc, C) :: fr') ∧ (if p then J r fr' else D fr')) :
  ∀ (d q : Nat) (a b : List Ent) (fa fb : Bool) (L : List AV) (H : Heap) (v3 : AV) (fr : HL), a.length + b.length ≤ d → a.length ≤ 1000 → b.length ≤ 1000 → d < q → J (mergeE a b) fr → Has H ((na, entR a fa) :: (nb, entR b fb) :: (nc, .row 160 [.clo 143 []] false) :: fr) →
   (∀ L v3 H fr, J [] fr → Has H fr → P (kx 0 L (V157 na nb nc l v3) (rep H))) → (∀ L v3 H fr, D fr → Has H fr → P (kr L (V157 na nb nc l v3) (rep H))) →
   P (zLoop q (body157 (CY (k + 3) Y)) kn kx kr L (V157 na nb nc l v3) (rep H))
 | d, 0, a, b, fa, fb, L, H, v3, fr, hd, hla, hlb, hq, hj, hH, h1, h2 => by omega
 | _, q + 1, [], [], fa, fb, L, H, v3, fr, hd, hla, hlb, hq, hj, hH, h1, h2 => by
  refine st zLoop_one ?_
  unfold body157 V157
  rw [mergeE] at hj
  simp only [entR, entC, List.length_nil] at hH
  refine zpA <| zpR <| st (zL_v (wL_loc rfl (has_get hH 0 rfl) rfl rfl)) <| st (zP_v (vLenL_sl rfl)) <| st (zP_v (vInt_eq fGtr_ok rfl rfl (fGtr' (by omega)))) <| zph rfl <| st (zL_v (wL_loc rfl (has_get hH 1 rfl) rfl rfl)) <| zph rfl <| st (zP_v (vLenL_sl rfl)) <| zph rfl <| st (zP_v (vInt_eq fGtr_ok rfl rfl (fGtr' (by omega)))) <| st (zP_v (vPick_f rfl)) <| zpf rfl <| st zExit_app ?_
  exact h1 _ _ _ _ hj (by repeat' first | exact hH | apply has_tail)
 | 0, q + 1, x :: a, b, fa, fb, L, H, v3, fr, hd, hla, hlb, hq, hj, hH, h1, h2 => by simp at hd
 | 0, q + 1, [], y :: b, fa, fb, L, H, v3, fr, hd, hla, hlb, hq, hj, hH, h1, h2 => by simp at hd
 | d + 1, q + 1, x :: a, [], fa, fb, L, H, v3, fr, hd, hla, hlb, hq, hj, hH, h1, h2 => by
  have hel := entC_len a
  refine st zLoop_one ?_
  unfold body157 V157
  rw [mergeE] at hj
  simp only [entR, entC, List.length_nil, List.length_cons] at hH
  refine zpA <| zpR <| st (zL_v (wL_loc rfl (has_get hH 0 rfl) rfl rfl)) <| st (zP_v (vLenL_sl rfl)) <| st (zP_v (vInt_eq fGtr_ok rfl rfl (tGtr (by omega)))) ?_
  refine zGm_q rfl ?_
  refine zGm_q rfl ?_
  refine zGm_q rfl ?_
  refine st (zP_v (vPick_t rfl)) <| zpt rfl <| zpK <| st zBlock_app <| zpR ?_
  refine qV_new hH (ev_allocQ rfl) (fun _ => rfl) fun n1 Hn1 hH => ?_
  refine zpA <| st zBlock_app <| zpA ?_
  refine qd1 hH fun n2 Hn2 hH => ?_
  refine st (zLD_v (wL_loc rfl (has_get hH 3 rfl) rfl rfl) rfl spOk_nil) <| st (zPD_v (vLenL_sl rfl)) <| st (zPD_v (vInt_eq fEql_ok rfl rfl (tEql (by omega)))) ?_
  refine zGDm_q rfl ?_
  refine zGDm_q rfl ?_
  refine zGDm_q rfl ?_
  refine zGDm_q rfl ?_
  refine zGDs_q rfl ?_
  refine zGDs_q rfl ?_
  refine zGDs_q rfl ?_
  refine zGDs_q rfl ?_
  refine zGDs_q rfl ?_
  refine zGDs_q rfl ?_
  refine zGDs_q rfl ?_
  refine zGDs_q rfl ?_
  refine zGDs_q rfl ?_
  refine zGDs_q rfl ?_
  refine zGDs_q rfl ?_
  refine zGDm_q rfl ?_
  refine st (zPD_v (vPick_t rfl)) <| st (zPD_v (vMv_q rfl)) <| zpt rfl ?_
  refine qd0 ?_
  refine st (zLD_v (wL_loc rfl (has_get hH 2 rfl) rfl rfl) rfl spOk_nil) <| st (zPD_v (vIndexAddr_sl rfl rfl (by simp) (by simp))) <| st (zLD_idle (wL_ref rfl rfl rfl) rfl) <| st (zLD_v (wL_loc rfl (has_get hH 2 rfl) rfl rfl) rfl (spOk_apart rfl spOk_nil)) <| st (dP_val (sl_lo (h := 1) row163 rfl rfl (by simp; omega) (by omega)) rfl) ?_
  refine qDN_put hH 1 rfl rfl rfl rfl ⟨_, rfl, rfl⟩ rfl rfl rfl (spOk_apart (mtA rfl rfl (by have q := has_nd hH; simp at q; simp [Acc.add, Acc.none, Acc.read] <;> omega)) (spOk_bef rfl spOk_nil)) fun H3 hH => ?_
  refine qDN_put hH 2 rfl rfl rfl rfl ⟨_, rfl, rfl⟩ rfl rfl rfl (spOk_bef rfl (spOk_bef rfl (spOk_bef rfl spOk_nil))) fun H4 hH => ?_
  refine zpR <| st (zL_v (wL_loc rfl (has_get hH 1 rfl) rfl rfl)) ?_
  (obtain ⟨p, H9, ac, fr9, hc, hH, hq⟩ := hround _ (x, none) (mergeE a []) _ _ _ _ hj (by repeat' first | exact hH | apply has_tail); refine st (sP_call hc (ev_callv rfl rfl rfl) trivial) ?_)
  refine st (zP_v (vNot_eq rfl)) ?_
  refine two (b := !p) (fun b5 => ?_) (fun b5 => ?_)
  ·refine st (zCond_t (bAV b5)) <| st zRet_app ?_
   exact h2 _ _ _ fr9 (by simp_all) (by repeat' first | exact hH | apply has_tail)
  ·refine st (zCond_f (bAV b5)) <| zpK ?_
   exact loop157 l na nb nc J D hround d q a [] fa fb _ _ _ _ (by simp only [List.length_cons, List.length_nil] at *; omega) (by simp only [List.length_cons, List.length_nil] at *; omega) (by simp only [List.length_cons, List.length_nil] at *; omega) (by omega) (by simp_all) hH h1 h2
 | d + 1, q + 1, [], y :: b, fa, fb, L, H, v3, fr, hd, hla, hlb, hq, hj, hH, h1, h2 => by
  have hel := entC_len b
  refine st zLoop_one ?_
  unfold body157 V157
  rw [mergeE, List.map_cons] at hj
  simp only [entR, entC, List.length_nil, List.length_cons] at hH
  refine zpA <| zpR <| st (zL_v (wL_loc rfl (has_get hH 0 rfl) rfl rfl)) <| st (zP_v (vLenL_sl rfl)) <| st (zP_v (vInt_eq fGtr_ok rfl rfl (fGtr' (by omega)))) <| zph rfl <| st (zL_v (wL_loc rfl (has_get hH 1 rfl) rfl rfl)) <| zph rfl <| st (zP_v (vLenL_sl rfl)) <| zph rfl <| st (zP_v (vInt_eq fGtr_ok rfl rfl (tGtr (by omega)))) <| st (zP_v (vPick_f rfl)) <| zpt rfl <| zpK <| st zBlock_app <| zpR ?_
  refine qV_new hH (ev_allocQ rfl) (fun _ => rfl) fun n1 Hn1 hH => ?_
  refine zpA <| st zBlock_app <| zpA ?_
  refine qd1 hH fun n2 Hn2 hH => ?_
  refine st (zLD_v (wL_loc rfl (has_get hH 3 rfl) rfl rfl) rfl spOk_nil) <| st (zPD_v (vLenL_sl rfl)) <| st (zPD_v (vInt_eq fEql_ok rfl rfl (fEql' (by omega)))) <| zpH rfl <| st (zLD_v (wL_loc rfl (has_get hH 2 rfl) rfl rfl) rfl (spOk_bef rfl spOk_nil)) <| zpH rfl <| st (zPD_v (vLenL_sl rfl)) <| zpH rfl <| st (zPD_v (vInt_eq fGtr_ok rfl rfl (fGtr' (by omega)))) <| zpH rfl <| st (zPD_v (vMv_q rfl)) ?_
  refine zGDm_q rfl ?_
  refine zGDm_q rfl ?_
  refine zGDm_q rfl ?_
  refine zGDm_q rfl ?_
  refine zGDm_q rfl ?_
  refine zGDm_q rfl ?_
  refine zGDm_q rfl ?_
  refine zGDm_q rfl ?_
  refine zGDm_q rfl ?_
  refine zGDm_q rfl ?_
  refine zGDm_q rfl ?_
  refine zpH rfl <| st (zPD_v (vPick_f rfl)) <| st (zPD_v (vPick_f rfl)) <| st (zPD_v (vMv_q rfl)) <| zpf rfl <| zpA ?_
  refine qd1 hH fun n3 Hn3 hH => ?_
  refine st (zLD_v (wL_loc rfl (has_get hH 3 rfl) rfl rfl) rfl spOk_nil) <| st (zPD_v (vLenL_sl rfl)) <| st (zPD_v (vInt_eq fEql_ok rfl rfl (tEql (by omega)))) ?_
  refine zGDm_q rfl ?_
  refine zGDm_q rfl ?_
  refine zGDm_q rfl ?_
  refine zGDm_q rfl ?_
  refine zGDm_q rfl ?_
  refine zGDm_q rfl ?_
  refine zGDm_q rfl ?_
  refine zGDm_q rfl ?_
  refine zGDm_q rfl ?_
  refine zGDm_q rfl ?_
  refine zGDm_q rfl ?_
  refine st (zPD_v (vPick_t rfl)) <| st (zPD_v (vMv_q rfl)) <| zpt rfl ?_
  refine qd0 ?_
  refine st (zLD_v (wL_loc rfl (has_get hH 4 rfl) rfl rfl) rfl spOk_nil) <| st (zPD_v (vIndexAddr_sl rfl rfl (by simp) (by simp))) <| st (zLD_idle (wL_ref rfl rfl rfl) rfl) <| st (zLD_v (wL_loc rfl (has_get hH 4 rfl) rfl rfl) rfl (spOk_apart rfl spOk_nil)) <| st (dP_val (sl_lo (h := 1) row163 rfl rfl (by simp; omega) (by omega)) rfl) ?_
  refine qDN_put hH 2 rfl rfl rfl rfl ⟨_, rfl, rfl⟩ rfl rfl rfl (spOk_apart (mtA rfl rfl (by have q := has_nd hH; simp at q; simp [Acc.add, Acc.none, Acc.read] <;> omega)) (spOk_bef rfl spOk_nil)) fun H4 hH => ?_
  refine qDN_put hH 4 rfl rfl rfl rfl ⟨_, rfl, rfl⟩ rfl rfl rfl (spOk_bef rfl (spOk_bef rfl (spOk_bef rfl spOk_nil))) fun H5 hH => ?_
  refine zpR <| st (zL_v (wL_loc rfl (has_get hH 2 rfl) rfl rfl)) ?_
  (obtain ⟨p, H9, ac, fr9, hc, hH, hq⟩ := hround _ (y, none) (b.map fun y => (y, none)) _ _ _ _ hj (by repeat' first | exact hH | apply has_tail); refine st (sP_call hc (ev_callv rfl rfl rfl) trivial) ?_)
  refine st (zP_v (vNot_eq rfl)) ?_
  refine two (b := !p) (fun b6 => ?_) (fun b6 => ?_)
  ·refine st (zCond_t (bAV b6)) <| st zRet_app ?_
   exact h2 _ _ _ fr9 (by simp_all) (by repeat' first | exact hH | apply has_tail)
  ·refine st (zCond_f (bAV b6)) <| zpK ?_
   exact loop157 l na nb nc J D hround d q [] b fa fb _ _ _ _ (by simp only [List.length_cons, List.length_nil] at *; omega) (by simp only [List.length_cons, List.length_nil] at *; omega) (by simp only [List.length_cons, List.length_nil] at *; omega) (by omega) (by rw [mergeE]; simp_all) hH h1 h2
 | d + 1, q + 1, x :: a, y :: b, fa, fb, L, H, v3, fr, hd, hla, hlb, hq, hj, hH, h1, h2 => by
  have hel := entC_len a
  have heb := entC_len b
  refine st zLoop_one ?_
  unfold body157 V157
  rw [mergeE] at hj
  simp only [entR, entC, List.length_nil, List.length_cons] at hH
  by_cases c1 : lessN x.1 y.1 = true
  ·have g1 := decide_eq_true ((cmpN_lt x.1 y.1).2 c1)
   rw [if_pos c1] at hj
   refine zpA <| zpR <| st (zL_v (wL_loc rfl (has_get hH 0 rfl) rfl rfl)) <| st (zP_v (vLenL_sl rfl)) <| st (zP_v (vInt_eq fGtr_ok rfl rfl (tGtr (by omega)))) ?_
   refine zGm_q rfl ?_
   refine zGm_q rfl ?_
   refine zGm_q rfl ?_
   refine st (zP_v (vPick_t rfl)) <| zpt rfl <| zpK <| st zBlock_app <| zpR ?_
   refine qV_new hH (ev_allocQ rfl) (fun _ => rfl) fun n1 Hn1 hH => ?_
   refine zpA <| st zBlock_app <| zpA ?_
   refine qd1 hH fun n2 Hn2 hH => ?_
   refine st (zLD_v (wL_loc rfl (has_get hH 3 rfl) rfl rfl) rfl spOk_nil) <| st (zPD_v (vLenL_sl rfl)) <| st (zPD_v (vInt_eq fEql_ok rfl rfl (fEql' (by omega)))) <| zpH rfl <| st (zLD_v (wL_loc rfl (has_get hH 2 rfl) rfl rfl) rfl (spOk_bef rfl spOk_nil)) <| zpH rfl <| st (zPD_v (vLenL_sl rfl)) <| zpH rfl <| st (zPD_v (vInt_eq fGtr_ok rfl rfl (tGtr (by omega)))) <| zpH rfl <| st (zPD_v (vMv_q rfl)) <| zpH rfl <| st (zLD_v (wL_loc rfl (has_get hH 4 rfl) rfl rfl) rfl (spOk_bef rfl (spOk_bef rfl spOk_nil))) <| zpH rfl <| st (zLD_v (wL_loc rfl (has_get hH 2 rfl) rfl rfl) rfl (spOk_apart rfl (spOk_bef rfl (spOk_bef rfl spOk_nil)))) <| zpH rfl <| st (zPD_v (vIndexAddr_sl rfl rfl (by simp) (by simp))) <| zpH rfl <| st (zPD_v (vFieldAddr_ref rfl (by simp))) <| zpH rfl <| st (zLD_idle (wL_ref rfl rfl rfl) rfl) <| zpH rfl <| st (zLD_v (wL_loc rfl (has_get hH 3 rfl) rfl rfl) rfl (spOk_apart rfl (spOk_apart rfl (spOk_bef rfl (spOk_bef rfl spOk_nil))))) <| zpH rfl ?_
   refine st (zPD_v (vIndexAddr_sl rfl rfl (by simp) (by simp))) <| zpH rfl <| st (zPD_v (vFieldAddr_ref rfl (by simp))) <| zpH rfl <| st (zLD_idle (wL_ref rfl rfl rfl) rfl) <| zpH rfl <| st (dP_callI (c143 _ _ _ _) (ev_callv rfl rfl rfl) rfl rfl) <| zpH rfl <| st (zPD_v (vInt_eq fLss_ok rfl rfl qLss)) <| zpH rfl <| st (zPD_v (vPick_t rfl)) <| st (zPD_v (vPick_f rfl)) <| st (zPD_v (vMv_q rfl)) <| st (zCond_t (bAV g1)) ?_
   refine qd0 ?_
   refine st (zLD_v (wL_loc rfl (has_get hH 2 rfl) rfl rfl) rfl spOk_nil) <| st (zPD_v (vIndexAddr_sl rfl rfl (by simp) (by simp))) <| st (zLD_idle (wL_ref rfl rfl rfl) rfl) <| st (zLD_v (wL_loc rfl (has_get hH 2 rfl) rfl rfl) rfl (spOk_apart rfl spOk_nil)) <| st (dP_val (sl_lo (h := 1) row163 rfl rfl (by simp; omega) (by omega)) rfl) ?_
   refine qDN_put hH 1 rfl rfl rfl rfl ⟨_, rfl, rfl⟩ rfl rfl rfl (spOk_apart (mtA rfl rfl (by have q := has_nd hH; simp at q; simp [Acc.add, Acc.none, Acc.read] <;> omega)) (spOk_bef rfl spOk_nil)) fun H3 hH => ?_
   refine qDN_put hH 2 rfl rfl rfl rfl ⟨_, rfl, rfl⟩ rfl rfl rfl (spOk_bef rfl (spOk_bef rfl (spOk_bef rfl spOk_nil))) fun H4 hH => ?_
   refine zpR <| st (zL_v (wL_loc rfl (has_get hH 1 rfl) rfl rfl)) ?_
   (obtain ⟨p, H9, ac, fr9, hc, hH, hq⟩ := hround _ (x, none) (mergeE a (y::b)) _ _ _ _ hj (by repeat' first | exact hH | apply has_tail); refine st (sP_call hc (ev_callv rfl rfl rfl) trivial) ?_)
   refine st (zP_v (vNot_eq rfl)) ?_
   refine two (b := !p) (fun b5 => ?_) (fun b5 => ?_)
   ·refine st (zCond_t (bAV b5)) <| st zRet_app ?_
    exact h2 _ _ _ fr9 (by simp_all) (by repeat' first | exact hH | apply has_tail)
   ·refine st (zCond_f (bAV b5)) <| zpK ?_
    exact loop157 l na nb nc J D hround d q a (y::b) fa fb _ _ _ _ (by simp only [List.length_cons, List.length_nil] at *; omega) (by simp only [List.length_cons, List.length_nil] at *; omega) (by simp only [List.length_cons, List.length_nil] at *; omega) (by omega) (by simp_all) hH h1 h2
  ·have g1 : decide (cmpN x.1 y.1 < 0) = false := decide_eq_false (fun h => c1 ((cmpN_lt x.1 y.1).1 h))
   rw [if_neg c1] at hj
   by_cases c2 : lessN y.1 x.1 = true
   ·have g2 := decide_eq_true ((cmpN_lt y.1 x.1).2 c2)
    rw [if_pos c2] at hj
    refine zpA <| zpR <| st (zL_v (wL_loc rfl (has_get hH 0 rfl) rfl rfl)) <| st (zP_v (vLenL_sl rfl)) <| st (zP_v (vInt_eq fGtr_ok rfl rfl (tGtr (by omega)))) ?_
    refine zGm_q rfl ?_
    refine zGm_q rfl ?_
    refine zGm_q rfl ?_
    refine st (zP_v (vPick_t rfl)) <| zpt rfl <| zpK <| st zBlock_app <| zpR ?_
    refine qV_new hH (ev_allocQ rfl) (fun _ => rfl) fun n1 Hn1 hH => ?_
    refine zpA <| st zBlock_app <| zpA ?_
    refine qd1 hH fun n2 Hn2 hH => ?_
    refine st (zLD_v (wL_loc rfl (has_get hH 3 rfl) rfl rfl) rfl spOk_nil) <| st (zPD_v (vLenL_sl rfl)) <| st (zPD_v (vInt_eq fEql_ok rfl rfl (fEql' (by omega)))) <| zpH rfl <| st (zLD_v (wL_loc rfl (has_get hH 2 rfl) rfl rfl) rfl (spOk_bef rfl spOk_nil)) <| zpH rfl <| st (zPD_v (vLenL_sl rfl)) <| zpH rfl <| st (zPD_v (vInt_eq fGtr_ok rfl rfl (tGtr (by omega)))) <| zpH rfl <| st (zPD_v (vMv_q rfl)) <| zpH rfl <| st (zLD_v (wL_loc rfl (has_get hH 4 rfl) rfl rfl) rfl (spOk_bef rfl (spOk_bef rfl spOk_nil))) <| zpH rfl <| st (zLD_v (wL_loc rfl (has_get hH 2 rfl) rfl rfl) rfl (spOk_apart rfl (spOk_bef rfl (spOk_bef rfl spOk_nil)))) <| zpH rfl <| st (zPD_v (vIndexAddr_sl rfl rfl (by simp) (by simp))) <| zpH rfl <| st (zPD_v (vFieldAddr_ref rfl (by simp))) <| zpH rfl <| st (zLD_idle (wL_ref rfl rfl rfl) rfl) <| zpH rfl <| st (zLD_v (wL_loc rfl (has_get hH 3 rfl) rfl rfl) rfl (spOk_apart rfl (spOk_apart rfl (spOk_bef rfl (spOk_bef rfl spOk_nil))))) <| zpH rfl ?_
    refine st (zPD_v (vIndexAddr_sl rfl rfl (by simp) (by simp))) <| zpH rfl <| st (zPD_v (vFieldAddr_ref rfl (by simp))) <| zpH rfl <| st (zLD_idle (wL_ref rfl rfl rfl) rfl) <| zpH rfl <| st (dP_callI (c143 _ _ _ _) (ev_callv rfl rfl rfl) rfl rfl) <| zpH rfl <| st (zPD_v (vInt_eq fLss_ok rfl rfl qLss)) <| zpH rfl <| st (zPD_v (vPick_t rfl)) <| st (zPD_v (vPick_f rfl)) <| st (zPD_v (vMv_q rfl)) <| st (zCond_f (bAV g1)) <| zpA ?_
    refine qd1 hH fun n3 Hn3 hH => ?_
    refine st (zLD_v (wL_loc rfl (has_get hH 3 rfl) rfl rfl) rfl spOk_nil) <| st (zPD_v (vLenL_sl rfl)) <| st (zPD_v (vInt_eq fEql_ok rfl rfl (fEql' (by omega)))) <| zpH rfl <| st (zLD_v (wL_loc rfl (has_get hH 5 rfl) rfl rfl) rfl (spOk_bef rfl spOk_nil)) <| zpH rfl <| st (zLD_v (wL_loc rfl (has_get hH 4 rfl) rfl rfl) rfl (spOk_apart rfl (spOk_bef rfl spOk_nil))) <| zpH rfl <| st (zPD_v (vIndexAddr_sl rfl rfl (by simp) (by simp))) <| zpH rfl <| st (zPD_v (vFieldAddr_ref rfl (by simp))) <| zpH rfl <| st (zLD_idle (wL_ref rfl rfl rfl) rfl) <| zpH rfl <| st (zLD_v (wL_loc rfl (has_get hH 3 rfl) rfl rfl) rfl (spOk_apart rfl (spOk_apart rfl (spOk_bef rfl spOk_nil)))) <| zpH rfl <| st (zPD_v (vIndexAddr_sl rfl rfl (by simp) (by simp))) <| zpH rfl <| st (zPD_v (vFieldAddr_ref rfl (by simp))) <| zpH rfl <| st (zLD_idle (wL_ref rfl rfl rfl) rfl) <| zpH rfl <| st (dP_callI (c143 _ _ _ _) (ev_callv rfl rfl rfl) rfl rfl) <| zpH rfl ?_
    refine st (zPD_v (vInt_eq fLss_ok rfl rfl qLss)) <| st (zPD_v (vPick_f rfl)) <| st (zPD_v (vMv_q rfl)) <| st (zCond_t (bAV g2)) ?_
    refine qd0 ?_
    refine st (zLD_v (wL_loc rfl (has_get hH 4 rfl) rfl rfl) rfl spOk_nil) <| st (zPD_v (vIndexAddr_sl rfl rfl (by simp) (by simp))) <| st (zLD_idle (wL_ref rfl rfl rfl) rfl) <| st (zLD_v (wL_loc rfl (has_get hH 4 rfl) rfl rfl) rfl (spOk_apart rfl spOk_nil)) <| st (dP_val (sl_lo (h := 1) row163 rfl rfl (by simp; omega) (by omega)) rfl) ?_
    refine qDN_put hH 2 rfl rfl rfl rfl ⟨_, rfl, rfl⟩ rfl rfl rfl (spOk_apart (mtA rfl rfl (by have q := has_nd hH; simp at q; simp [Acc.add, Acc.none, Acc.read] <;> omega)) (spOk_bef rfl spOk_nil)) fun H4 hH => ?_
    refine qDN_put hH 4 rfl rfl rfl rfl ⟨_, rfl, rfl⟩ rfl rfl rfl (spOk_bef rfl (spOk_bef rfl (spOk_bef rfl spOk_nil))) fun H5 hH => ?_
    refine zpR <| st (zL_v (wL_loc rfl (has_get hH 2 rfl) rfl rfl)) ?_
    (obtain ⟨p, H9, ac, fr9, hc, hH, hq⟩ := hround _ (y, none) (mergeE (x::a) b) _ _ _ _ hj (by repeat' first | exact hH | apply has_tail); refine st (sP_call hc (ev_callv rfl rfl rfl) trivial) ?_)
    refine st (zP_v (vNot_eq rfl)) ?_
    refine two (b := !p) (fun b6 => ?_) (fun b6 => ?_)
    ·refine st (zCond_t (bAV b6)) <| st zRet_app ?_
     exact h2 _ _ _ fr9 (by simp_all) (by repeat' first | exact hH | apply has_tail)
    ·refine st (zCond_f (bAV b6)) <| zpK ?_
     exact loop157 l na nb nc J D hround d q (x::a) b fa fb _ _ _ _ (by simp only [List.length_cons, List.length_nil] at *; omega) (by simp only [List.length_cons, List.length_nil] at *; omega) (by simp only [List.length_cons, List.length_nil] at *; omega) (by omega) (by simp_all) hH h1 h2
   ·have g2 : decide (cmpN y.1 x.1 < 0) = false := decide_eq_false (fun h => c2 ((cmpN_lt y.1 x.1).1 h))
    rw [if_neg c2] at hj
    refine zpA <| zpR <| st (zL_v (wL_loc rfl (has_get hH 0 rfl) rfl rfl)) <| st (zP_v (vLenL_sl rfl)) <| st (zP_v (vInt_eq fGtr_ok rfl rfl (tGtr (by omega)))) ?_
    refine zGm_q rfl ?_
    refine zGm_q rfl ?_
    refine zGm_q rfl ?_
    refine st (zP_v (vPick_t rfl)) <| zpt rfl <| zpK <| st zBlock_app <| zpR ?_
    refine qV_new hH (ev_allocQ rfl) (fun _ => rfl) fun n1 Hn1 hH => ?_
    refine zpA <| st zBlock_app <| zpA ?_
    refine qd1 hH fun n2 Hn2 hH => ?_
    refine st (zLD_v (wL_loc rfl (has_get hH 3 rfl) rfl rfl) rfl spOk_nil) <| st (zPD_v (vLenL_sl rfl)) <| st (zPD_v (vInt_eq fEql_ok rfl rfl (fEql' (by omega)))) <| zpH rfl <| st (zLD_v (wL_loc rfl (has_get hH 2 rfl) rfl rfl) rfl (spOk_bef rfl spOk_nil)) <| zpH rfl <| st (zPD_v (vLenL_sl rfl)) <| zpH rfl <| st (zPD_v (vInt_eq fGtr_ok rfl rfl (tGtr (by omega)))) <| zpH rfl <| st (zPD_v (vMv_q rfl)) <| zpH rfl <| st (zLD_v (wL_loc rfl (has_get hH 4 rfl) rfl rfl) rfl (spOk_bef rfl (spOk_bef rfl spOk_nil))) <| zpH rfl <| st (zLD_v (wL_loc rfl (has_get hH 2 rfl) rfl rfl) rfl (spOk_apart rfl (spOk_bef rfl (spOk_bef rfl spOk_nil)))) <| zpH rfl <| st (zPD_v (vIndexAddr_sl rfl rfl (by simp) (by simp))) <| zpH rfl <| st (zPD_v (vFieldAddr_ref rfl (by simp))) <| zpH rfl <| st (zLD_idle (wL_ref rfl rfl rfl) rfl) <| zpH rfl <| st (zLD_v (wL_loc rfl (has_get hH 3 rfl) rfl rfl) rfl (spOk_apart rfl (spOk_apart rfl (spOk_bef rfl (spOk_bef rfl spOk_nil))))) <| zpH rfl ?_
    refine st (zPD_v (vIndexAddr_sl rfl rfl (by simp) (by simp))) <| zpH rfl <| st (zPD_v (vFieldAddr_ref rfl (by simp))) <| zpH rfl <| st (zLD_idle (wL_ref rfl rfl rfl) rfl) <| zpH rfl <| st (dP_callI (c143 _ _ _ _) (ev_callv rfl rfl rfl) rfl rfl) <| zpH rfl <| st (zPD_v (vInt_eq fLss_ok rfl rfl qLss)) <| zpH rfl <| st (zPD_v (vPick_t rfl)) <| st (zPD_v (vPick_f rfl)) <| st (zPD_v (vMv_q rfl)) <| st (zCond_f (bAV g1)) <| zpA ?_
    refine qd1 hH fun n3 Hn3 hH => ?_
    refine st (zLD_v (wL_loc rfl (has_get hH 3 rfl) rfl rfl) rfl spOk_nil) <| st (zPD_v (vLenL_sl rfl)) <| st (zPD_v (vInt_eq fEql_ok rfl rfl (fEql' (by omega)))) <| zpH rfl <| st (zLD_v (wL_loc rfl (has_get hH 5 rfl) rfl rfl) rfl (spOk_bef rfl spOk_nil)) <| zpH rfl <| st (zLD_v (wL_loc rfl (has_get hH 4 rfl) rfl rfl) rfl (spOk_apart rfl (spOk_bef rfl spOk_nil))) <| zpH rfl <| st (zPD_v (vIndexAddr_sl rfl rfl (by simp) (by simp))) <| zpH rfl <| st (zPD_v (vFieldAddr_ref rfl (by simp))) <| zpH rfl <| st (zLD_idle (wL_ref rfl rfl rfl) rfl) <| zpH rfl <| st (zLD_v (wL_loc rfl (has_get hH 3 rfl) rfl rfl) rfl (spOk_apart rfl (spOk_apart rfl (spOk_bef rfl spOk_nil)))) <| zpH rfl <| st (zPD_v (vIndexAddr_sl rfl rfl (by simp) (by simp))) <| zpH rfl <| st (zPD_v (vFieldAddr_ref rfl (by simp))) <| zpH rfl <| st (zLD_idle (wL_ref rfl rfl rfl) rfl) <| zpH rfl <| st (dP_callI (c143 _ _ _ _) (ev_callv rfl rfl rfl) rfl rfl) <| zpH rfl ?_
    refine st (zPD_v (vInt_eq fLss_ok rfl rfl qLss)) <| st (zPD_v (vPick_f rfl)) <| st (zPD_v (vMv_q rfl)) <| st (zCond_f (bAV g2)) ?_
    refine qd0 ?_
    refine st (zLD_v (wL_loc rfl (has_get hH 3 rfl) rfl rfl) rfl spOk_nil) <| st (zPD_v (vIndexAddr_sl rfl rfl (by simp) (by simp))) <| st (zPD_v (vFieldAddr_ref rfl (by simp))) <| st (zLD_idle (wL_ref rfl rfl rfl) rfl) <| st (zLD_v (wL_loc rfl (has_get hH 3 rfl) rfl rfl) rfl (spOk_apart rfl spOk_nil)) <| st (zPD_v (vIndexAddr_sl rfl rfl (by simp) (by simp))) <| st (zPD_v (vFieldAddr_ref rfl (by simp))) <| st (zLD_idle (wL_ref rfl rfl rfl) rfl) <| st (zLD_v (wL_loc rfl (has_get hH 4 rfl) rfl rfl) rfl (spOk_apart rfl (spOk_apart rfl spOk_nil))) <| st (zPD_v (vIndexAddr_sl rfl rfl (by simp) (by simp))) <| st (zPD_v (vFieldAddr_ref rfl (by simp))) <| st (zLD_idle (wL_ref rfl rfl rfl) rfl) <| st (dP_val (a := Acc.none) rfl rfl) <| st (zLD_v (wL_loc rfl (has_get hH 3 rfl) rfl rfl) rfl (spOk_apart rfl (spOk_apart rfl (spOk_apart rfl spOk_nil)))) <| st (dP_val (sl_lo (h := 1) row163 rfl rfl (by simp; omega) (by omega)) rfl) <| st (zLD_v (wL_loc rfl (has_get hH 4 rfl) rfl rfl) rfl (spOk_apart rfl (spOk_apart rfl (spOk_apart rfl (spOk_apart rfl spOk_nil))))) <| st (dP_val (sl_lo (h := 1) row163 rfl rfl (by simp; omega) (by omega)) rfl) ?_
    refine qDN_put hH 2 rfl rfl rfl rfl ⟨_, rfl, rfl⟩ rfl rfl rfl (spOk_apart (mtA rfl rfl (by have q := has_nd hH; simp at q; simp [Acc.add, Acc.none, Acc.read] <;> omega)) (spOk_apart (mtA rfl rfl (by have q := has_nd hH; simp at q; simp [Acc.add, Acc.none, Acc.read] <;> omega)) (spOk_bef rfl (spOk_bef rfl (spOk_bef rfl spOk_nil))))) fun H4 hH => ?_
    refine qDN_put hH 3 rfl rfl rfl rfl ⟨_, rfl, rfl⟩ rfl rfl rfl (spOk_bef rfl (spOk_apart (mtA rfl rfl (by have q := has_nd hH; simp at q; simp [Acc.add, Acc.none, Acc.read] <;> omega)) (spOk_bef rfl (spOk_bef rfl (spOk_bef rfl (spOk_bef rfl spOk_nil)))))) fun H5 hH => ?_
    refine qDN_put hH 4 rfl rfl rfl rfl ⟨_, rfl, rfl⟩ rfl rfl rfl (spOk_bef rfl (spOk_bef rfl (spOk_bef rfl (spOk_bef rfl (spOk_bef rfl (spOk_bef rfl (spOk_bef rfl spOk_nil))))))) fun H6 hH => ?_
    refine zpR <| st (zL_v (wL_loc rfl (has_get hH 2 rfl) rfl rfl)) ?_
    (obtain ⟨p, H9, ac, fr9, hc, hH, hq⟩ := hround _ (x, some y.2) (mergeE a b) _ _ _ _ hj (by repeat' first | exact hH | apply has_tail); refine st (sP_call hc (ev_callv rfl rfl rfl) trivial) ?_)
    refine st (zP_v (vNot_eq rfl)) ?_
    refine two (b := !p) (fun b7 => ?_) (fun b7 => ?_)
    ·refine st (zCond_t (bAV b7)) <| st zRet_app ?_
     exact h2 _ _ _ fr9 (by simp_all) (by repeat' first | exact hH | apply has_tail)
    ·refine st (zCond_f (bAV b7)) <| zpK ?_
     exact loop157 l na nb nc J D hround d q a b fa fb _ _ _ _ (by simp only [List.length_cons, List.length_nil] at *; omega) (by simp only [List.length_cons, List.length_nil] at *; omega) (by simp only [List.length_cons, List.length_nil] at *; omega) (by omega) (by simp_all) hH h1 h2
end Go.Proofs.PxM6
