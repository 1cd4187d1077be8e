/- Canon: two maps joined (walks by zauto). -/
import Derived.Test.YtjpllnhlpgbgmaaGreatPzM6D
set_option linter.unusedVariables false
set_option linter.unusedSimpArgs false
set_option maxRecDepth 100000
namespace Go.Proofs.PxM6
open Go Go.Px Go.Proofs
theorem raw_goQ {E : Env} {GE : Nat → Option ZFn} {LZ : Nat → Option ZLn} {k f : Nat} {Y : YE} {zf : ZFn} {args V0 : List AV} {H : Heap} (Q : AV → HL → Prop) (hG : GE f = some zf) (hp : E.pure f = false) (hV : ∀ c : List AV → Ans, leZ args zf.n (initZ zf.vs args c) = c V0)
  (hb : EndsH (fun r H' => ∃ l, Has H' l ∧ Q r l) (zf.z (callZ E GE LZ k) Y k (finZ E zf.res) (fun _ _ _ _ => none) (finZ E zf.res) [] V0 (rep H))) :
  ∃ r H' ac l, callZ E GE LZ (k + 1) Y (.func f) args (rep H) = some (r, rep H', ac) ∧ Has H' l ∧ Q r l := by
 obtain ⟨r, H', ac, h1, l, h2, h3⟩ := raw_go (Q := fun r H' => ∃ l, Has H' l ∧ Q r l) hG hp hV hb
 exact ⟨r, H', ac, l, h1, h2, h3⟩
theorem c157 {k : Nat} {Y : YE} (l na nb nc : Nat) (J : List Mrg → HL → Prop) (D : HL → Prop)
  (hround : ∀ H x r fr A B C, J (x :: r) fr → Has H ((na, A) :: (nb, B) :: (nc, C) :: fr) → ∃ p H' ac fr', CY (k + 3) Y (.yield l) [mE x] (rep H) = some (.bool p, rep H', ac) ∧ Has H' ((na, A) :: (nb, B) :: (nc, C) :: fr') ∧ (if p then J r fr' else D fr'))
  (a b : List Ent) (fa fb : Bool) (H : Heap) (fr : HL) (hla : a.length ≤ 1000) (hlb : b.length ≤ 1000) (hk : 2001 ≤ k) (hj : J (mergeE a b) fr) (hH : Has H ((na, entR a fa) :: (nb, entR b fb) :: (nc, .row 160 [.clo 143 []] false) :: fr)) :
  ∃ r H' ac fr', CY (k + 4) Y (.func 157) [.yield l, .loc na 0, .loc nb 0, .loc nc 0] (rep H) = some (r, rep H', ac) ∧ Has H' fr' ∧ (J [] fr' ∨ D fr') := by
 refine raw_goQ (zf := G157 E1) (fun _ fr' => J [] fr' ∨ D fr') rfl rfl (fun _ => rfl) ?_
 unfold G157
 dsimp only
 refine st zBlock_app ?_
 exact loop157 l na nb nc J D hround _ _ a b fa fb _ _ _ fr (Nat.le_refl _) hla hlb (by omega) hj hH (fun _ _ _ fr h g => endsH ⟨fr, g, .inl h⟩) (fun _ _ _ fr h g => endsH ⟨fr, g, .inr h⟩)
theorem c141 {k : Nat} {Y : YE} (H : Heap) (fr : HL) (n m : Nat) (ca cb : List AV) (fa fb : Bool) (hH : Has H fr) : ∃ r H' ac fr', CY (k + 1) Y (.func 141) [.sl n ca fa, .sl m cb fb, .clo 143 []] (rep H) = some (r, rep H', ac) ∧ Has H' fr' ∧ ∃ na nb nc, r = .clo 157 [.loc na 0, .loc nb 0, .loc nc 0] ∧ fr' = (nc, .row 160 [.clo 143 []] false) :: (nb, .row 158 [.sl m cb fb] false) :: (na, .row 158 [.sl n ca fa] false) :: fr := by
 refine raw_goQ (zf := G141 E1) (f := 141) (args := [.sl n ca fa, .sl m cb fb, .clo 143 []]) (fun r fr' => ∃ na nb nc, r = .clo 157 [.loc na 0, .loc nb 0, .loc nc 0] ∧ fr' = (nc, .row 160 [.clo 143 []] false) :: (nb, .row 158 [.sl m cb fb] false) :: (na, .row 158 [.sl n ca fa] false) :: fr) rfl rfl (fun _ => rfl) ?_
 unfold G141
 dsimp only
 refine zpR ?_
 refine qV_new hH (ev_boxQ rfl rfl ⟨_, rfl⟩) (fun _ => rfl) fun n1 Hn1 hH => ?_
 refine qV_new hH (ev_boxQ rfl rfl ⟨_, rfl⟩) (fun _ => rfl) fun n2 Hn2 hH => ?_
 refine qV_new hH (ev_boxQ rfl rfl ⟨_, rfl⟩) (fun _ => rfl) fun n3 Hn3 hH => ?_
 refine zV_q (vMv_q rfl) rfl ?_
 refine zpR <| st (sP_val (ev_mkFunc rfl)) ?_
 refine zV_q (vMv_q rfl) rfl ?_
 refine st zRet_app ?_
 exact ⟨_, _, rfl, _, hH, _, _, _, rfl, rfl⟩
theorem cP_any {L V : List AV} {T T' : TH} {K : SPK} {x : AV} {acc : Acc} {call : CallTT} {sp : List (Nat × Acc)} {bef : List Nat} {i f : Nat} {args : List O} {vs : List AV} (hv : args.map (gO L V) = vs) (h : call (.func f) vs T = some (x, T', acc)) (hs : spOk bef i acc sp = true) : zCallD call bef i f args .push K sp L V T = K (if acc.idle = true then sp else (i, acc) :: sp) (x :: L) V T' := by
 by_cases ha : acc.idle = true
 ·rw [if_pos ha]; exact zCallD_idle (hv ▸ h) ha
 ·rw [if_neg ha]; exact zCallD_v (hv ▸ h) (by simpa using ha) hs
def mN : Mrg → Nat
 | ((_, n :: _), none) => n
 | ((_, n :: _), some (m :: _)) => max n m
 | _ => 0
def okM (x : Mrg) : Prop := x.1.2 ≠ [] ∧ x.2 ≠ some []
theorem c144m {k : Nat} (Y : YE) (T : TH) (x : Mrg) (hx : okM x) : CY (k + 3) Y (.func 144) [sMax, mE x] T = some (.tup [.agg (numV (mN x)), .nilIface], T, ⟨[], [], false⟩) := by
 obtain ⟨⟨t, l⟩, o⟩ := x
 obtain ⟨h1, h2⟩ := hx
 match l, o, h1, h2 with
 | [], _, h1, _ => exact absurd rfl h1
 | n :: l, none, _, _ => exact c144a (k := k + 2) Y T t n (numC l)
 | n :: l, some [], _, h2 => exact absurd rfl h2
 | n :: l, some (m :: l2), _, _ => exact c144b (k := k) Y T t n m (numC l) (numC l2)
theorem row9 : RowT E1 25 9 1 16 := ⟨⟨_, rfl, rfl⟩, ⟨_, rfl, rfl, rfl⟩, by decide, by decide⟩
theorem row29 : RowT E1 27 29 5 88 := ⟨⟨_, rfl, rfl⟩, ⟨_, rfl, rfl, rfl⟩, by decide, by decide⟩
def sMapR : AO := .row 37 [.int .i64 4, .sl 1 [.int .i64 1, .sl 0 [] true] false] false
def Fr128 (l s o : Nat) (X : HL) (done : List Mrg) (fr : HL) : Prop := ∃ tm ps a b, (done = [] ∧ fr = (l, .loop .ready none tm ps a b) :: (s, sMapR) :: (o, .row 29 [.int .u64 0, .int .u64 0, .sl 0 [] true, .sl 0 [] true, .sl 0 [] true] false) :: X) ∨
 (done ≠ [] ∧ ∃ nS nV, fr = (l, .loop .ready none tm ps a b) :: (s, sMapR) :: (o, .row 29 [.int .u64 0, .int .u64 0, .own nS 0 done.length 1, .sl 0 [] true, .own nV 0 done.length 5] false) :: (nS, .row 9 (txtC (done.map (·.1.1))) false) :: (nV, .row 29 (numC (done.map mN)) false) :: X)
def d128 (l s r e o : Nat) : LD := ⟨l, 3, [.undef, .loc s 0, .undef, .undef, .loc r 0, .loc e 0, .loc o 0, .undef]⟩
theorem ye_at (d : LD) (Y : YE) : YE.at (d :: Y) d.l = some d := by simp [YE.at]
theorem round_goQ {E : Env} {GE : Nat → Option ZFn} {LZ : Nat → Option ZLn} {k l : Nat} {Y : YE} {d : LD} {zl : ZLn} {args : List AV} {H : Heap} {fr : HL} (Q : Bool → HL → Prop) {pd : Option Code} {tm : List AV} {ps : List Nat} {a b : Code} (hY : YE.at Y l = some d) (hL : LZ d.id = some zl) (hH : Has H fr) (i : Nat) (hl : fr[i]? = some (l, .loop .ready pd tm ps a b)) (hn : args.length = zl.ps.length)
  (hc : EndsQ (fun p H' => ∃ l, Has H' l ∧ Q p l) (zl.asg (callZ E GE LZ k) Y k (aftR (callZ E GE LZ k) Y k l zl) (fun _ _ _ _ => none) (fun _ _ _ => none) [] (setV d.V zl.ps args) (rep H))) :
  ∃ b H' ac fr', callZ E GE LZ (k + 1) Y (.yield l) args (rep H) = some (.bool b, rep H', ac) ∧ Has H' fr' ∧ Q b fr' := by
 obtain ⟨b, H', ac, h1, l2, h2, h3⟩ := round_go (Q := fun p H' => ∃ l, Has H' l ∧ Q p l) hY hL (has_get hH i hl) hn hc
 exact ⟨b, H', ac, l2, h1, h2, h3⟩
theorem txtC_app1 (l : Txt) (t : List Nat) : txtC (l ++ [t]) = txtC l ++ [.str t] := by simp [txtC]
theorem numC_app1 (l : List Nat) (n : Nat) : numC (l ++ [n]) = numC l ++ numV n := by
 induction l with
 | nil => simp [numC]
 | cons a l ih => simp [numC, ih]
set_option maxHeartbeats 4000000 in
theorem round128 {k : Nat} {Y : YE} (l s rr e o : Nat) (H : Heap) (x : Mrg) (done : List Mrg) (hl : done.length + 1 ≤ 1000) (hx : okM x) (A B C : Nat × AO) (X : HL) (fr : HL) (hf : Fr128 l s o X done fr) (hH : Has H (A :: B :: C :: fr)) :
  ∃ p H' ac fr', CY (k + 4) (d128 l s rr e o :: Y) (.yield l) [mE x] (rep H) = some (.bool p, rep H', ac) ∧ Has H' fr' ∧ (p = true ∧ ∃ g, fr' = A :: B :: C :: g ∧ Fr128 l s o X (done ++ [x]) g) := by
 have e1 := txtC_len (done.map (·.1.1))
 have e2 := numC_len (done.map mN)
 rw [List.length_map] at e1 e2
 obtain ⟨tm, ps, ca, cb, ⟨rfl, rfl⟩ | ⟨hne, nS, nV, rfl⟩⟩ := hf
 ·refine round_goQ (E := E1) (GE := GE E1) (LZ := LZ E1) (k := k + 3) (zl := M3 E1) (d := d128 l s rr e o) (fun p fr' => p = true ∧ ∃ g, fr' = A :: B :: C :: g ∧ Fr128 l s o X ([] ++ [x]) g) (ye_at _ _) rfl hH 3 rfl rfl ?_
  simp only [sMapR] at hH
  unfold M3
  dsimp only
  refine st zReg_eq ?_
  refine qV_new hH (ev_allocQ rfl) (fun _ => rfl) fun n1 Hn1 hH => ?_
  refine qN_put hH 0 rfl rfl rfl rfl ⟨_, rfl, rfl⟩ rfl rfl rfl fun H2 hH => ?_
  refine aftQ hH 4 rfl rfl fun H3 hH => ?_
  dsimp only
  refine st zBlock_app <| zpA ?_
  refine qd2 hH fun n4 Hn4 hH => ?_
  refine st (zPD_v (vFieldAddr_loc rfl)) <| st (zLD_v (wL_loc rfl (has_get hH 7 rfl) rfl rfl) rfl spOk_nil) <| st (zPD_v (vIndexAddr_sl rfl rfl (by simp) (by simp))) <| st (zLD_idle (wL_ref rfl rfl rfl) rfl) <| st (zLD_v (wL_loc rfl (has_get hH 2 rfl) rfl rfl) rfl (spOk_apart rfl spOk_nil)) <| st (cP_idle rfl (c144m _ _ x hx) rfl) <| st (zPD_v (vExt_eq rfl rfl)) <| st (zPD_v (vExt_eq rfl rfl)) ?_
  refine qDV_new hH 0 rfl (ev_allocQ rfl) rfl (spOk_apart (mtQ hH [] [2] [0, 0, 0] [] rfl rfl rfl rfl rfl rfl rfl) (spOk_apart (mtQ hH [] [7] [0, 0, 0] [] rfl rfl rfl rfl rfl rfl rfl) spOk_nil)) rfl rfl fun H5 hH => ?_
  refine qDN_put hH 0 rfl rfl rfl rfl ⟨_, rfl, rfl⟩ rfl rfl rfl (spOk_bef rfl (spOk_bef rfl (spOk_bef rfl spOk_nil))) fun H6 hH => ?_
  refine zVD_q (vMv_q rfl) rfl ?_
  refine zpA <| zpR <| st (zP_v (vInt_any rfl rfl (fun _ _ => rfl) rfl)) <| zpf rfl <| zpK ?_
  refine qd4 hH fun n7 Hn7 hH => ?_
  refine st (zPD_v (vFieldAddr_loc rfl)) <| st (zLD_v (wL_loc rfl (has_get hH 12 rfl) rfl rfl) rfl spOk_nil) <| st (zPD_v (vFieldAddr_loc rfl)) <| st (zLD_v (wL_loc rfl (has_get hH 6 rfl) rfl rfl) rfl (spOk_apart rfl spOk_nil)) ?_
  refine qDP_new hH 3 rfl rfl rfl (spOk_bef rfl (spOk_apart (mtQ hH [] [12] [3, 3, 3] [] rfl rfl rfl rfl rfl rfl rfl) spOk_nil)) rfl fun H8 hH => ?_
  refine qDP_new hH 2 rfl (append_firstG row9 rfl rfl (has_get hH 3 rfl) rfl (by decide) (by omega)) rfl (spOk_bef rfl (spOk_bef rfl (spOk_bef rfl spOk_nil))) rfl fun H9 hH => ?_
  refine st (zPD_v (vFieldAddr_loc rfl)) <| st (zLD_v (wL_loc rfl (has_get hH 12 rfl) rfl rfl) rfl (spOk_apart (mtQ hH [2, 2, 2] [3] [] [12] rfl rfl rfl rfl rfl rfl rfl) (spOk_apart (mtQ hH [3, 3, 3] [] [] [12] rfl rfl rfl rfl rfl rfl rfl) (spOk_apart rfl (spOk_apart rfl spOk_nil))))) <| st (zLD_v (wL_loc rfl (has_get hH 4 rfl) rfl rfl) rfl (spOk_apart rfl (spOk_apart (mtQ hH [2, 2, 2] [3] [] [4] rfl rfl rfl rfl rfl rfl rfl) (spOk_apart (mtQ hH [3, 3, 3] [] [] [4] rfl rfl rfl rfl rfl rfl rfl) (spOk_apart rfl (spOk_apart rfl spOk_nil)))))) ?_
  refine qDP_new hH 1 rfl rfl rfl (spOk_bef rfl (spOk_apart (mtQ hH [] [12] [1, 1, 1] [] rfl rfl rfl rfl rfl rfl rfl) (spOk_apart (mtQ hH [2, 2, 2] [3] [1, 1, 1] [] rfl rfl rfl rfl rfl rfl rfl) (spOk_apart (mtQ hH [3, 3, 3] [] [1, 1, 1] [] rfl rfl rfl rfl rfl rfl rfl) (spOk_apart (mtQ hH [] [6] [1, 1, 1] [] rfl rfl rfl rfl rfl rfl rfl) (spOk_apart (mtQ hH [] [12] [1, 1, 1] [] rfl rfl rfl rfl rfl rfl rfl) spOk_nil)))))) rfl fun H10 hH => ?_
  refine qDP_new hH 0 rfl (append_firstG row29 rfl rfl (has_get hH 1 rfl) rfl (by decide) (by omega)) rfl (spOk_bef rfl (spOk_bef rfl (spOk_bef rfl (spOk_bef rfl (spOk_bef rfl (spOk_bef rfl (spOk_bef rfl spOk_nil))))))) rfl fun H11 hH => ?_
  refine st (zPD_v (vFieldAddr_loc rfl)) ?_
  refine qDN_put hH 12 rfl rfl rfl rfl ⟨_, rfl, rfl⟩ rfl rfl rfl (spOk_bef rfl (spOk_bef rfl (spOk_bef rfl (spOk_bef rfl (spOk_bef rfl (spOk_bef rfl (spOk_bef rfl (spOk_bef rfl spOk_nil)))))))) fun H12 hH => ?_
  refine st (zPD_v (vFieldAddr_loc rfl)) ?_
  refine qDN_put hH 12 rfl rfl rfl rfl ⟨_, rfl, rfl⟩ rfl rfl rfl (spOk_bef rfl (spOk_bef rfl (spOk_bef rfl (spOk_bef rfl (spOk_bef rfl (spOk_bef rfl (spOk_bef rfl (spOk_bef rfl (spOk_bef rfl spOk_nil))))))))) fun H13 hH => ?_
  refine endQ hH 10 rfl rfl fun H14 hH => ?_
  exact ⟨_, has_pickT hH [7, 8, 9, 10, 11, 12, 2, 0] 13 rfl rfl rfl (by decide) rfl, rfl, _, rfl, _, _, _, _, .inr ⟨by simp, _, _, rfl⟩⟩
 ·refine round_goQ (E := E1) (GE := GE E1) (LZ := LZ E1) (k := k + 3) (zl := M3 E1) (d := d128 l s rr e o) (fun p fr' => p = true ∧ ∃ g, fr' = A :: B :: C :: g ∧ Fr128 l s o X (done ++ [x]) g) (ye_at _ _) rfl hH 3 rfl rfl ?_
  simp only [sMapR] at hH
  unfold M3
  dsimp only
  refine st zReg_eq ?_
  refine qV_new hH (ev_allocQ rfl) (fun _ => rfl) fun n1 Hn1 hH => ?_
  refine qN_put hH 0 rfl rfl rfl rfl ⟨_, rfl, rfl⟩ rfl rfl rfl fun H2 hH => ?_
  refine aftQ hH 4 rfl rfl fun H3 hH => ?_
  dsimp only
  refine st zBlock_app <| zpA ?_
  refine qd2 hH fun n4 Hn4 hH => ?_
  refine st (zPD_v (vFieldAddr_loc rfl)) <| st (zLD_v (wL_loc rfl (has_get hH 7 rfl) rfl rfl) rfl spOk_nil) <| st (zPD_v (vIndexAddr_sl rfl rfl (by simp) (by simp))) <| st (zLD_idle (wL_ref rfl rfl rfl) rfl) <| st (zLD_v (wL_loc rfl (has_get hH 2 rfl) rfl rfl) rfl (spOk_apart rfl spOk_nil)) <| st (cP_idle rfl (c144m _ _ x hx) rfl) <| st (zPD_v (vExt_eq rfl rfl)) <| st (zPD_v (vExt_eq rfl rfl)) ?_
  refine qDV_new hH 0 rfl (ev_allocQ rfl) rfl (spOk_apart (mtQ hH [] [2] [0, 0, 0] [] rfl rfl rfl rfl rfl rfl rfl) (spOk_apart (mtQ hH [] [7] [0, 0, 0] [] rfl rfl rfl rfl rfl rfl rfl) spOk_nil)) rfl rfl fun H5 hH => ?_
  refine qDN_put hH 0 rfl rfl rfl rfl ⟨_, rfl, rfl⟩ rfl rfl rfl (spOk_bef rfl (spOk_bef rfl (spOk_bef rfl spOk_nil))) fun H6 hH => ?_
  refine zVD_q (vMv_q rfl) rfl ?_
  refine zpA <| zpR <| st (zP_v (vInt_any rfl rfl (fun _ _ => rfl) rfl)) <| zpf rfl <| zpK ?_
  refine qd4 hH fun n7 Hn7 hH => ?_
  refine st (zPD_v (vFieldAddr_loc rfl)) <| st (zLD_v (wL_loc rfl (has_get hH 12 rfl) rfl rfl) rfl spOk_nil) <| st (zPD_v (vFieldAddr_loc rfl)) <| st (zLD_v (wL_loc rfl (has_get hH 6 rfl) rfl rfl) rfl (spOk_apart rfl spOk_nil)) ?_
  refine qDP_new hH 3 rfl rfl rfl (spOk_bef rfl (spOk_apart (mtQ hH [] [12] [3, 3, 3] [] rfl rfl rfl rfl rfl rfl rfl) spOk_nil)) rfl fun H8 hH => ?_
  refine qDP_app hH 13 2 rfl (append_nextG row9 rfl (has_get hH 13 rfl) (by omega) rfl (has_get hH 3 rfl) rfl (by decide) (by omega)) rfl (spOk_bef rfl (spOk_bef rfl (spOk_bef rfl spOk_nil))) rfl rfl rfl fun H9 hH => ?_
  refine st (zPD_v (vFieldAddr_loc rfl)) <| st (zLD_v (wL_loc rfl (has_get hH 12 rfl) rfl rfl) rfl (spOk_apart (mtQ hH [2, 2, 2, 13] [3] [] [12] rfl rfl rfl rfl rfl rfl rfl) (spOk_apart (mtQ hH [3, 3, 3] [] [] [12] rfl rfl rfl rfl rfl rfl rfl) (spOk_apart rfl (spOk_apart rfl spOk_nil))))) <| st (zLD_v (wL_loc rfl (has_get hH 4 rfl) rfl rfl) rfl (spOk_apart rfl (spOk_apart (mtQ hH [2, 2, 2, 13] [3] [] [4] rfl rfl rfl rfl rfl rfl rfl) (spOk_apart (mtQ hH [3, 3, 3] [] [] [4] rfl rfl rfl rfl rfl rfl rfl) (spOk_apart rfl (spOk_apart rfl spOk_nil)))))) ?_
  refine qDP_new hH 1 rfl rfl rfl (spOk_bef rfl (spOk_apart (mtQ hH [] [12] [1, 1, 1] [] rfl rfl rfl rfl rfl rfl rfl) (spOk_apart (mtQ hH [2, 2, 2, 13] [3] [1, 1, 1] [] rfl rfl rfl rfl rfl rfl rfl) (spOk_apart (mtQ hH [3, 3, 3] [] [1, 1, 1] [] rfl rfl rfl rfl rfl rfl rfl) (spOk_apart (mtQ hH [] [6] [1, 1, 1] [] rfl rfl rfl rfl rfl rfl rfl) (spOk_apart (mtQ hH [] [12] [1, 1, 1] [] rfl rfl rfl rfl rfl rfl rfl) spOk_nil)))))) rfl fun H10 hH => ?_
  refine qDP_app hH 14 0 rfl (append_nextG row29 rfl (has_get hH 14 rfl) (by omega) rfl (has_get hH 1 rfl) rfl (by decide) (by omega)) rfl (spOk_bef rfl (spOk_bef rfl (spOk_bef rfl (spOk_bef rfl (spOk_bef rfl (spOk_bef rfl (spOk_bef rfl spOk_nil))))))) rfl rfl rfl fun H11 hH => ?_
  refine st (zPD_v (vFieldAddr_loc rfl)) ?_
  refine qDN_put hH 12 rfl rfl rfl rfl ⟨_, rfl, rfl⟩ rfl rfl rfl (spOk_bef rfl (spOk_bef rfl (spOk_bef rfl (spOk_bef rfl (spOk_bef rfl (spOk_bef rfl (spOk_bef rfl (spOk_bef rfl spOk_nil)))))))) fun H12 hH => ?_
  refine st (zPD_v (vFieldAddr_loc rfl)) ?_
  refine qDN_put hH 12 rfl rfl rfl rfl ⟨_, rfl, rfl⟩ rfl rfl rfl (spOk_bef rfl (spOk_bef rfl (spOk_bef rfl (spOk_bef rfl (spOk_bef rfl (spOk_bef rfl (spOk_bef rfl (spOk_bef rfl (spOk_bef rfl spOk_nil))))))))) fun H13 hH => ?_
  refine endQ hH 10 rfl rfl fun H14 hH => ?_
  exact ⟨_, has_pickT hH [7, 8, 9, 10, 11, 12, 2, 0] 15 rfl rfl rfl (by decide) rfl, rfl, _, rfl, _, _, _, _, .inr ⟨by simp, _, _, by rw [List.map_append, List.map_append, List.map_cons, List.map_cons, List.map_nil, List.map_nil, txtC_app1, numC_app1, List.length_append]; rfl⟩⟩
end Go.Proofs.PxM6
