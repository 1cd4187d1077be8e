/- CanonMaps: its loops (walks by zauto). -/
import Derived.Test.YtjpllnhlpgbgmaaGreatPzM6Qk
set_option linter.unusedVariables false
set_option linter.unusedSimpArgs false
set_option maxRecDepth 100000
set_option maxHeartbeats 8000000
namespace Go.Proofs.PxM6
open Go Go.Px Go.Proofs
def byC (l : List Nat) : List AV := l.map fun (n : Nat) => .int .u8 (n : Int)
theorem byC_len (l : List Nat) : (byC l).length = l.length := by simp [byC]
theorem by_at {l : List Nat} {i x : Nat} (h : l[i]? = some x) : (byC l).drop (i * 1) = .int .u8 (x : Int) :: (byC l).drop (i * 1 + 1) := by
  have hlt := (List.getElem?_eq_some_iff.1 h).1
  have e := (List.getElem?_eq_some_iff.1 h).2
  rw [Nat.mul_one, List.drop_eq_getElem_cons (by simpa [byC] using hlt)]
  simp [byC, e]
def mC (m : List Nat) : List AV := m.map fun (n : Nat) => .int .u64 (n : Int)
theorem u8_wrap {y : Nat} (h : y < 256) : IntKind.u8.wrap (y : Int) = y := by simp [IntKind.wrap, IntKind.bits, IntKind.signed]; omega
theorem tRem {x c : Nat} (hx : x < 256) (hc : 0 < c) : intBin .rem .u8 (x : Int) (c : Int) = some (.int .u8 ((x % c : Nat) : Int)) := by
  have h1 : ¬ ((c : Int) = 0) := by omega
  have h2 : x % c < 256 := Nat.lt_of_le_of_lt (Nat.mod_le _ _) hx
  simp only [intBin, h1, if_false]
  rfl
theorem tAdd8 {k : Nat} (h : 97 + k < 256) : intBin .add .u8 97 (k : Int) = some (.int .u8 ((97 + k : Nat) : Int)) := by
  simp only [intBin]
  rw [show (97 : Int) + (k : Int) = ((97 + k : Nat) : Int) by simp, u8_wrap h]
theorem ia30 {L V : List AV} {H : Heap} {a b : O} {kd : IntKind} {k nm : Nat} (h : k < 8) (ha : gO L V a = .loc nm 0) (hb : gO L V b = .int kd (k : Int)) : evalFA E1 L V H (.indexAddr 30 a b) = some (.val (.loc nm k), Acc.none) := by
  have h30 : ∃ i, E1.ty 30 = some i ∧ i.desc = .array 8 24 := ⟨_, rfl, rfl⟩
  have h24 : ∃ i, E1.ty 24 = some i ∧ i.size = 1 := ⟨_, rfl, rfl⟩
  obtain ⟨i, h1, h2⟩ := h30
  obtain ⟨j, h3, h4⟩ := h24
  simp [evalFA, indexAddrA, h1, h2, h3, h4, ha, hb]
  omega
theorem mC_at {m : List Nat} {k x : Nat} (h : m[k]? = some x) : mkV false (((mC m).drop k).take 1) = some (.int .u64 (x : Int)) := by
  have hlt := (List.getElem?_eq_some_iff.1 h).1
  have e := (List.getElem?_eq_some_iff.1 h).2
  rw [List.drop_eq_getElem_cons (by simpa [mC] using hlt)]
  simp [mC, e, mkV]
theorem mC_lay {m : List Nat} {k x : Nat} (h : k < m.length) : lay (mC m) k [.int .u64 (x : Int)] = mC (m.set k x) := by
  unfold lay mC
  rw [List.set_eq_take_append_cons_drop]
  simp [h]
theorem putK {P : Ans → Prop} {L V : List AV} {H : Heap} {K : KB} {call : CallTT} {lt : Bool} {ix : Nat} {sl : Option Nat} {l l' : HL} {nm k x : Nat} {m : List Nat} {p v : O} (hH : Has H l) (i : Nat) (ha : gO L V p = .loc nm k) (hx : gO L V v = .int .u64 (x : Int)) (hi : l[i]? = some (nm, .row 30 (mC m) false)) (hkm : k < m.length) (hs : setC l i (nm, AO.row 30 (mC (m.set k x)) false) some = some l')
    (hk : ∀ H', Has H' l' → P (K L V (rep H'))) : P (zStep E1 call ⟨.store 24 p v, .none, none, lt, ix, sl⟩ K L V (rep H)) := by
  have h := ev_store (E := E1) (L := L) (V := V) (H := H) (st := 24) (x := .int .u64 (x : Int)) ha hx (has_get hH i hi) ⟨_, rfl, rfl⟩ rfl (Nat.ble_eq_true_of_le (by simp [mC, cellsOf]; omega))
  rw [show lay (mC m) k (cellsOf (.int .u64 (x : Int))) = mC (m.set k x) from mC_lay hkm] at h
  rw [sN_put h]
  refine hk _ ?_
  rw [← setC_ok hs]; exact has_set hH i hi
theorem conv22 {L V : List AV} {H : Heap} {a : O} {y nm : Nat} {f : Bool} (hy : y < 256) (ha : gO L V a = .own nm 0 1 1) (hH : H[nm]? = some (.row 5 [.int .u8 y] f)) : evalFA E1 L V H (.conv 22 9 a) = some (.val (.str [y]), Acc.read nm) := by
  have h22 : ∃ i, E1.ty 22 = some i ∧ i.desc = .slice 5 := ⟨_, rfl, rfl⟩
  have h5 : ∃ i, E1.ty 5 = some i ∧ i.desc = .int .u8 := ⟨_, rfl, rfl⟩
  have h9 : ∃ i, E1.ty 9 = some i ∧ i.desc = .str := ⟨_, rfl, rfl⟩
  obtain ⟨i, h1, h2⟩ := h22
  obtain ⟨j, h3, h4⟩ := h5
  obtain ⟨s, h6, h7⟩ := h9
  simp [evalFA, convA, h1, h2, h6, h7, ha, bstrA, h3, h4, contentA, hH, bytesA]
  omega
/-! ### what the first loop has -/
def nAt (ns : List Nat) (i : Nat) : Nat := match ns[i]? with
  | some x => x % 5
  | none => 0
def tAt (x : Nat) : List Nat := [97 + x % 8]
def numsI (ns : List Nat) (i : Nat) : List Nat := (List.range i).map (nAt ns)
def mostI (ks ns : List Nat) : Nat → List Nat
  | 0 => [0, 0, 0, 0, 0, 0, 0, 0]
  | i + 1 => match ks[i]? with
    | some x => (mostI ks ns i).set (x % 8) (max ((mostI ks ns i).getD (x % 8) 0) (nAt ns i))
    | none => mostI ks ns i
theorem mostI_len (ks ns : List Nat) : ∀ i, (mostI ks ns i).length = 8
  | 0 => rfl
  | i + 1 => by
    unfold mostI
    split <;> simp [mostI_len ks ns i]
def Fr3 (ks ns : List Nat) (vc mc i : Nat) (fr : HL) : Prop :=
  (i = 0 ∧ fr = [(mc, .row 30 (mC (mostI ks ns i)) false), (vc, .row 29 [.int .u64 0, .int .u64 0, .sl 0 [] true, .sl 0 [] true, .sl 0 [] true] false)]) ∨
  (i ≠ 0 ∧ ∃ nS nV, fr = [(mc, .row 30 (mC (mostI ks ns i)) false), (vc, .row 29 [.int .u64 0, .int .u64 0, .own nS 0 i 1, .sl 0 [] true, .own nV 0 i 5] false), (nS, .row 9 (txtC ((ks.take i).map tAt)) false), (nV, .row 29 (numC (numsI ns i)) false)])
noncomputable def body3a (call : CallTT) : CZ := (zSeq (zSeq (zReg fun k => (zP (vLenL (.v 0))) ((zP (vInt E1 fLss .lss 3 false false (.v 1) (.l 0))) k))
  (zCond (.l 0) zSkip (zExit 0)))
  (zSeq (zBlock 1 (zSeq (zReg fun k => (zV 5 (vMv (.k (.int .u64 0)))) k)
  (zSeq (zSeq (zReg fun k => (zP (vLenL (.v 2))) ((zP (vInt E1 fLss .lss 3 false false (.v 1) (.l 0))) k))
  (zCond (.l 0) (zReg fun k => (zP (vIndexAddr 1 (.v 2) (.v 1))) ((zL 1 false (.l 0)) ((zP (vInt E1 (fGen .rem) .rem 5 false true (.l 0) (.k (.int .u8 5)))) ((zP (vConv .u64 (.l 0))) ((zV 5 (vMv (.l 0))) k))))) zSkip))
  (zSeq (zReg fun k => (zP (vIndexAddr 1 (.v 0) (.v 1))) ((zL 1 false (.l 0)) ((zP (vInt E1 (fGen .rem) .rem 5 false true (.l 0) (.k (.int .u8 8)))) ((zV 4 (vMv (.l 0))) k))))
  (zSeq (zDreg 5 fun n0 k => (zPD (vFieldAddr 2 (.v 3))) ((zLD B0 1 1 false (.l 0)) ((zPD (vInt E1 fAdd .add 5 true false (.k (.int .u8 97)) (.v 4))) ((zStepD E1 call B0 n0 ⟨.buildSlice 22 1 [(0, (.l 0))], .push, none, false, 4, (some 0)⟩) ((zStepD E1 call B0 n0 ⟨.conv 22 9 (.l 0), .push, none, false, 5, none⟩) ((zStepD E1 call B0 n0 ⟨.buildSlice 25 1 [(0, (.l 0))], .push, none, false, 6, (some 1)⟩) ((zStepD E1 call B0 n0 ⟨.append 25 25 (.l 4) (.l 0), .push, none, false, 7, (some 2)⟩) ((zPD (vFieldAddr 4 (.v 3))) ((zLD B0 9 1 false (.l 0)) ((zStepD E1 call B0 n0 ⟨.build 29 [(0, (.v 5))], .push, none, false, 11, none⟩) ((zStepD E1 call B0 n0 ⟨.buildSlice 27 1 [(0, (.l 0))], .push, none, false, 12, (some 3)⟩) ((zStepD E1 call B0 n0 ⟨.append 27 27 (.l 2) (.l 0), .push, none, false, 13, (some 4)⟩) ((zPD (vFieldAddr 2 (.v 3))) ((zStepD E1 call B0 n0 ⟨.store 25 (.l 0) (.l 6), .none, none, false, 15, none⟩) ((zPD (vFieldAddr 4 (.v 3))) ((zStepD E1 call B0 n0 ⟨.store 27 (.l 0) (.l 2), .none, none, false, 17, none⟩) k))))))))))))))))
  (zReg fun k => (zStep E1 call ⟨.indexAddr 30 (.v 6) (.v 4), .push, none, true, 2, none⟩) ((zL 1 false (.l 0)) ((zStep E1 call ⟨.most true [(.l 0), (.v 5)], .push, none, false, 5, none⟩) ((zStep E1 call ⟨.indexAddr 30 (.v 6) (.v 4), .push, none, true, 6, none⟩) ((zStep E1 call ⟨.store 24 (.l 0) (.l 1), .none, none, false, 7, none⟩) k))))))))))
  (zReg fun k => (zP (vMv (.v 1))) ((zP (vInt E1 fAdd .add 3 false true (.l 0) (.k (.int .i64 1)))) ((zV 1 (vMv (.l 0))) k)))))
set_option maxHeartbeats 4000000 in
theorem loop3a {P : Ans → Prop} {kn : KB} {kx : Nat → KB} {kr : KB} {call : CallTT} (ks ns : List Nat) (fk fn : Bool) (vc mc : Nat) (hks : ∀ x ∈ ks, x < 256) (hns : ∀ x ∈ ns, x < 256) (hl : ks.length ≤ 30) (v7 v8 v9 v10 v11 : AV)
    (hk : ∀ L v1 v4 v5 H fr, Fr3 ks ns vc mc ks.length fr → Has H fr → P (kx 0 L [.sl ks.length (byC ks) fk, v1, .sl ns.length (byC ns) fn, .loc vc 0, v4, v5, .loc mc 0, v7, v8, v9, v10, v11] (rep H))) :
    ∀ (d i q : Nat) (L : List AV) (H : Heap) (fr : HL) (v4 v5 : AV), i + d = ks.length → d < q → Fr3 ks ns vc mc i fr → Has H fr →
      P (zLoop q (body3a call) kn kx kr L [.sl ks.length (byC ks) fk, iV i, .sl ns.length (byC ns) fn, .loc vc 0, v4, v5, .loc mc 0, v7, v8, v9, v10, v11] (rep H))
  | 0, i, q, L, H, fr, v4, v5, hi, hq, hf, hH => by
    obtain ⟨q, rfl⟩ : ∃ q', q = q' + 1 := ⟨q - 1, by omega⟩
    obtain rfl : i = ks.length := by omega
    refine st zLoop_one ?_
    unfold body3a
    refine st (zSeq_app) ?_
    refine st (zSeq_reg) ?_
    refine st (zP_v (vLenL_sl rfl)) ?_
    refine st (zP_v (vInt_eq fLss_ok rfl rfl (fLss' (by omega)))) ?_
    refine st (zCond_f rfl) ?_
    refine st (zExit_app) ?_
    exact hk _ _ _ _ _ _ hf hH
  | d + 1, i, q, L, H, fr, v4, v5, hi, hq, hf, hH => by
    obtain ⟨q, rfl⟩ : ∃ q', q = q' + 1 := ⟨q - 1, by omega⟩
    obtain ⟨x, hx⟩ := get_some (l := ks) (i := i) (by omega)
    have hx2 := hks x (List.mem_of_getElem? hx)
    have hll := byC_len ks
    have hl2 := byC_len ns
    have hm8 := mostI_len ks ns i
    have hx8 : x % 8 < 8 := by omega
    refine st zLoop_one ?_
    unfold body3a
    have hga : (mostI ks ns i)[x % 8]? = some ((mostI ks ns i).getD (x % 8) 0) := by simp [List.getD, hm8, hx8]
    have htk : (ks.take (i + 1)).map tAt = (ks.take i).map tAt ++ [tAt x] := by rw [List.take_add_one, hx]; simp
    have hnk : numsI ns (i + 1) = numsI ns i ++ [nAt ns i] := by simp [numsI, List.range_succ]
    have hmk : mostI ks ns (i + 1) = (mostI ks ns i).set (x % 8) (max ((mostI ks ns i).getD (x % 8) 0) (nAt ns i)) := by simp only [mostI, hx]
    have e1 := txtC_len ((ks.take i).map tAt)
    have e2 := numC_len (numsI ns i)
    have e3 : ((ks.take i).map tAt).length = i := by simp; omega
    have e4 : (numsI ns i).length = i := by simp [numsI]
    by_cases hin : i < ns.length
    · obtain ⟨y, hy⟩ := get_some (l := ns) (i := i) hin
      have hy2 := hns y (List.mem_of_getElem? hy)
      have hnn : nAt ns i = y % 5 := by simp [nAt, hy]
      have hw : IntKind.u64.wrap ((y % 5 : Nat) : Int) = ((nAt ns i : Nat) : Int) := by rw [hnn]; exact u64_wrap (by omega)
      rcases hf with ⟨h0, rfl⟩ | ⟨h0, nS, nV, rfl⟩
      · refine st (zSeq_app) ?_
        refine st (zSeq_reg) ?_
        refine st (zP_v (vLenL_sl rfl)) ?_
        refine st (zP_v (vInt_eq fLss_ok rfl rfl (tLss (by omega)))) ?_
        refine st (zCond_t rfl) ?_
        refine st (zSkip_app) ?_
        refine st (zSeq_app) ?_
        refine st (zBlock_app) ?_
        refine st (zSeq_reg) ?_
        refine zV_q (vMv_q rfl) rfl ?_
        refine st (zSeq_app) ?_
        refine st (zSeq_reg) ?_
        refine st (zP_v (vLenL_sl rfl)) ?_
        refine st (zP_v (vInt_eq fLss_ok rfl rfl (tLss (by omega)))) ?_
        refine st (zCond_t rfl) ?_
        refine st (zReg_eq) ?_
        refine st (zP_v (vIndexAddr_sl rfl rfl (by omega) (by omega))) ?_
        rw [by_at hy]
        refine st (zL_v (wL_ref rfl rfl rfl)) ?_
        refine st (zP_v (vInt_eq (fGen_ok (by simp) (by simp)) rfl rfl (tRem (c := 5) hy2 (by decide)))) ?_
        refine st (zP_v (vConvX rfl hw)) ?_
        refine zV_q (vMv_q rfl) rfl ?_
        refine st (zSeq_reg) ?_
        refine st (zP_v (vIndexAddr_sl rfl rfl (by omega) (by omega))) ?_
        rw [by_at hx]
        refine st (zL_v (wL_ref rfl rfl rfl)) ?_
        refine st (zP_v (vInt_eq (fGen_ok (by simp) (by simp)) rfl rfl (tRem (c := 8) hx2 (by decide)))) ?_
        refine zV_q (vMv_q rfl) rfl ?_
        refine st (zSeq_app) ?_
        refine qd5 hH fun n1 Hn1 hH => ?_
        refine st (zPD_v (vFieldAddr_loc rfl)) ?_
        refine st (zLD_v (wL_loc rfl (has_get hH 6 rfl) rfl rfl) rfl spOk_nil) ?_
        refine st (zPD_v (vInt_eq fAdd_ok rfl rfl (tAdd8 (k := x % 8) (by omega)))) ?_
        refine qDP_new hH 4 rfl rfl rfl (spOk_apart (mtQ hH [] [6] [4, 4, 4] [] rfl rfl rfl rfl rfl rfl rfl) spOk_nil) rfl fun H2 hH => ?_
        refine st (dP_valR (conv22 (y := 97 + x % 8) (by omega) rfl (has_get hH 4 rfl)) rfl (by repeat' first | exact spOk_nil | refine spOk_bef rfl ?_ | refine spOk_apart rfl ?_)) ?_
        refine qDP_new hH 3 rfl rfl rfl (spOk_bef rfl (spOk_bef rfl (spOk_apart (mtQ hH [] [6] [3, 3, 3] [] rfl rfl rfl rfl rfl rfl rfl) spOk_nil))) rfl fun H3 hH => ?_
        refine qDP_new hH 2 rfl (append_firstG row9 rfl rfl (has_get hH 3 rfl) rfl (by decide) (by omega)) rfl (spOk_bef rfl (spOk_bef rfl (spOk_bef rfl (spOk_bef rfl spOk_nil)))) rfl fun H4 hH => ?_
        refine st (zPD_v (vFieldAddr_loc rfl)) ?_
        refine st (zLD_v (wL_loc rfl (has_get hH 6 rfl) rfl rfl) rfl (spOk_apart (mtQ hH [2, 2, 2] [3] [] [6] rfl rfl rfl rfl rfl rfl rfl) (spOk_apart (mtQ hH [3, 3, 3] [] [] [6] rfl rfl rfl rfl rfl rfl rfl) (spOk_apart rfl (spOk_apart (mtQ hH [4, 4, 4] [] [] [6] rfl rfl rfl rfl rfl rfl rfl) (spOk_apart rfl spOk_nil)))))) ?_
        refine st (dP_val (a := Acc.none) rfl rfl) ?_
        refine qDP_new hH 1 rfl rfl rfl (spOk_apart (mtQ hH [] [6] [1, 1, 1] [] rfl rfl rfl rfl rfl rfl rfl) (spOk_apart (mtQ hH [2, 2, 2] [3] [1, 1, 1] [] rfl rfl rfl rfl rfl rfl rfl) (spOk_apart (mtQ hH [3, 3, 3] [] [1, 1, 1] [] rfl rfl rfl rfl rfl rfl rfl) (spOk_apart (mtQ hH [] [4] [1, 1, 1] [] rfl rfl rfl rfl rfl rfl rfl) (spOk_apart (mtQ hH [4, 4, 4] [] [1, 1, 1] [] rfl rfl rfl rfl rfl rfl rfl) (spOk_apart (mtQ hH [] [6] [1, 1, 1] [] rfl rfl rfl rfl rfl rfl rfl) spOk_nil)))))) rfl fun H5 hH => ?_
        refine qDP_new hH 0 rfl (append_firstG row29 rfl rfl (has_get hH 1 rfl) rfl (by decide) (by omega)) rfl (spOk_bef rfl (spOk_bef rfl (spOk_bef rfl (spOk_bef rfl (spOk_bef rfl (spOk_bef rfl (spOk_bef rfl spOk_nil))))))) rfl fun H6 hH => ?_
        refine st (zPD_v (vFieldAddr_loc rfl)) ?_
        refine qDN_put hH 6 rfl rfl rfl rfl ⟨_, rfl, rfl⟩ rfl rfl rfl (spOk_bef rfl (spOk_bef rfl (spOk_bef rfl (spOk_bef rfl (spOk_bef rfl (spOk_bef rfl (spOk_bef rfl (spOk_bef rfl spOk_nil)))))))) fun H7 hH => ?_
        refine st (zPD_v (vFieldAddr_loc rfl)) ?_
        refine qDN_put hH 6 rfl rfl rfl rfl ⟨_, rfl, rfl⟩ rfl rfl rfl (spOk_bef rfl (spOk_bef rfl (spOk_bef rfl (spOk_bef rfl (spOk_bef rfl (spOk_bef rfl (spOk_bef rfl (spOk_bef rfl (spOk_bef rfl spOk_nil))))))))) fun H8 hH => ?_
        refine st (zReg_eq) ?_
        refine st (sP_val (ia30 hx8 rfl rfl)) ?_
        refine st (zL_v (wLoad_loc rfl (has_get hH 5 rfl) (by simp [mC, hm8]; omega) (mC_at hga))) ?_
        refine st (sP_val (ev_maxN rfl rfl)) ?_
        refine st (sP_val (ia30 hx8 rfl rfl)) ?_
        refine putK hH 5 rfl rfl rfl (by omega) rfl fun H9 hH => ?_
        refine st (zReg_eq) ?_
        refine st (zP_v (vMv_q rfl)) ?_
        refine st (zP_v (vInt_eq fAdd_ok rfl rfl (aAdd1 (by omega)))) ?_
        refine zV_q (vMv_q rfl) rfl ?_
        (have hH2 := has_pick hH [5, 6, 2, 0] rfl (by decide); exact loop3a ks ns fk fn vc mc hks hns hl v7 v8 v9 v10 v11 hk d (i + 1) q _ _ _ _ _ (by omega) (by omega) (.inr ⟨by omega, _, _, by rw [hmk, htk, hnk, txtC_app1, numC_app1]; subst h0; rfl⟩) hH2)
      · refine st (zSeq_app) ?_
        refine st (zSeq_reg) ?_
        refine st (zP_v (vLenL_sl rfl)) ?_
        refine st (zP_v (vInt_eq fLss_ok rfl rfl (tLss (by omega)))) ?_
        refine st (zCond_t rfl) ?_
        refine st (zSkip_app) ?_
        refine st (zSeq_app) ?_
        refine st (zBlock_app) ?_
        refine st (zSeq_reg) ?_
        refine zV_q (vMv_q rfl) rfl ?_
        refine st (zSeq_app) ?_
        refine st (zSeq_reg) ?_
        refine st (zP_v (vLenL_sl rfl)) ?_
        refine st (zP_v (vInt_eq fLss_ok rfl rfl (tLss (by omega)))) ?_
        refine st (zCond_t rfl) ?_
        refine st (zReg_eq) ?_
        refine st (zP_v (vIndexAddr_sl rfl rfl (by omega) (by omega))) ?_
        rw [by_at hy]
        refine st (zL_v (wL_ref rfl rfl rfl)) ?_
        refine st (zP_v (vInt_eq (fGen_ok (by simp) (by simp)) rfl rfl (tRem (c := 5) hy2 (by decide)))) ?_
        refine st (zP_v (vConvX rfl hw)) ?_
        refine zV_q (vMv_q rfl) rfl ?_
        refine st (zSeq_reg) ?_
        refine st (zP_v (vIndexAddr_sl rfl rfl (by omega) (by omega))) ?_
        rw [by_at hx]
        refine st (zL_v (wL_ref rfl rfl rfl)) ?_
        refine st (zP_v (vInt_eq (fGen_ok (by simp) (by simp)) rfl rfl (tRem (c := 8) hx2 (by decide)))) ?_
        refine zV_q (vMv_q rfl) rfl ?_
        refine st (zSeq_app) ?_
        refine qd5 hH fun n1 Hn1 hH => ?_
        refine st (zPD_v (vFieldAddr_loc rfl)) ?_
        refine st (zLD_v (wL_loc rfl (has_get hH 6 rfl) rfl rfl) rfl spOk_nil) ?_
        refine st (zPD_v (vInt_eq fAdd_ok rfl rfl (tAdd8 (k := x % 8) (by omega)))) ?_
        refine qDP_new hH 4 rfl rfl rfl (spOk_apart (mtQ hH [] [6] [4, 4, 4] [] rfl rfl rfl rfl rfl rfl rfl) spOk_nil) rfl fun H2 hH => ?_
        refine st (dP_valR (conv22 (y := 97 + x % 8) (by omega) rfl (has_get hH 4 rfl)) rfl (by repeat' first | exact spOk_nil | refine spOk_bef rfl ?_ | refine spOk_apart rfl ?_)) ?_
        refine qDP_new hH 3 rfl rfl rfl (spOk_bef rfl (spOk_bef rfl (spOk_apart (mtQ hH [] [6] [3, 3, 3] [] rfl rfl rfl rfl rfl rfl rfl) spOk_nil))) rfl fun H3 hH => ?_
        refine qDP_app hH 7 2 rfl (append_nextG row9 rfl (has_get hH 7 rfl) (by omega) rfl (has_get hH 3 rfl) rfl (by decide) (by omega)) rfl (spOk_bef rfl (spOk_bef rfl (spOk_bef rfl (spOk_bef rfl spOk_nil)))) rfl rfl rfl fun H4 hH => ?_
        refine st (zPD_v (vFieldAddr_loc rfl)) ?_
        refine st (zLD_v (wL_loc rfl (has_get hH 6 rfl) rfl rfl) rfl (spOk_apart (mtQ hH [2, 2, 2, 7] [3] [] [6] rfl rfl rfl rfl rfl rfl rfl) (spOk_apart (mtQ hH [3, 3, 3] [] [] [6] rfl rfl rfl rfl rfl rfl rfl) (spOk_apart rfl (spOk_apart (mtQ hH [4, 4, 4] [] [] [6] rfl rfl rfl rfl rfl rfl rfl) (spOk_apart rfl spOk_nil)))))) ?_
        refine st (dP_val (a := Acc.none) rfl rfl) ?_
        refine qDP_new hH 1 rfl rfl rfl (spOk_apart (mtQ hH [] [6] [1, 1, 1] [] rfl rfl rfl rfl rfl rfl rfl) (spOk_apart (mtQ hH [2, 2, 2, 7] [3] [1, 1, 1] [] rfl rfl rfl rfl rfl rfl rfl) (spOk_apart (mtQ hH [3, 3, 3] [] [1, 1, 1] [] rfl rfl rfl rfl rfl rfl rfl) (spOk_apart (mtQ hH [] [4] [1, 1, 1] [] rfl rfl rfl rfl rfl rfl rfl) (spOk_apart (mtQ hH [4, 4, 4] [] [1, 1, 1] [] rfl rfl rfl rfl rfl rfl rfl) (spOk_apart (mtQ hH [] [6] [1, 1, 1] [] rfl rfl rfl rfl rfl rfl rfl) spOk_nil)))))) rfl fun H5 hH => ?_
        refine qDP_app hH 8 0 rfl (append_nextG row29 rfl (has_get hH 8 rfl) (by omega) rfl (has_get hH 1 rfl) rfl (by decide) (by omega)) rfl (spOk_bef rfl (spOk_bef rfl (spOk_bef rfl (spOk_bef rfl (spOk_bef rfl (spOk_bef rfl (spOk_bef rfl spOk_nil))))))) rfl rfl rfl fun H6 hH => ?_
        refine st (zPD_v (vFieldAddr_loc rfl)) ?_
        refine qDN_put hH 6 rfl rfl rfl rfl ⟨_, rfl, rfl⟩ rfl rfl rfl (spOk_bef rfl (spOk_bef rfl (spOk_bef rfl (spOk_bef rfl (spOk_bef rfl (spOk_bef rfl (spOk_bef rfl (spOk_bef rfl spOk_nil)))))))) fun H7 hH => ?_
        refine st (zPD_v (vFieldAddr_loc rfl)) ?_
        refine qDN_put hH 6 rfl rfl rfl rfl ⟨_, rfl, rfl⟩ rfl rfl rfl (spOk_bef rfl (spOk_bef rfl (spOk_bef rfl (spOk_bef rfl (spOk_bef rfl (spOk_bef rfl (spOk_bef rfl (spOk_bef rfl (spOk_bef rfl spOk_nil))))))))) fun H8 hH => ?_
        refine st (zReg_eq) ?_
        refine st (sP_val (ia30 hx8 rfl rfl)) ?_
        refine st (zL_v (wLoad_loc rfl (has_get hH 5 rfl) (by simp [mC, hm8]; omega) (mC_at hga))) ?_
        refine st (sP_val (ev_maxN rfl rfl)) ?_
        refine st (sP_val (ia30 hx8 rfl rfl)) ?_
        refine putK hH 5 rfl rfl rfl (by omega) rfl fun H9 hH => ?_
        refine st (zReg_eq) ?_
        refine st (zP_v (vMv_q rfl)) ?_
        refine st (zP_v (vInt_eq fAdd_ok rfl rfl (aAdd1 (by omega)))) ?_
        refine zV_q (vMv_q rfl) rfl ?_
        (have hH2 := has_pick hH [5, 6, 2, 0] rfl (by decide); exact loop3a ks ns fk fn vc mc hks hns hl v7 v8 v9 v10 v11 hk d (i + 1) q _ _ _ _ _ (by omega) (by omega) (.inr ⟨by omega, _, _, by rw [hmk, htk, hnk, txtC_app1, numC_app1]; rfl⟩) hH2)
    · have hnn : nAt ns i = 0 := by simp [nAt, List.getElem?_eq_none (Nat.le_of_not_lt hin)]
      rw [hnn] at hmk hnk
      rcases hf with ⟨h0, rfl⟩ | ⟨h0, nS, nV, rfl⟩
      · refine st (zSeq_app) ?_
        refine st (zSeq_reg) ?_
        refine st (zP_v (vLenL_sl rfl)) ?_
        refine st (zP_v (vInt_eq fLss_ok rfl rfl (tLss (by omega)))) ?_
        refine st (zCond_t rfl) ?_
        refine st (zSkip_app) ?_
        refine st (zSeq_app) ?_
        refine st (zBlock_app) ?_
        refine st (zSeq_reg) ?_
        refine zV_q (vMv_q rfl) rfl ?_
        refine st (zSeq_app) ?_
        refine st (zSeq_reg) ?_
        refine st (zP_v (vLenL_sl rfl)) ?_
        refine st (zP_v (vInt_eq fLss_ok rfl rfl (fLss' (by omega)))) ?_
        refine st (zCond_f rfl) ?_
        refine st (zSkip_app) ?_
        refine st (zSeq_reg) ?_
        refine st (zP_v (vIndexAddr_sl rfl rfl (by omega) (by omega))) ?_
        rw [by_at hx]
        refine st (zL_v (wL_ref rfl rfl rfl)) ?_
        refine st (zP_v (vInt_eq (fGen_ok (by simp) (by simp)) rfl rfl (tRem (c := 8) hx2 (by decide)))) ?_
        refine zV_q (vMv_q rfl) rfl ?_
        refine st (zSeq_app) ?_
        refine qd5 hH fun n1 Hn1 hH => ?_
        refine st (zPD_v (vFieldAddr_loc rfl)) ?_
        refine st (zLD_v (wL_loc rfl (has_get hH 6 rfl) rfl rfl) rfl spOk_nil) ?_
        refine st (zPD_v (vInt_eq fAdd_ok rfl rfl (tAdd8 (k := x % 8) (by omega)))) ?_
        refine qDP_new hH 4 rfl rfl rfl (spOk_apart (mtQ hH [] [6] [4, 4, 4] [] rfl rfl rfl rfl rfl rfl rfl) spOk_nil) rfl fun H2 hH => ?_
        refine st (dP_valR (conv22 (y := 97 + x % 8) (by omega) rfl (has_get hH 4 rfl)) rfl (by repeat' first | exact spOk_nil | refine spOk_bef rfl ?_ | refine spOk_apart rfl ?_)) ?_
        refine qDP_new hH 3 rfl rfl rfl (spOk_bef rfl (spOk_bef rfl (spOk_apart (mtQ hH [] [6] [3, 3, 3] [] rfl rfl rfl rfl rfl rfl rfl) spOk_nil))) rfl fun H3 hH => ?_
        refine qDP_new hH 2 rfl (append_firstG row9 rfl rfl (has_get hH 3 rfl) rfl (by decide) (by omega)) rfl (spOk_bef rfl (spOk_bef rfl (spOk_bef rfl (spOk_bef rfl spOk_nil)))) rfl fun H4 hH => ?_
        refine st (zPD_v (vFieldAddr_loc rfl)) ?_
        refine st (zLD_v (wL_loc rfl (has_get hH 6 rfl) rfl rfl) rfl (spOk_apart (mtQ hH [2, 2, 2] [3] [] [6] rfl rfl rfl rfl rfl rfl rfl) (spOk_apart (mtQ hH [3, 3, 3] [] [] [6] rfl rfl rfl rfl rfl rfl rfl) (spOk_apart rfl (spOk_apart (mtQ hH [4, 4, 4] [] [] [6] rfl rfl rfl rfl rfl rfl rfl) (spOk_apart rfl spOk_nil)))))) ?_
        refine st (dP_val (a := Acc.none) rfl rfl) ?_
        refine qDP_new hH 1 rfl rfl rfl (spOk_apart (mtQ hH [] [6] [1, 1, 1] [] rfl rfl rfl rfl rfl rfl rfl) (spOk_apart (mtQ hH [2, 2, 2] [3] [1, 1, 1] [] rfl rfl rfl rfl rfl rfl rfl) (spOk_apart (mtQ hH [3, 3, 3] [] [1, 1, 1] [] rfl rfl rfl rfl rfl rfl rfl) (spOk_apart (mtQ hH [] [4] [1, 1, 1] [] rfl rfl rfl rfl rfl rfl rfl) (spOk_apart (mtQ hH [4, 4, 4] [] [1, 1, 1] [] rfl rfl rfl rfl rfl rfl rfl) (spOk_apart (mtQ hH [] [6] [1, 1, 1] [] rfl rfl rfl rfl rfl rfl rfl) spOk_nil)))))) rfl fun H5 hH => ?_
        refine qDP_new hH 0 rfl (append_firstG row29 rfl rfl (has_get hH 1 rfl) rfl (by decide) (by omega)) rfl (spOk_bef rfl (spOk_bef rfl (spOk_bef rfl (spOk_bef rfl (spOk_bef rfl (spOk_bef rfl (spOk_bef rfl spOk_nil))))))) rfl fun H6 hH => ?_
        refine st (zPD_v (vFieldAddr_loc rfl)) ?_
        refine qDN_put hH 6 rfl rfl rfl rfl ⟨_, rfl, rfl⟩ rfl rfl rfl (spOk_bef rfl (spOk_bef rfl (spOk_bef rfl (spOk_bef rfl (spOk_bef rfl (spOk_bef rfl (spOk_bef rfl (spOk_bef rfl spOk_nil)))))))) fun H7 hH => ?_
        refine st (zPD_v (vFieldAddr_loc rfl)) ?_
        refine qDN_put hH 6 rfl rfl rfl rfl ⟨_, rfl, rfl⟩ rfl rfl rfl (spOk_bef rfl (spOk_bef rfl (spOk_bef rfl (spOk_bef rfl (spOk_bef rfl (spOk_bef rfl (spOk_bef rfl (spOk_bef rfl (spOk_bef rfl spOk_nil))))))))) fun H8 hH => ?_
        refine st (zReg_eq) ?_
        refine st (sP_val (ia30 hx8 rfl rfl)) ?_
        refine st (zL_v (wLoad_loc rfl (has_get hH 5 rfl) (by simp [mC, hm8]; omega) (mC_at hga))) ?_
        refine st (sP_val (ev_maxN rfl rfl)) ?_
        refine st (sP_val (ia30 hx8 rfl rfl)) ?_
        refine putK hH 5 rfl rfl rfl (by omega) rfl fun H9 hH => ?_
        refine st (zReg_eq) ?_
        refine st (zP_v (vMv_q rfl)) ?_
        refine st (zP_v (vInt_eq fAdd_ok rfl rfl (aAdd1 (by omega)))) ?_
        refine zV_q (vMv_q rfl) rfl ?_
        (have hH2 := has_pick hH [5, 6, 2, 0] rfl (by decide); exact loop3a ks ns fk fn vc mc hks hns hl v7 v8 v9 v10 v11 hk d (i + 1) q _ _ _ _ _ (by omega) (by omega) (.inr ⟨by omega, _, _, by rw [hmk, htk, hnk, txtC_app1, numC_app1]; subst h0; rfl⟩) hH2)
      · refine st (zSeq_app) ?_
        refine st (zSeq_reg) ?_
        refine st (zP_v (vLenL_sl rfl)) ?_
        refine st (zP_v (vInt_eq fLss_ok rfl rfl (tLss (by omega)))) ?_
        refine st (zCond_t rfl) ?_
        refine st (zSkip_app) ?_
        refine st (zSeq_app) ?_
        refine st (zBlock_app) ?_
        refine st (zSeq_reg) ?_
        refine zV_q (vMv_q rfl) rfl ?_
        refine st (zSeq_app) ?_
        refine st (zSeq_reg) ?_
        refine st (zP_v (vLenL_sl rfl)) ?_
        refine st (zP_v (vInt_eq fLss_ok rfl rfl (fLss' (by omega)))) ?_
        refine st (zCond_f rfl) ?_
        refine st (zSkip_app) ?_
        refine st (zSeq_reg) ?_
        refine st (zP_v (vIndexAddr_sl rfl rfl (by omega) (by omega))) ?_
        rw [by_at hx]
        refine st (zL_v (wL_ref rfl rfl rfl)) ?_
        refine st (zP_v (vInt_eq (fGen_ok (by simp) (by simp)) rfl rfl (tRem (c := 8) hx2 (by decide)))) ?_
        refine zV_q (vMv_q rfl) rfl ?_
        refine st (zSeq_app) ?_
        refine qd5 hH fun n1 Hn1 hH => ?_
        refine st (zPD_v (vFieldAddr_loc rfl)) ?_
        refine st (zLD_v (wL_loc rfl (has_get hH 6 rfl) rfl rfl) rfl spOk_nil) ?_
        refine st (zPD_v (vInt_eq fAdd_ok rfl rfl (tAdd8 (k := x % 8) (by omega)))) ?_
        refine qDP_new hH 4 rfl rfl rfl (spOk_apart (mtQ hH [] [6] [4, 4, 4] [] rfl rfl rfl rfl rfl rfl rfl) spOk_nil) rfl fun H2 hH => ?_
        refine st (dP_valR (conv22 (y := 97 + x % 8) (by omega) rfl (has_get hH 4 rfl)) rfl (by repeat' first | exact spOk_nil | refine spOk_bef rfl ?_ | refine spOk_apart rfl ?_)) ?_
        refine qDP_new hH 3 rfl rfl rfl (spOk_bef rfl (spOk_bef rfl (spOk_apart (mtQ hH [] [6] [3, 3, 3] [] rfl rfl rfl rfl rfl rfl rfl) spOk_nil))) rfl fun H3 hH => ?_
        refine qDP_app hH 7 2 rfl (append_nextG row9 rfl (has_get hH 7 rfl) (by omega) rfl (has_get hH 3 rfl) rfl (by decide) (by omega)) rfl (spOk_bef rfl (spOk_bef rfl (spOk_bef rfl (spOk_bef rfl spOk_nil)))) rfl rfl rfl fun H4 hH => ?_
        refine st (zPD_v (vFieldAddr_loc rfl)) ?_
        refine st (zLD_v (wL_loc rfl (has_get hH 6 rfl) rfl rfl) rfl (spOk_apart (mtQ hH [2, 2, 2, 7] [3] [] [6] rfl rfl rfl rfl rfl rfl rfl) (spOk_apart (mtQ hH [3, 3, 3] [] [] [6] rfl rfl rfl rfl rfl rfl rfl) (spOk_apart rfl (spOk_apart (mtQ hH [4, 4, 4] [] [] [6] rfl rfl rfl rfl rfl rfl rfl) (spOk_apart rfl spOk_nil)))))) ?_
        refine st (dP_val (a := Acc.none) rfl rfl) ?_
        refine qDP_new hH 1 rfl rfl rfl (spOk_apart (mtQ hH [] [6] [1, 1, 1] [] rfl rfl rfl rfl rfl rfl rfl) (spOk_apart (mtQ hH [2, 2, 2, 7] [3] [1, 1, 1] [] rfl rfl rfl rfl rfl rfl rfl) (spOk_apart (mtQ hH [3, 3, 3] [] [1, 1, 1] [] rfl rfl rfl rfl rfl rfl rfl) (spOk_apart (mtQ hH [] [4] [1, 1, 1] [] rfl rfl rfl rfl rfl rfl rfl) (spOk_apart (mtQ hH [4, 4, 4] [] [1, 1, 1] [] rfl rfl rfl rfl rfl rfl rfl) (spOk_apart (mtQ hH [] [6] [1, 1, 1] [] rfl rfl rfl rfl rfl rfl rfl) spOk_nil)))))) rfl fun H5 hH => ?_
        refine qDP_app hH 8 0 rfl (append_nextG row29 rfl (has_get hH 8 rfl) (by omega) rfl (has_get hH 1 rfl) rfl (by decide) (by omega)) rfl (spOk_bef rfl (spOk_bef rfl (spOk_bef rfl (spOk_bef rfl (spOk_bef rfl (spOk_bef rfl (spOk_bef rfl spOk_nil))))))) rfl rfl rfl fun H6 hH => ?_
        refine st (zPD_v (vFieldAddr_loc rfl)) ?_
        refine qDN_put hH 6 rfl rfl rfl rfl ⟨_, rfl, rfl⟩ rfl rfl rfl (spOk_bef rfl (spOk_bef rfl (spOk_bef rfl (spOk_bef rfl (spOk_bef rfl (spOk_bef rfl (spOk_bef rfl (spOk_bef rfl spOk_nil)))))))) fun H7 hH => ?_
        refine st (zPD_v (vFieldAddr_loc rfl)) ?_
        refine qDN_put hH 6 rfl rfl rfl rfl ⟨_, rfl, rfl⟩ rfl rfl rfl (spOk_bef rfl (spOk_bef rfl (spOk_bef rfl (spOk_bef rfl (spOk_bef rfl (spOk_bef rfl (spOk_bef rfl (spOk_bef rfl (spOk_bef rfl spOk_nil))))))))) fun H8 hH => ?_
        refine st (zReg_eq) ?_
        refine st (sP_val (ia30 hx8 rfl rfl)) ?_
        refine st (zL_v (wLoad_loc rfl (has_get hH 5 rfl) (by simp [mC, hm8]; omega) (mC_at hga))) ?_
        refine st (sP_val (ev_maxN rfl rfl)) ?_
        refine st (sP_val (ia30 hx8 rfl rfl)) ?_
        refine putK hH 5 rfl rfl rfl (by omega) rfl fun H9 hH => ?_
        refine st (zReg_eq) ?_
        refine st (zP_v (vMv_q rfl)) ?_
        refine st (zP_v (vInt_eq fAdd_ok rfl rfl (aAdd1 (by omega)))) ?_
        refine zV_q (vMv_q rfl) rfl ?_
        (have hH2 := has_pick hH [5, 6, 2, 0] rfl (by decide); exact loop3a ks ns fk fn vc mc hks hns hl v7 v8 v9 v10 v11 hk d (i + 1) q _ _ _ _ _ (by omega) (by omega) (.inr ⟨by omega, _, _, by rw [hmk, htk, hnk, txtC_app1, numC_app1]; rfl⟩) hH2)
end Go.Proofs.PxM6
