/- Numbers' bytes: one byte as a row, and as a string. -/
import Derived.Test.YtpdgbkmpcahjjaaPzR2F0
import Derived.Test.YtpdgbkmpcahjjaaPb3
import Derived.KernelRfl
set_option linter.unusedSimpArgs false
set_option linter.unusedVariables false
set_option maxRecDepth 100000
namespace Go.Proofs.PxR2
open Go Go.Px
structure ByteT (E : Env) (t e s : Nat) (it ie is : TyI) : Prop where
  ht : E.ty t = some it
  dt : it.desc = .slice e
  he : E.ty e = some ie
  de : ie.desc = .int .u8
  ze : ie.size = 1
  oe : ∃ z, ie.zero = [z]
  hs : E.ty s = some is
  ds : is.desc = .str
theorem build1 {E : Env} {t e s : Nat} {it ie is : TyI} (B : ByteT E t e s it ie is) {L V : List AV} {H : Heap} {a : O} {y : Int} (ha : gO L V a = .int .u8 y) :
    evalFA E L V H (.buildSlice t 1 [(0, a)]) = some (.new (.row e [.int .u8 y] false) (fun nm => .own nm 0 1 1), Acc.none) := by
  obtain ⟨z, hz⟩ := B.oe
  simp [evalFA, buildSliceA, B.ht, B.dt, B.he, B.ze, hz, ha, fillA, zerosA, cellsOf, lay]
theorem conv1 {E : Env} {t e s : Nat} {it ie is : TyI} (B : ByteT E t e s it ie is) {L V : List AV} {H : Heap} {a : O} {y nm : Nat} {f : Bool} (hy : y < 256) (ha : gO L V a = .own nm 0 1 1) (hH : H[nm]? = some (.row e [.int .u8 y] f)) :
    ∃ acc, evalFA E L V H (.conv t s a) = some (.val (.str [y]), acc) := by
  refine ⟨Acc.read nm, ?_⟩
  simp [evalFA, convA, B.ht, B.dt, B.hs, B.ds, ha, bstrA, B.he, B.de, contentA, hH, bytesA]
  omega
noncomputable def body68 (E : Env) (cy : CallYT) (Y : YE) : CZ := (zSeq (zSeq (zReg fun k => (zP (vInt E (fGen .geq) .geq 40 false true (.v 0) (.k (.int .u64 128)))) k) (zCond (.l 0) zSkip (zExit 0))) (zBlock 1 (zSeq (zReg fun k => (zP (vMv (.v 1))) ((zP (vInt E (fGen .rem) .rem 40 false true (.v 0) (.k (.int .u64 128)))) ((zP (vInt E fAdd .add 40 true false (.k (.int .u64 128)) (.l 0))) ((zP (vConv .u8 (.l 0))) ((zStep E (cy Y) ⟨.buildSlice 38 1 [(0, (.l 0))], .push, none, false, 5, (some 0)⟩) ((zStep E (cy Y) ⟨.conv 38 9 (.l 0), .push, none, false, 6, none⟩) ((zP (vInt E fAdd .add 9 false false (.l 5) (.l 0))) ((zV 1 (vMv (.l 0))) k)))))))) (zReg fun k => (zP (vMv (.v 0))) ((zP (vInt E (fGen .quo) .quo 40 false true (.l 0) (.k (.int .u64 128)))) ((zV 0 (vMv (.l 0))) k))))))
theorem u8_wrap {y : Nat} (h : y < 256) : IntKind.u8.wrap (y : Int) = y := by simp [IntKind.wrap, IntKind.bits, IntKind.signed]; omega
theorem u64_wrap {n : Nat} (h : n < 18446744073709551616) : IntKind.u64.wrap (n : Int) = n := by simp [IntKind.wrap, IntKind.bits, IntKind.signed]; omega
theorem round68 {E : Env} {e : Nat} {it ie is : TyI} (B : ByteT E 38 e 9 it ie is) (cy : CallYT) (Y : YE) (K : KB) (kx : Nat → KB) (kr : KB) (L : List AV) (n : Nat) (acc : List Nat) (a2 : AV) (H : Heap) (h1 : 128 ≤ n) (h2 : n < 18446744073709551616) (h3 : acc.length < 100) :
    ∃ L' o, body68 E cy Y K kx kr L [.int .u64 n, .str acc, a2] (rep H) = K L' [.int .u64 (n / 128 : Nat), .str (acc ++ [128 + n % 128]), a2] (rep (H ++ [o])) := by
  have hy : 128 + n % 128 < 256 := by omega
  have w1 : IntKind.u64.wrap (128 + ((n : Int).tmod 128)) = ((128 + n % 128 : Nat) : Int) := by
    rw [← u64_wrap (n := 128 + n % 128) (by omega)]; congr 1
  have wq : IntKind.u64.wrap ((n : Int).tdiv 128) = ((n / 128 : Nat) : Int) := by
    rw [← u64_wrap (n := n / 128) (by omega)]; congr 1
  have hc := fun (L : List AV) => conv1 B (L := .own H.length 0 1 1 :: L) (V := [.int .u64 n, .str acc, a2]) (H := H ++ [.row e [.int .u8 ((128 + n % 128 : Nat) : Int)] false]) (a := .l 0) (f := false) hy rfl (by simp)
  have ha : binB E .add 9 false false (.str acc) (.str [128 + n % 128]) = some (.str (acc ++ [128 + n % 128])) := by
    simp [binB, binB0, strBin, mostBytes]; omega
  refine ⟨[.int .u64 (n / 128 : Nat), .int .u64 n], .row e [.int .u8 ((128 + n % 128 : Nat) : Int)] false, ?_⟩
  unfold body68
  refine zSeq_app.trans ?_
  refine zSeq_reg.trans ?_
  refine (zP_v (vInt_eq (fGen_ok (by simp) (by simp)) rfl rfl rfl)).trans ?_
  refine (zCond_eq rfl).trans ?_
  rw [if_pos (by simp; omega)]
  refine zSkip_app.trans ?_
  refine zBlock_app.trans ?_
  refine zSeq_reg.trans ?_
  refine (zP_v vMv_eq).trans ?_
  refine (zP_v (vInt_eq (fGen_ok (by simp) (by simp)) rfl rfl rfl)).trans ?_
  refine (zP_v (vInt_eq fAdd_ok rfl rfl rfl)).trans ?_
  refine (zP_v (vConv_eq rfl)).trans ?_
  rw [w1, u8_wrap hy]
  refine (zStep_newH rfl (build1 B rfl)).trans ?_
  refine (zStep_valH rfl (hc _).choose_spec).trans ?_
  refine (zP_v (vInt_bin rfl rfl ha)).trans ?_
  refine (zV_v vMv_eq).trans ?_
  refine zReg_eq.trans ?_
  refine (zP_v vMv_eq).trans ?_
  refine (zP_v (vInt_eq (fGen_ok (by simp) (by simp)) rfl rfl rfl)).trans ?_
  rw [wq]
  refine (zV_v vMv_eq).trans ?_
  rfl
theorem exit68 {E : Env} (cy : CallYT) (Y : YE) (K : KB) (kx : Nat → KB) (kr : KB) (L : List AV) (n : Nat) (a1 a2 : AV) (T : TH) (h1 : n < 128) :
    ∃ L', body68 E cy Y K kx kr L [.int .u64 n, a1, a2] T = kx 0 L' [.int .u64 n, a1, a2] T := by
  refine ⟨[.bool (decide ((128 : Int) ≤ n))], ?_⟩
  unfold body68
  refine zSeq_app.trans ?_
  refine zSeq_reg.trans ?_
  refine (zP_v (vInt_eq (fGen_ok (by simp) (by simp)) rfl rfl rfl)).trans ?_
  refine (zCond_eq rfl).trans ?_
  rw [if_neg (by simp; omega)]
  refine zExit_app.trans ?_
  rfl
def numI : Nat → Nat → List Nat
  | 0, _ => []
  | m + 1, n => if n < 128 then [] else (128 + n % 128) :: numI m (n / 128)
def numE : Nat → Nat → Nat
  | 0, n => n
  | m + 1, n => if n < 128 then n else numE m (n / 128)
theorem numE_lt : ∀ (m n : Nat), n < 128 ^ (m + 1) → numE m n < 128
  | 0, n, h => by simpa [numE] using h
  | m + 1, n, h => by
    unfold numE; split
    · assumption
    · refine numE_lt m _ ?_
      rw [Nat.pow_succ] at h
      exact Nat.div_lt_of_lt_mul (by omega)
def numL (n : Nat) : List Nat := numI 9 n ++ [numE 9 n]
theorem loop68 {E : Env} {e : Nat} {it ie is : TyI} (B : ByteT E 38 e 9 it ie is) (cy : CallYT) (Y : YE) (kn : KB) (kx : Nat → KB) (kr : KB) (a2 : AV) :
    ∀ (m fuel n : Nat) (acc : List Nat) (L : List AV) (H : Heap), n < 128 ^ (m + 1) → n < 18446744073709551616 → m < fuel → acc.length + m < 50 →
      ∃ L' X, zLoop fuel (body68 E cy Y) kn kx kr L [.int .u64 n, .str acc, a2] (rep H) = kx 0 L' [.int .u64 (numE m n), .str (acc ++ numI m n), a2] (rep (H ++ X))
  | 0, fuel, n, acc, L, H, hn, h2, hf, ha => by
    obtain ⟨f, rfl⟩ : ∃ f, fuel = f + 1 := ⟨fuel - 1, by omega⟩
    rw [zLoop_succ]
    obtain ⟨L', e⟩ := exit68 (E := E) cy Y (zLoop f (body68 E cy Y) kn kx kr) kx kr L n (.str acc) a2 (rep H) (by simpa using hn)
    exact ⟨L', [], by rw [e]; simp [numE, numI]⟩
  | m + 1, fuel, n, acc, L, H, hn, h2, hf, ha => by
    obtain ⟨f, rfl⟩ : ∃ f, fuel = f + 1 := ⟨fuel - 1, by omega⟩
    rw [zLoop_succ]
    by_cases h : n < 128
    · obtain ⟨L', e⟩ := exit68 (E := E) cy Y (zLoop f (body68 E cy Y) kn kx kr) kx kr L n (.str acc) a2 (rep H) h
      exact ⟨L', [], by rw [e]; simp [numE, numI, h]⟩
    · obtain ⟨L1, o, e⟩ := round68 B cy Y (zLoop f (body68 E cy Y) kn kx kr) kx kr L n acc a2 H (by omega) h2 (by omega)
      obtain ⟨L', X, e2⟩ := loop68 B cy Y kn kx kr a2 m f (n / 128) (acc ++ [128 + n % 128]) L1 (H ++ [o]) (by rw [Nat.pow_succ] at hn; exact Nat.div_lt_of_lt_mul (by omega)) (by omega) (by omega) (by simp; omega)
      exact ⟨L', [o] ++ X, by rw [e, e2]; simp [numE, numI, h]⟩
theorem numI_len : ∀ (m n : Nat), (numI m n).length ≤ m
  | 0, n => by simp [numI]
  | m + 1, n => by
    unfold numI; split
    · simp
    · have := numI_len m (n / 128); simp; omega
theorem num68 {E : Env} {e : Nat} {it ie is : TyI} (B : ByteT E 38 e 9 it ie is) (cy : CallYT) (Y : YE) (k : Nat) (n : Nat) (H : Heap) (hn : n < 18446744073709551616) (hk : 9 < k) :
    ∃ X, bodyZ E cy Y k (G68 E) [.int .u64 n] (rep H) = some (.str (numL n), rep (H ++ X)) := by
  obtain ⟨L', X, e1⟩ := loop68 B cy Y (fun _ _ _ => none) (fun i L V H => ifZ (Nat.beq i 0) ((zSeq (zReg fun k => (zP (vConv .u8 (.v 0))) ((zStep E (cy Y) ⟨.buildSlice 38 1 [(0, (.l 0))], .push, none, false, 3, (some 0)⟩) ((zStep E (cy Y) ⟨.conv 38 9 (.l 0), .push, none, false, 4, none⟩) ((zP (vInt E fAdd .add 9 false false (.v 1) (.l 0))) ((zV 2 (vMv (.l 0))) k))))) zRet (finZ E [.tmp (.v 2)]) (fun _ _ _ _ => none) (finZ E [.tmp (.v 2)])) L V H) none) (finZ E [.tmp (.v 2)]) (.str []) 9 k n [] [] H (Nat.lt_of_lt_of_le hn (by decide)) hn hk (by simp)
  have hl : numE 9 n < 128 := numE_lt 9 n (Nat.lt_of_lt_of_le hn (by decide))
  have hw : IntKind.u8.wrap (numE 9 n : Int) = numE 9 n := u8_wrap (by omega)
  have hc := fun (L : List AV) => conv1 B (L := .own (H ++ X).length 0 1 1 :: L) (V := [.int .u64 (numE 9 n), .str (numI 9 n), .str []]) (H := H ++ X ++ [.row e [.int .u8 (numE 9 n)] false]) (a := .l 0) (f := false) (y := numE 9 n) (nm := (H ++ X).length) (Nat.lt_trans hl (by decide)) rfl (by simp)
  have ha : binB E .add 9 false false (.str (numI 9 n)) (.str [numE 9 n]) = some (.str (numL n)) := by
    have := numI_len 9 n
    simp [binB, binB0, strBin, mostBytes, numL]; omega
  have e0 : bodyZ E cy Y k (G68 E) [.int .u64 n] (rep H) = (G68 E).z cy Y k (finZ E [.tmp (.v 2)]) (fun _ _ _ _ => none) (finZ E [.tmp (.v 2)]) [] [.int .u64 n, .undef, .undef] (rep H) := by kernel_rfl
  refine ⟨X ++ [.row e [.int .u8 (numE 9 n)] false], ?_⟩
  refine e0.trans ?_
  unfold G68
  dsimp only
  refine zSeq_reg.trans ?_
  refine (zV_v vMv_eq).trans ?_
  refine zSeq_reg.trans ?_
  refine (zV_v vMv_eq).trans ?_
  refine zSeq_app.trans ?_
  refine zBlock_app.trans ?_
  refine e1.trans ?_
  show (zSeq (zReg fun k => (zP (vConv .u8 (.v 0))) ((zStep E (cy Y) ⟨.buildSlice 38 1 [(0, (.l 0))], .push, none, false, 3, (some 0)⟩) ((zStep E (cy Y) ⟨.conv 38 9 (.l 0), .push, none, false, 4, none⟩) ((zP (vInt E fAdd .add 9 false false (.v 1) (.l 0))) ((zV 2 (vMv (.l 0))) k))))) zRet (finZ E [.tmp (.v 2)]) (fun _ _ _ _ => none) (finZ E [.tmp (.v 2)])) L' _ _ = _
  refine zSeq_reg.trans ?_
  refine (zP_v (vConv_eq rfl)).trans ?_
  rw [hw]
  refine (zStep_newH rfl (build1 B rfl)).trans ?_
  refine (zStep_valH rfl (hc _).choose_spec).trans ?_
  refine (zP_v (vInt_bin rfl rfl ha)).trans ?_
  refine (zV_v vMv_eq).trans ?_
  refine zRet_app.trans ?_
  rw [← List.append_assoc]
  rfl
end Go.Proofs.PxR2
