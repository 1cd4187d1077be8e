/- The ring's marks and places, of every key and every node. -/
import Derived.Test.YtpdgbkmpcahjjaaPzV1Hash
import Derived.Test.YtpdgbkmpcahjjaaPzV1NumB
set_option linter.unusedSimpArgs false
set_option linter.unusedVariables false
set_option maxRecDepth 100000
namespace Go.Proofs.PxR2
open Go Go.Px
def onceI (x : Int) : Int := IntKind.u64.wrap (IntKind.u64.wrap ((BitVec.ofInt 64 x ^^^ BitVec.ofInt 64 (IntKind.u64.wrap (x.tdiv 4294967296))).toNat) * 11400714819323198485)
theorem once66 {E : Env} (cy : CallYT) (Y : YE) (k : Nat) (x : Int) (T : TH) : bodyZ E cy Y k (G66 E) [.int .u64 x] T = some (.int .u64 (onceI x), T) := by
  have e0 : bodyZ E cy Y k (G66 E) [.int .u64 x] T = (G66 E).z cy Y k (finZ E [.tmp (.v 1)]) (fun _ _ _ _ => none) (finZ E [.tmp (.v 1)]) [] [.int .u64 x, .undef] T := by kernel_rfl
  refine e0.trans ?_
  unfold G66
  dsimp only
  refine zSeq_reg.trans ?_
  refine (zV_v vMv_eq).trans ?_
  refine zSeq_reg.trans ?_
  refine (zP_v (vInt_eq (fGen_ok (by simp) (by simp)) rfl rfl rfl)).trans ?_
  refine (zP_v (vInt_eq (fGen_ok (by simp) (by simp)) rfl rfl rfl)).trans ?_
  refine (zP_v (vInt_eq (fGen_ok (by simp) (by simp)) rfl rfl rfl)).trans ?_
  refine (zV_v vMv_eq).trans ?_
  refine zRet_app.trans ?_
  rfl
noncomputable def body63 (E : Env) (cy : CallYT) (Y : YE) : CZ := (zSeq (zReg fun k => (zP (vInt E fLss .lss 3 false true (.v 0) (.k (.int .i64 2)))) k) (zSeq (zCond (.l 0) zSkip (zExit 0)) (zSeq (zBlock 1 (zReg fun k => (zP (vMv (.v 1))) ((zP (vMv (.v 1))) ((zP (vBin E .shr 40 false true (.l 0) (.k (.int .u64 32)))) ((zP (vInt E (fGen .xor) .xor 40 false false (.l 2) (.l 0))) ((zP (vInt E (fGen .mul) .mul 40 false true (.l 0) (.k (.int .u64 11400714819323198485)))) ((zV 1 (vMv (.l 0))) k))))))) (zReg fun k => (zP (vInt E fAdd .add 3 false true (.v 0) (.k (.int .i64 1)))) ((zV 0 (vMv (.l 0))) k)))))
theorem shr32 {E : Env} {n : Nat} (h : n < 18446744073709551616) : binB E .shr 40 false true (.int .u64 n) (.int .u64 32) = some (.int .u64 (IntKind.u64.wrap ((n : Int).tdiv 4294967296))) := by
  have w : IntKind.u64.wrap ((n : Int).tdiv 4294967296) = ((n / 4294967296 : Nat) : Int) := by
    rw [← u64_wrap (n := n / 4294967296) (by omega)]; congr 1
  rw [w]
  simp [binB, binB0, IntKind.bits]
  rw [Int.fdiv_eq_ediv_of_nonneg _ (by decide)]
theorem onceI_nat (x : Int) : ∃ n : Nat, n < 18446744073709551616 ∧ onceI x = n := by
  unfold onceI
  generalize (IntKind.u64.wrap ((BitVec.ofInt 64 x ^^^ BitVec.ofInt 64 (IntKind.u64.wrap (x.tdiv 4294967296))).toNat) * 11400714819323198485) = z
  refine ⟨(z % 18446744073709551616).toNat, by omega, ?_⟩
  rw [Int.toNat_of_nonneg (by omega)]
  simp [IntKind.wrap, IntKind.bits, IntKind.signed]
theorem round63 {E : Env} (cy : CallYT) (Y : YE) (K : KB) (kx : Nat → KB) (kr : KB) (L : List AV) (i n : Nat) (a2 : AV) (T : TH) (hi : i < 2) (hn : n < 18446744073709551616) :
    ∃ L', body63 E cy Y K kx kr L [.int .i64 i, .int .u64 n, a2] T = K L' [.int .i64 ((i + 1 : Nat) : Int), .int .u64 (onceI n), a2] T := by
  have hw : IntKind.i64.wrap ((i : Int) + 1) = ((i + 1 : Nat) : Int) := by rw [IntKind.wrap_i64]; omega
  refine ⟨[.int .i64 ((i + 1 : Nat) : Int)], ?_⟩
  unfold body63
  refine zSeq_reg.trans ?_
  refine (zP_v (vInt_eq fLss_ok rfl rfl rfl)).trans ?_
  refine zSeq_app.trans ?_
  refine (zCond_eq rfl).trans ?_
  rw [if_pos (by simp; omega)]
  refine zSkip_app.trans ?_
  refine zSeq_app.trans ?_
  refine zBlock_app.trans ?_
  refine zReg_eq.trans ?_
  refine (zP_v vMv_eq).trans ?_
  refine (zP_v vMv_eq).trans ?_
  refine (zP_v (vBin_eq rfl rfl (shr32 hn))).trans ?_
  refine (zP_v (vInt_eq (fGen_ok (by simp) (by simp)) rfl rfl rfl)).trans ?_
  refine (zP_v (vInt_eq (fGen_ok (by simp) (by simp)) rfl rfl rfl)).trans ?_
  refine (zV_v vMv_eq).trans ?_
  refine zReg_eq.trans ?_
  refine (zP_v (vInt_eq fAdd_ok rfl rfl rfl)).trans ?_
  rw [hw]
  refine (zV_v vMv_eq).trans ?_
  rfl
theorem exit63 {E : Env} (cy : CallYT) (Y : YE) (K : KB) (kx : Nat → KB) (kr : KB) (L : List AV) (a1 a2 : AV) (T : TH) :
    ∃ L', body63 E cy Y K kx kr L [.int .i64 (2 : Nat), a1, a2] T = kx 0 L' [.int .i64 (2 : Nat), a1, a2] T := by
  refine ⟨[.bool (decide (((2 : Nat) : Int) < 2))], ?_⟩
  unfold body63
  refine zSeq_reg.trans ?_
  refine (zP_v (vInt_eq fLss_ok rfl rfl rfl)).trans ?_
  refine zSeq_app.trans ?_
  refine (zCond_eq rfl).trans ?_
  rw [if_neg (by simp)]
  refine zExit_app.trans ?_
  rfl
theorem loop63 {E : Env} (cy : CallYT) (Y : YE) (k : Nat) (kn : KB) (kx : Nat → KB) (kr : KB) (L : List AV) (n : Nat) (a2 : AV) (T : TH) (hn : n < 18446744073709551616) :
    ∃ L', zLoop (k + 3) (body63 E cy Y) kn kx kr L [.int .i64 (0 : Nat), .int .u64 n, a2] T = kx 0 L' [.int .i64 (2 : Nat), .int .u64 (onceI (onceI n)), a2] T := by
  obtain ⟨m, hm, e⟩ := onceI_nat n
  obtain ⟨L1, r1⟩ := round63 (E := E) cy Y (zLoop (k + 2) (body63 E cy Y) kn kx kr) kx kr L 0 n a2 T (by omega) hn
  obtain ⟨L2, r2⟩ := round63 (E := E) cy Y (zLoop (k + 1) (body63 E cy Y) kn kx kr) kx kr L1 1 m a2 T (by omega) hm
  obtain ⟨L3, r3⟩ := exit63 (E := E) cy Y (zLoop k (body63 E cy Y) kn kx kr) kx kr L2 (.int .u64 (onceI m)) a2 T
  refine ⟨L3, ?_⟩
  rw [zLoop_succ]; refine r1.trans ?_
  rw [e, zLoop_succ]; refine r2.trans ?_
  rw [zLoop_succ]; exact r3
theorem spread63 {E : Env} (cy : CallYT) (Y : YE) (k : Nat) (n : Nat) (T : TH) (hn : n < 18446744073709551616) : bodyZ E cy Y (k + 3) (G63 E) [.int .u64 n] T = some (.int .u64 (onceI (onceI n)), T) := by
  obtain ⟨L', e1⟩ := loop63 (E := E) cy Y k (zSeq (zReg fun k => (zV 2 (vMv (.v 1))) k) zRet (finZ E [.tmp (.v 2)]) (fun _ _ _ _ => none) (finZ E [.tmp (.v 2)])) (fun i L V H => ifZ (Nat.beq i 0) ((zSeq (zReg fun k => (zV 2 (vMv (.v 1))) k) zRet (finZ E [.tmp (.v 2)]) (fun _ _ _ _ => none) (finZ E [.tmp (.v 2)])) L V H) none) (finZ E [.tmp (.v 2)]) [] n (.int .u64 0) T hn
  generalize onceI (onceI n) = r at e1 ⊢
  have e0 : ∀ q, bodyZ E cy Y q (G63 E) [.int .u64 n] T = (G63 E).z cy Y q (finZ E [.tmp (.v 2)]) (fun _ _ _ _ => none) (finZ E [.tmp (.v 2)]) [] [.undef, .int .u64 n, .undef] T := by intro q; kernel_rfl
  refine (e0 _).trans ?_
  have e2 : ∀ q, (G63 E).z cy Y q (finZ E [.tmp (.v 2)]) (fun _ _ _ _ => none) (finZ E [.tmp (.v 2)]) [] [.undef, .int .u64 n, .undef] T = zLoop q (body63 E cy Y) (zSeq (zReg fun k => (zV 2 (vMv (.v 1))) k) zRet (finZ E [.tmp (.v 2)]) (fun _ _ _ _ => none) (finZ E [.tmp (.v 2)])) (fun i L V H => ifZ (Nat.beq i 0) ((zSeq (zReg fun k => (zV 2 (vMv (.v 1))) k) zRet (finZ E [.tmp (.v 2)]) (fun _ _ _ _ => none) (finZ E [.tmp (.v 2)])) L V H) none) (finZ E [.tmp (.v 2)]) [] [.int .i64 (0 : Nat), .int .u64 n, .int .u64 0] T := by
    intro q
    unfold G63
    dsimp only
    refine zSeq_reg.trans ?_
    refine (zV_v vMv_eq).trans ?_
    refine zSeq_app.trans ?_
    refine zSeq_reg.trans ?_
    refine (zV_v vMv_eq).trans ?_
    refine zBlock_app.trans ?_
    rfl
  rw [e2, e1]
  rfl
end Go.Proofs.PxR2
