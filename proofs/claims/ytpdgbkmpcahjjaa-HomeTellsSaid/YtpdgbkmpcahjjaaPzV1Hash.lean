/- A worked example of PzSy: one round of code.Hash over a symbolic string (seat V1). -/
import Derived.Test.YtpdgbkmpcahjjaaPzR2F0
import Derived.Test.YtpdgbkmpcahjjaaPb3
import Derived.KernelRfl
set_option linter.unusedSimpArgs false
set_option linter.unusedVariables false
set_option maxRecDepth 100000
namespace Go.Proofs.PxR2
open Go Go.Px
noncomputable def body64 (E : Env) (cy : CallYT) (Y : YE) : CZ := (zSeq (zReg fun k => (zP (vInt E fLss .lss 3 false false (.v 1) (.v 2))) k)
  (zSeq (zCond (.l 0) zSkip (zExit 0))
  (zSeq (zBlock 1 (zSeq (zReg fun k => (zV 4 (vMv (.v 1))) k)
  (zReg fun k => (zP (vMv (.v 3))) ((zStep E (cy Y) ⟨.index 9 (.v 0) (.v 4), .push, none, false, 3, none⟩) ((zP (vConv .u64 (.l 0))) ((zP (vInt E (fGen .xor) .xor 40 false false (.l 2) (.l 0))) ((zP (vInt E (fGen .mul) .mul 40 false true (.l 0) (.k (.int .u64 1099511628211)))) ((zV 3 (vMv (.l 0))) k))))))))
  (zReg fun k => (zP (vInt E fAdd .add 3 false true (.v 1) (.k (.int .i64 1)))) ((zV 1 (vMv (.l 0))) k)))))
def hashI (h : Int) (y : Nat) : Int := IntKind.u64.wrap (IntKind.u64.wrap ((BitVec.ofInt 64 h ^^^ BitVec.ofInt 64 (IntKind.u64.wrap (y : Int))).toNat) * 1099511628211)
theorem round64 {E : Env} {i9 : TyI} (h9 : E.ty 9 = some i9) (hd : i9.desc = .str) (cy : CallYT) (Y : YE) (K : KB) (kx : Nat → KB) (kr : KB) (L : List AV) (s : List Nat) (i y : Nat) (h : Int) (a4 a5 : AV) (T : TH) (hi : s[i]? = some y) (hn : s.length ≤ 1000000) :
    ∃ L', body64 E cy Y K kx kr L [.str s, .int .i64 i, .int .i64 s.length, .int .u64 h, a4, a5] T = K L' [.str s, .int .i64 ((i + 1 : Nat) : Int), .int .i64 s.length, .int .u64 (hashI h y), .int .i64 i, a5] T := by
  have hlt : i < s.length := (List.getElem?_eq_some_iff.1 hi).1
  have hw : IntKind.i64.wrap ((i : Int) + 1) = ((i + 1 : Nat) : Int) := by rw [IntKind.wrap_i64]; omega
  refine ⟨[.int .i64 ((i + 1 : Nat) : Int)], ?_⟩
  unfold body64
  refine zSeq_reg.trans ?_
  refine (zP_v (vInt_eq fLss_ok rfl rfl rfl)).trans ?_
  refine zSeq_app.trans ?_
  refine (zCond_eq rfl).trans ?_
  rw [if_pos (by simpa using hlt)]
  refine zSkip_app.trans ?_
  refine zSeq_app.trans ?_
  refine zBlock_app.trans ?_
  refine zSeq_reg.trans ?_
  refine (zV_v vMv_eq).trans ?_
  refine zReg_eq.trans ?_
  refine (zP_v vMv_eq).trans ?_
  refine (zIndexS h9 hd rfl rfl hi).trans ?_
  refine (zP_v (vConv_eq rfl)).trans ?_
  refine (zP_v (vInt_eq (fGen_ok (by simp) (by simp)) rfl rfl rfl)).trans ?_
  refine (zP_v (vInt_eq (fGen_ok (by simp) (by simp)) rfl rfl rfl)).trans ?_
  refine (zV_v vMv_eq).trans ?_
  refine zReg_eq.trans ?_
  refine (zP_v (vInt_eq fAdd_ok rfl rfl rfl)).trans ?_
  rw [hw]
  refine (zV_v vMv_eq).trans ?_
  rfl
theorem exit64 {E : Env} (cy : CallYT) (Y : YE) (K : KB) (kx : Nat → KB) (kr : KB) (L : List AV) (s : List Nat) (h : Int) (a4 a5 : AV) (T : TH) :
    ∃ L', body64 E cy Y K kx kr L [.str s, .int .i64 s.length, .int .i64 s.length, .int .u64 h, a4, a5] T = kx 0 L' [.str s, .int .i64 s.length, .int .i64 s.length, .int .u64 h, a4, a5] T := by
  refine ⟨[.bool (decide ((s.length : Int) < s.length))], ?_⟩
  unfold body64
  refine zSeq_reg.trans ?_
  refine (zP_v (vInt_eq fLss_ok rfl rfl rfl)).trans ?_
  refine zSeq_app.trans ?_
  refine (zCond_eq rfl).trans ?_
  rw [if_neg (by simp)]
  refine zExit_app.trans ?_
  rfl
theorem loop64 {E : Env} {i9 : TyI} (h9 : E.ty 9 = some i9) (hd : i9.desc = .str) (cy : CallYT) (Y : YE) (kn : KB) (kx : Nat → KB) (kr : KB) (s : List Nat) (a5 : AV) (T : TH) (hn : s.length ≤ 1000000) :
    ∀ (m i fuel : Nat) (h : Int) (a4 : AV) (L : List AV), i + m = s.length → m < fuel →
      ∃ L' a4', zLoop fuel (body64 E cy Y) kn kx kr L [.str s, .int .i64 i, .int .i64 s.length, .int .u64 h, a4, a5] T = kx 0 L' [.str s, .int .i64 s.length, .int .i64 s.length, .int .u64 ((s.drop i).foldl hashI h), a4', a5] T
  | 0, i, fuel, h, a4, L, hi, hf => by
    obtain ⟨f, rfl⟩ : ∃ f, fuel = f + 1 := ⟨fuel - 1, by omega⟩
    obtain rfl : i = s.length := by omega
    rw [zLoop_succ]
    obtain ⟨L', e⟩ := exit64 (E := E) cy Y (zLoop f (body64 E cy Y) kn kx kr) kx kr L s h a4 a5 T
    exact ⟨L', a4, by rw [e, List.drop_length]; rfl⟩
  | m + 1, i, fuel, h, a4, L, hi, hf => by
    obtain ⟨f, rfl⟩ : ∃ f, fuel = f + 1 := ⟨fuel - 1, by omega⟩
    have hlt : i < s.length := by omega
    rw [zLoop_succ]
    obtain ⟨L1, e⟩ := round64 h9 hd cy Y (zLoop f (body64 E cy Y) kn kx kr) kx kr L s i s[i] h a4 a5 T (List.getElem?_eq_getElem hlt) hn
    obtain ⟨L', a4', e2⟩ := loop64 h9 hd cy Y kn kx kr s a5 T hn m (i + 1) f (hashI h s[i]) (.int .i64 i) L1 (by omega) (by omega)
    exact ⟨L', a4', by rw [e, e2, List.drop_eq_getElem_cons hlt]; rfl⟩
def hashL (s : List Nat) : Int := s.foldl hashI 14695981039346656037
theorem hash64 {E : Env} {i9 : TyI} (h9 : E.ty 9 = some i9) (hd : i9.desc = .str) (cy : CallYT) (Y : YE) (k : Nat) (s : List Nat) (T : TH) (hn : s.length ≤ 1000000) (hk : s.length < k) :
    bodyZ E cy Y k (G64 E) [.str s] T = some (.int .u64 (hashL s), T) := by
  obtain ⟨L', a4', e⟩ := loop64 h9 hd cy Y (fun _ _ _ => none) (fun i L V H => ifZ (Nat.beq i 0) (zSeq (zReg fun k => (zV 5 (vMv (.v 3))) k) zRet (finZ E [.tmp (.v 5)]) (fun _ _ _ _ => none) (finZ E [.tmp (.v 5)]) L V H) none) (finZ E [.tmp (.v 5)]) s (.int .u64 0) T hn s.length 0 k 14695981039346656037 .undef [] (by omega) hk
  have e0 : bodyZ E cy Y k (G64 E) [.str s] T = zLoop k (body64 E cy Y) (fun _ _ _ => none) (fun i L V H => ifZ (Nat.beq i 0) (zSeq (zReg fun k => (zV 5 (vMv (.v 3))) k) zRet (finZ E [.tmp (.v 5)]) (fun _ _ _ _ => none) (finZ E [.tmp (.v 5)]) L V H) none) (finZ E [.tmp (.v 5)]) [] [.str s, .int .i64 (0 : Nat), .int .i64 s.length, .int .u64 14695981039346656037, .undef, .int .u64 0] T := by
    have e1 : bodyZ E cy Y k (G64 E) [.str s] T = (G64 E).z cy Y k (finZ E [.tmp (.v 5)]) (fun _ _ _ _ => none) (finZ E [.tmp (.v 5)]) [] [.str s, .undef, .undef, .undef, .undef, .undef] T := by kernel_rfl
    refine e1.trans ?_
    unfold G64
    dsimp only
    refine zSeq_reg.trans ?_
    refine (zV_v vMv_eq).trans ?_
    refine zSeq_reg.trans ?_
    refine (zV_v vMv_eq).trans ?_
    refine zSeq_app.trans ?_
    refine zSeq_reg.trans ?_
    refine (zV_v (vLenS_eq rfl)).trans ?_
    refine (zV_v vMv_eq).trans ?_
    refine zBlock_app.trans ?_
    rfl
  rw [e0, e]
  rfl
noncomputable def body67 (E : Env) (cy : CallYT) (Y : YE) : CZ := (zSeq (zSeq (zReg fun k => (zP (vLenS (.v 1))) ((zP (vInt E fLss .lss 3 false false (.v 0) (.l 0))) k)) (zCond (.l 0) zSkip (zExit 0))) (zSeq (zBlock 1 (zReg fun k => (zP (vMv (.v 2))) ((zStep E (cy Y) ⟨.index 9 (.v 1) (.v 0), .push, none, false, 3, none⟩) ((zP (vConv .u64 (.l 0))) ((zP (vInt E (fGen .xor) .xor 40 false false (.l 2) (.l 0))) ((zP (vInt E (fGen .mul) .mul 40 false true (.l 0) (.k (.int .u64 1099511628211)))) ((zV 2 (vMv (.l 0))) k))))))) (zReg fun k => (zP (vMv (.v 0))) ((zP (vInt E fAdd .add 3 false true (.l 0) (.k (.int .i64 1)))) ((zV 0 (vMv (.l 0))) k)))))
theorem round67 {E : Env} {i9 : TyI} (h9 : E.ty 9 = some i9) (hd : i9.desc = .str) (cy : CallYT) (Y : YE) (K : KB) (kx : Nat → KB) (kr : KB) (L : List AV) (s : List Nat) (i y : Nat) (h : Int) (a3 : AV) (T : TH) (hi : s[i]? = some y) (hn : s.length ≤ 1000000) :
    ∃ L', body67 E cy Y K kx kr L [.int .i64 i, .str s, .int .u64 h, a3] T = K L' [.int .i64 ((i + 1 : Nat) : Int), .str s, .int .u64 (hashI h y), a3] T := by
  have hlt : i < s.length := (List.getElem?_eq_some_iff.1 hi).1
  have hw : IntKind.i64.wrap ((i : Int) + 1) = ((i + 1 : Nat) : Int) := by rw [IntKind.wrap_i64]; omega
  refine ⟨[.int .i64 ((i + 1 : Nat) : Int), .int .i64 i], ?_⟩
  unfold body67
  refine zSeq_app.trans ?_
  refine zSeq_reg.trans ?_
  refine (zP_v (vLenS_eq rfl)).trans ?_
  refine (zP_v (vInt_eq fLss_ok rfl rfl rfl)).trans ?_
  refine (zCond_eq rfl).trans ?_
  rw [if_pos (by simpa using hlt)]
  refine zSkip_app.trans ?_
  refine zSeq_app.trans ?_
  refine zBlock_app.trans ?_
  refine zReg_eq.trans ?_
  refine (zP_v vMv_eq).trans ?_
  refine (zIndexS h9 hd rfl rfl hi).trans ?_
  refine (zP_v (vConv_eq rfl)).trans ?_
  refine (zP_v (vInt_eq (fGen_ok (by simp) (by simp)) rfl rfl rfl)).trans ?_
  refine (zP_v (vInt_eq (fGen_ok (by simp) (by simp)) rfl rfl rfl)).trans ?_
  refine (zV_v vMv_eq).trans ?_
  refine zReg_eq.trans ?_
  refine (zP_v vMv_eq).trans ?_
  refine (zP_v (vInt_eq fAdd_ok rfl rfl rfl)).trans ?_
  rw [hw]
  refine (zV_v vMv_eq).trans ?_
  rfl
theorem exit67 {E : Env} (cy : CallYT) (Y : YE) (K : KB) (kx : Nat → KB) (kr : KB) (L : List AV) (s : List Nat) (h : Int) (a3 : AV) (T : TH) :
    ∃ L', body67 E cy Y K kx kr L [.int .i64 s.length, .str s, .int .u64 h, a3] T = kx 0 L' [.int .i64 s.length, .str s, .int .u64 h, a3] T := by
  refine ⟨[.bool (decide ((s.length : Int) < s.length)), .int .i64 s.length], ?_⟩
  unfold body67
  refine zSeq_app.trans ?_
  refine zSeq_reg.trans ?_
  refine (zP_v (vLenS_eq rfl)).trans ?_
  refine (zP_v (vInt_eq fLss_ok rfl rfl rfl)).trans ?_
  refine (zCond_eq rfl).trans ?_
  rw [if_neg (by simp)]
  refine zExit_app.trans ?_
  rfl
theorem loop67 {E : Env} {i9 : TyI} (h9 : E.ty 9 = some i9) (hd : i9.desc = .str) (cy : CallYT) (Y : YE) (kn : KB) (kx : Nat → KB) (kr : KB) (s : List Nat) (a3 : AV) (T : TH) (hn : s.length ≤ 1000000) :
    ∀ (m i fuel : Nat) (h : Int) (L : List AV), i + m = s.length → m < fuel →
      ∃ L', zLoop fuel (body67 E cy Y) kn kx kr L [.int .i64 i, .str s, .int .u64 h, a3] T = kx 0 L' [.int .i64 s.length, .str s, .int .u64 ((s.drop i).foldl hashI h), a3] T
  | 0, i, fuel, h, L, hi, hf => by
    obtain ⟨f, rfl⟩ : ∃ f, fuel = f + 1 := ⟨fuel - 1, by omega⟩
    obtain rfl : i = s.length := by omega
    rw [zLoop_succ]
    obtain ⟨L', e⟩ := exit67 (E := E) cy Y (zLoop f (body67 E cy Y) kn kx kr) kx kr L s h a3 T
    exact ⟨L', by rw [e, List.drop_length]; rfl⟩
  | m + 1, i, fuel, h, L, hi, hf => by
    obtain ⟨f, rfl⟩ : ∃ f, fuel = f + 1 := ⟨fuel - 1, by omega⟩
    have hlt : i < s.length := by omega
    rw [zLoop_succ]
    obtain ⟨L1, e⟩ := round67 h9 hd cy Y (zLoop f (body67 E cy Y) kn kx kr) kx kr L s i s[i] h a3 T (List.getElem?_eq_getElem hlt) hn
    obtain ⟨L', e2⟩ := loop67 h9 hd cy Y kn kx kr s a3 T hn m (i + 1) f (hashI h s[i]) L1 (by omega) (by omega)
    exact ⟨L', by rw [e, e2, List.drop_eq_getElem_cons hlt]; rfl⟩
theorem hash67 {E : Env} {i9 : TyI} (h9 : E.ty 9 = some i9) (hd : i9.desc = .str) (cy : CallYT) (Y : YE) (k : Nat) (s : List Nat) (T : TH) (hn : s.length ≤ 1000000) (hk : s.length < k) :
    bodyZ E cy Y k (G67 E) [.str s] T = some (.int .u64 (hashL s), T) := by
  obtain ⟨L', e⟩ := loop67 h9 hd cy Y (fun _ _ _ => none) (fun i L V H => ifZ (Nat.beq i 0) (zSeq (zReg fun k => (zV 3 (vMv (.v 2))) k) zRet (finZ E [.tmp (.v 3)]) (fun _ _ _ _ => none) (finZ E [.tmp (.v 3)]) L V H) none) (finZ E [.tmp (.v 3)]) s (.int .u64 0) T hn s.length 0 k 14695981039346656037 [] (by omega) hk
  have e1 : bodyZ E cy Y k (G67 E) [.str s] T = (G67 E).z cy Y k (finZ E [.tmp (.v 3)]) (fun _ _ _ _ => none) (finZ E [.tmp (.v 3)]) [] [.undef, .str s, .undef, .undef] T := by kernel_rfl
  refine e1.trans ?_
  unfold G67
  dsimp only
  refine zSeq_reg.trans ?_
  refine (zV_v vMv_eq).trans ?_
  refine zSeq_reg.trans ?_
  refine (zV_v vMv_eq).trans ?_
  refine zSeq_app.trans ?_
  refine zSeq_reg.trans ?_
  refine (zV_v vMv_eq).trans ?_
  refine zBlock_app.trans ?_
  refine e.trans ?_
  rfl
end Go.Proofs.PxR2
