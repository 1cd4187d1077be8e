/- The abstract machine, part 4: PzSz PzSw PzRw PzSx PzSq PxIs PzCa PxPo PzOp. -/
import Derived.Test.YtjpllnhlpgbgmaaGreatPb3
import Derived.ChangeSame
import Derived.RowKit3
import Derived.ChangeArms
import Derived.Deep.Strs
import Derived.WideKeyArgs
set_option linter.unusedVariables false
set_option linter.unusedSimpArgs false
namespace Go.Px
open Go
section
variable {E : Env} {L V : List AV} {T : TH} {K : KB} {x : AV} {acc : Acc}
theorem zL_v {sz : Nat} {agg : Bool} {o : O} (h : ∀ c, wLoad sz agg o L V T c = c x acc) : zL sz agg o K L V T = K (x :: L) V T := by
 show zDstW .push _ K L V T = _
 simp only [zDstW, h, putZ_eq]; rfl
theorem zDstW_v {d : FD} {w : WZ} (h : ∀ c, w L V T c = c x acc) : zDstW d w K L V T = K (putFL d x L) (putFV d x V) T := by
 simp only [zDstW, h, putZ_eq]
theorem wLoad_loc {sz : Nat} {agg : Bool} {o : O} {H : Heap} {nm off : Nat} {e : TypeId} {cs : List AV} {fr : Bool} (ho : gO L V o = .loc nm off) (hr : H[nm]? = some (.row e cs fr)) (hl : off + sz ≤ cs.length) (hx : mkV agg ((cs.drop off).take sz) = some x) (c : AV → Acc → Ans) :
  wLoad sz agg o L V (rep H) c = c x (Acc.read nm) := by
 simp only [wLoad, gZ_eq, ho, ptrCZ_eq, rowT_eq, rep_get, hr, dropZ_eq, takeZ_eq, mkVZ_eq]
 rw [if_pos (by simp; omega)]
 simp only [hx]
theorem wLoad_ref {sz : Nat} {agg : Bool} {o : O} {cs : List AV} (ho : gO L V o = .ref cs) (hl : sz ≤ cs.length) (hx : mkV agg (cs.take sz) = some x) (c : AV → Acc → Ans) :
  wLoad sz agg o L V T c = c x Acc.none := by
 simp only [wLoad, gZ_eq, ho, ptrCZ_eq, takeZ_eq, mkVZ_eq]
 rw [if_pos hl]
 simp only [hx]
theorem vIndexAddr_sl {sz : Nat} {a b : O} {n : Nat} {cs : List AV} {f : Bool} {k : IntKind} {i : Nat} (ha : gO L V a = .sl n cs f) (hb : gO L V b = .int k i) (hi : i < n) (hc : i * sz < cs.length) (c : AV → Ans) : vIndexAddr sz a b L V T c = c (.ref (cs.drop (i * sz))) := by
 simp only [vIndexAddr, gZ_eq, ha, hb, intCZ_eq, slCZ_eq, inZ_eq, dropZ_eq, consZ_eq]
 rw [if_pos (by omega)]
 simp only [Int.toNat_natCast, Nat.mul_eq]
 rw [if_pos (by simp; omega)]
theorem vFieldAddr_loc {off : Nat} {a : O} {nm o : Nat} (ha : gO L V a = .loc nm o) (c : AV → Ans) : vFieldAddr off a L V T c = c (.loc nm (o + off)) := by
 simp only [vFieldAddr, gZ_eq, ha, ptrCZ_eq, natZ_eq]; rfl
theorem vFieldAddr_ref {off : Nat} {a : O} {cs : List AV} (ha : gO L V a = .ref cs) (hc : off < cs.length) (c : AV → Ans) : vFieldAddr off a L V T c = c (.ref (cs.drop off)) := by
 simp only [vFieldAddr, gZ_eq, ha, ptrCZ_eq, dropZ_eq, consZ_eq]
 rw [if_pos (by simp; omega)]
theorem vNot_eq {a : O} {b : Bool} (ha : gO L V a = .bool b) (c : AV → Ans) : vNot a L V T c = c (.bool (!b)) := by
 simp only [vNot, gZ_eq, ha, boolCZ_eq]
 cases b <;> rfl
theorem vPick_eq {p a b : O} {q : Bool} (hp : gO L V p = .bool q) (c : AV → Ans) : vPick p a b L V T c = c (if q then gO L V a else gO L V b) := by
 simp only [vPick, gZ_eq, hp, boolCZ_eq]
 cases q <;> rfl
end
theorem spOk_nil {bef : List Nat} {i : Nat} {acc : Acc} : spOk bef i acc [] = true := rfl
theorem spOk_bef {bef : List Nat} {i j : Nat} {acc a : Acc} {sp : List (Nat × Acc)} (h : (bef.getD i 0).testBit j = true) (t : spOk bef i acc sp = true) : spOk bef i acc ((j, a) :: sp) = true := by
 unfold spOk at *
 rw [List.all_cons, t, h]; rfl
theorem spOk_apart {bef : List Nat} {i j : Nat} {acc a : Acc} {sp : List (Nat × Acc)} (h : a.meets acc = false) (t : spOk bef i acc sp = true) : spOk bef i acc ((j, a) :: sp) = true := by
 unfold spOk at *
 rw [List.all_cons, t]; simp [h]
section
variable {E : Env} {L V : List AV} {T : TH} {H : Heap} {K : SPK} {x : AV} {acc : Acc} {sp : List (Nat × Acc)} {bef : List Nat}
theorem accZ_idle {i : Nat} {k : List (Nat × Acc) → Ans} (h : acc.idle = true) : accZ bef i acc sp k = k sp := by
 rw [accZ, idleZ_eq, if_pos h]
theorem accZ_ok {i : Nat} {k : List (Nat × Acc) → Ans} (h : acc.idle = false) (hs : spOk bef i acc sp = true) : accZ bef i acc sp k = k ((i, acc) :: sp) := by
 rw [accZ, idleZ_eq, if_neg (by simp [h]), ifZ_eq, if_pos hs]
theorem zDreg_eq {n : Nat} {f : Nat → SPK → SPK} {kn : KB} {kx : Nat → KB} {kr : KB} : zDreg n f kn kx kr L V (rep H) = f H.length (fun _ => kn) [] [] V (rep (H ++ List.replicate n .dead)) := by
 simp only [zDreg, lenT_eq, deadsT_eq, rep_deads, rep_n]
theorem zPD_v {v : VZ} (h : ∀ c, v L V T c = c x) : zPD v K sp L V T = K sp (x :: L) V T := by
 show zDst .push v (K sp) L V T = _
 simp only [zDst, h, putZ_eq]; rfl
theorem zVD_v {v : VZ} {j : Nat} (h : ∀ c, v L V T c = c x) : zVD j v K sp L V T = K sp L (V.set j x) T := by
 show zDst (.var j) v (K sp) L V T = _
 simp only [zDst, h, putZ_eq]; rfl
theorem zLD_idle {i sz : Nat} {agg : Bool} {o : O} (h : ∀ c, wLoad sz agg o L V T c = c x acc) (ha : acc.idle = true) : zLD bef i sz agg o K sp L V T = K sp (x :: L) V T := by
 show zDstWD bef i .push _ K sp L V T = _
 simp only [zDstWD, h, putZ_eq, accZ_idle ha]; rfl
theorem zLD_v {i sz : Nat} {agg : Bool} {o : O} (h : ∀ c, wLoad sz agg o L V T c = c x acc) (ha : acc.idle = false) (hs : spOk bef i acc sp = true) : zLD bef i sz agg o K sp L V T = K ((i, acc) :: sp) (x :: L) V T := by
 show zDstWD bef i .push _ K sp L V T = _
 simp only [zDstWD, h, putZ_eq, accZ_ok ha hs]; rfl
theorem zCallD_idle {call : CallTT} {i f : Nat} {args : List O} {d : FD} {T' : TH} (h : call (.func f) (args.map (gO L V)) T = some (x, T', acc)) (ha : acc.idle = true) : zCallD call bef i f args d K sp L V T = K sp (putFL d x L) (putFV d x V) T' := by
 simp only [zCallD, gZs_eq, h, ansC_eq, putZ_eq, accZ_idle ha]
theorem zCallD_v {call : CallTT} {i f : Nat} {args : List O} {d : FD} {T' : TH} (h : call (.func f) (args.map (gO L V)) T = some (x, T', acc)) (ha : acc.idle = false) (hs : spOk bef i acc sp = true) : zCallD call bef i f args d K sp L V T = K ((i, acc) :: sp) (putFL d x L) (putFV d x V) T' := by
 simp only [zCallD, gZs_eq, h, ansC_eq, putZ_eq, accZ_ok ha hs]
theorem zGD_hit {g : O} {want : Bool} {d : FD} {i : SPK → SPK} (h : gO L V g = .bool want) : zGD g want d i K sp L V T = i K sp L V T := by
 simp only [zGD, gZ_eq, h, grdZ_eq]
 cases want <;> rfl
theorem zGD_miss {g : O} {want : Bool} {d : FD} {i : SPK → SPK} (h : gO L V g = .bool (!want)) : zGD g want d i K sp L V T = K sp (putFL d (.tup []) L) (putFV d (.tup []) V) T := by
 simp only [zGD, gZ_eq, h, grdZ_eq, putZ_eq]
 cases want <;> rfl
theorem zGD_skip {g : O} {want : Bool} {d : FD} {i : SPK → SPK} {l : List AV} (h : gO L V g = .tup l) : zGD g want d i K sp L V T = K sp (putFL d (.tup []) L) (putFV d (.tup []) V) T := by
 simp only [zGD, gZ_eq, h, grdZ_eq, putZ_eq]
variable {call : CallTT} {fo : FO} {a : Acc} {o : AO} {n0 : Nat}
theorem zStepD_val (hg : wantedF fo.g L V = some true) (he : evalFA E L V H fo.fa = some (.val x, a)) (ha : a.idle = true) : zStepD E call bef n0 fo K sp L V (rep H) = K sp (putFL fo.dst x L) (putFV fo.dst x V) (rep H) := by
 have he' : evalFT E L V (rep H) fo.fa = some (.val x, a) := by rw [evalFT_ok, he]
 cases hl : fo.light <;> simp [zStepD, runFT, hg, he', primEff, effT, putF_eq, fV_eq, fW_eq, hl, accZ_idle ha]
theorem zStepD_valR (hg : wantedF fo.g L V = some true) (he : evalFA E L V H fo.fa = some (.val x, a)) (ha : a.idle = false) (hs : spOk bef fo.idx a sp = true) : zStepD E call bef n0 fo K sp L V (rep H) = K ((fo.idx, a) :: sp) (putFL fo.dst x L) (putFV fo.dst x V) (rep H) := by
 have he' : evalFT E L V (rep H) fo.fa = some (.val x, a) := by rw [evalFT_ok, he]
 cases hl : fo.light <;> simp [zStepD, runFT, hg, he', primEff, effT, putF_eq, fV_eq, fW_eq, hl, accZ_ok ha hs]
theorem zStepD_new {r : Nat} {f : Nat → AV} (hg : wantedF fo.g L V = some true) (hr : fo.sl = some r) (he : evalFA E L V H fo.fa = some (.new o f, a)) (ha : (a.add (some (n0 + r))).idle = false) (hs : spOk bef fo.idx (a.add (some (n0 + r))) sp = true) :
  zStepD E call bef n0 fo K sp L V (rep H) = K ((fo.idx, a.add (some (n0 + r))) :: sp) (putFL fo.dst (f (n0 + r)) L) (putFV fo.dst (f (n0 + r)) V) (rep (H.set (n0 + r) o)) := by
 have he' : evalFT E L V (rep H) fo.fa = some (.new o f, a) := by rw [evalFT_ok, he]
 simp [zStepD, runFT, hg, he', primEff, effT, putF_eq, fV_eq, fO_eq, layT_eq, FO.slot, hr, rep_lay, layNew, accZ_ok ha hs]
theorem zStepD_put {nm : Nat} (hg : wantedF fo.g L V = some true) (he : evalFA E L V H fo.fa = some (.put nm o x, a)) (ha : a.idle = false) (hs : spOk bef fo.idx a sp = true) :
  zStepD E call bef n0 fo K sp L V (rep H) = K ((fo.idx, a) :: sp) (putFL fo.dst x L) (putFV fo.dst x V) (rep (H.set nm o)) := by
 have he' : evalFT E L V (rep H) fo.fa = some (.put nm o x, a) := by rw [evalFT_ok, he]
 simp [zStepD, runFT, hg, he', primEff, effT, putF_eq, fV_eq, fO_eq, setT_eq, rep_set, accZ_ok ha hs]
theorem zStepD_app {nm n sz r : Nat} (hg : wantedF fo.g L V = some true) (hr : fo.sl = some r) (he : evalFA E L V H fo.fa = some (.app nm o n sz, a)) (ha : (a.add (some (n0 + r))).idle = false) (hs : spOk bef fo.idx (a.add (some (n0 + r))) sp = true) :
  zStepD E call bef n0 fo K sp L V (rep H) = K ((fo.idx, a.add (some (n0 + r))) :: sp) (putFL fo.dst (.own (n0 + r) 0 n sz) L) (putFV fo.dst (.own (n0 + r) 0 n sz) V) (rep ((H.set nm .dead).set (n0 + r) o)) := by
 have he' : evalFT E L V (rep H) fo.fa = some (.app nm o n sz, a) := by rw [evalFT_ok, he]
 simp [zStepD, runFT, hg, he', primEff, effT, putF_eq, fV_eq, fO_eq, setT_eq, layT_eq, FO.slot, hr, rep_set, rep_lay, layNew, accZ_ok ha hs]
end
section
variable {E : Env} {L V : List AV} {H : Heap} {K : KB} {x : AV} {call : CallTT} {fo : FO} {a : Acc}
end
end Go.Px
set_option linter.unusedVariables false
set_option linter.unusedSimpArgs false
namespace Go.Px
open Go
section
variable {E : Env} {GE : Nat → Option ZFn} {LZ : Nat → Option ZLn} {k : Nat} {Y : YE} {f : Nat} {zf : ZFn} {args : List AV} {r : AV} {T T2 : TH}
theorem call_pure {fargs : List AV} {ns ns2 : List Nat} {r' : AV} (hG : GE f = some zf) (hp : E.pure f = true) (hz : fzL (fzG E T.get fzDeep) args = some (fargs, ns)) (hb : bodyZ E (callZ E GE LZ k) [] k zf fargs (rep []) = some (r, T2)) (hr : fzG E T2.get fzDeep r = some (r', ns2)) :
  callZ E GE LZ (k + 1) Y (.func f) args T = some (r', if flat r' then T else T.marks ns, ⟨ns ++ ns, [], false⟩) := by
 show @Option.rec ZFn (fun _ => Res) none (fun zf => ifR (E.pure f) (callPure E (callZ E GE LZ k) k zf args T) (callRawZ E (callZ E GE LZ k) Y k zf args T)) (GE f) = _
 rw [hG]
 simp only [ifR_eq, hp, if_true]
 unfold callPure
 rw [fzLZ_eq (d := none) (g := fzG E T.get fzDeep) (fun v c => fzZ_eq E none T fzDeep v c), hz]
 simp only [ansB_eq]
 rw [show (TH.nil) = rep [] from rfl, hb]
 simp only [fzZ_eq E, hr, ifR_eq, markZ_eq]
 split <;> rfl
theorem call_raw (hG : GE f = some zf) (hp : E.pure f = false) (hb : bodyZ E (callZ E GE LZ k) Y k zf args T = some (r, T2)) :
  ∃ a, callZ E GE LZ (k + 1) Y (.func f) args T = some (r, T2, a) := by
 refine ⟨rawAcc T.tl T2.tl, ?_⟩
 show @Option.rec ZFn (fun _ => Res) none (fun zf => ifR (E.pure f) (callPure E (callZ E GE LZ k) k zf args T) (callRawZ E (callZ E GE LZ k) Y k zf args T)) (GE f) = _
 rw [hG]
 simp only [ifR_eq, hp]
 unfold callRawZ
 simp only [ansB_eq, hb]; rfl
theorem call_round {l : Nat} {d : LD} {zl : ZLn} (hY : YE.at Y l = some d) (hL : LZ d.id = some zl) (h : ∃ a, roundZ (callZ E GE LZ k) Y k l zl d.V args T = some (r, T2, a)) :
  ∃ a, callZ E GE LZ (k + 1) Y (.yield l) args T = some (r, T2, a) := by
 obtain ⟨a, h⟩ := h
 refine ⟨a, ?_⟩
 show @Option.rec LD (fun _ => Res) none (fun d => @Option.rec ZLn (fun _ => Res) none (fun zl => roundZ (callZ E GE LZ k) Y k l zl d.V args T) (LZ d.id)) (YE.at Y l) = _
 rw [hY]
 show @Option.rec ZLn (fun _ => Res) none (fun zl => roundZ (callZ E GE LZ k) Y k l zl d.V args T) (LZ d.id) = _
 rw [hL]; exact h
end
end Go.Px
set_option linter.unusedVariables false
set_option linter.unusedSimpArgs false
namespace Go.Px
open Go
structure RowT (E : Env) (t e sz by' : Nat) : Prop where
 ht : ∃ it, E.ty t = some it ∧ it.desc = .slice e
 he : ∃ ie, E.ty e = some ie ∧ ie.size = sz ∧ ie.bytes = by'
 sz0 : sz ≠ 0
 by1 : by' ≤ 1000
section
variable {E : Env} {t e sz by' : Nat} {L V : List AV} {H : Heap} {a b : O}
theorem append_firstG (R : RowT E t e sz by') {nm k : Nat} {cs : List AV} {f : Bool} (ha : gO L V a = .sl 0 [] true) (hx : gO L V b = .own nm 0 k sz) (hr : H[nm]? = some (.row e cs f)) (hl : cs.length = k * sz) (hk : k ≠ 0) (hb : k ≤ 1000000000) :
  evalFA E L V H (.append t t a b) = some (.new (.row e cs false) (fun nm => .own nm 0 k sz), Acc.read nm) := by
 obtain ⟨it, h1, h2⟩ := R.ht
 obtain ⟨ie, h3, h4, h5⟩ := R.he
 have hm : k * ie.bytes ≤ mostBytes := by
  rw [h5]
  exact Nat.le_trans (Nat.mul_le_mul hb R.by1) (by decide)
 have hm2 : k ≤ mostBytes := Nat.le_trans hb (by decide)
 subst h4
 have hs := R.sz0
 simp [evalFA, appendA, appendA0, contentA, countA, h1, h2, h3, ha, hx, hr, hk, hs, hm, hm2]
 rw [if_pos (by omega)]
 have : List.take (k * ie.size) cs = cs := List.take_of_length_le (by omega)
 simp [this, hk, hm, hm2]
theorem append_nextG (R : RowT E t e sz by') {nm nb n k : Nat} {cs0 cs : List AV} {f : Bool} (ha : gO L V a = .own nb 0 n sz) (hb0 : H[nb]? = some (.row e cs0 false)) (hl0 : cs0.length = n * sz) (hx : gO L V b = .own nm 0 k sz) (hr : H[nm]? = some (.row e cs f)) (hl : cs.length = k * sz) (hk : k ≠ 0) (hb : n + k ≤ 1000000000) :
  evalFA E L V H (.append t t a b) = some (.app nb (.row e (cs0 ++ cs) false) (n + k) sz, ⟨[nm], [nb], false⟩) := by
 obtain ⟨it, h1, h2⟩ := R.ht
 obtain ⟨ie, h3, h4, h5⟩ := R.he
 have hm : (n + k) * ie.bytes ≤ mostBytes := by
  rw [h5]
  exact Nat.le_trans (Nat.mul_le_mul hb R.by1) (by decide)
 have hm2 : n + k ≤ mostBytes := Nat.le_trans hb (by decide)
 subst h4
 have hs := R.sz0
 have : List.take (k * ie.size) cs = cs := List.take_of_length_le (by omega)
 simp [evalFA, appendA, appendA0, contentA, countA, h1, h2, h3, ha, hx, hr, hk, hs, hm, hm2, hb0, hl0, hl, this, Acc.read]
theorem append_nil (R : RowT E t e sz by') {x : AV} (ha : gO L V a = x) (hx1 : x = .sl 0 [] true ∨ ∃ n o k s, x = .own n o k s) (hx : gO L V b = .sl 0 [] true) : evalFA E L V H (.append t t a b) = some (.val x, Acc.none) := by
 obtain ⟨it, h1, h2⟩ := R.ht
 obtain ⟨ie, h3, h4, h5⟩ := R.he
 subst h4
 have hs := R.sz0
 rcases hx1 with rfl | ⟨n, o, k, s, rfl⟩
 ·simp [evalFA, appendA, appendA0, contentA, countA, h1, h2, h3, ha, hx, hs]
 ·simp [evalFA, appendA, appendA0, contentA, countA, h1, h2, h3, ha, hx, hs]
end
end Go.Px
set_option linter.unusedVariables false
set_option linter.unusedSimpArgs false
namespace Go.Px
open Go
theorem st {P : Ans → Prop} {a b : Ans} (h : a = b) (hb : P b) : P a := h ▸ hb
def Ends (E : Env) (r : AV) (a : Ans) : Prop := ∃ x T ns, a = some (x, T) ∧ fzG E T.get fzDeep x = some (r, ns)
def EndsV (x : AV) (a : Ans) : Prop := ∃ T, a = some (x, T)
section
variable {E : Env} {L V : List AV} {T : TH} {K : KB} {x : AV} {H : Heap} {acc : Acc} {P : Ans → Prop}
section
variable {k : IntKind} {m n : Int}
theorem tLss (h : m < n) : intBin .lss k m n = some (.bool true) := by simp [intBin, h]
theorem fLss' (h : n ≤ m) : intBin .lss k m n = some (.bool false) := by simp [intBin]; omega
theorem tGtr (h : n < m) : intBin .gtr k m n = some (.bool true) := by simp [intBin]; omega
theorem fGtr' (h : m ≤ n) : intBin .gtr k m n = some (.bool false) := by simp [intBin]; omega
theorem tLeq (h : m ≤ n) : intBin .leq k m n = some (.bool true) := by simp [intBin, h]
theorem fGeq' (h : m < n) : intBin .geq k m n = some (.bool false) := by simp [intBin]; omega
theorem tEql (h : m = n) : intBin .eql k m n = some (.bool true) := by simp [intBin, h]
theorem fEql' (h : m ≠ n) : intBin .eql k m n = some (.bool false) := by simp [intBin, h]
theorem fNeq' (h : m = n) : intBin .neq k m n = some (.bool false) := by simp [intBin, h]
theorem qLss : intBin .lss k m n = some (.bool (decide (m < n))) := rfl
theorem qEql : intBin .eql k m n = some (.bool (decide (m = n))) := by simp [intBin]; rfl
theorem wi64 {x : Int} (h : -9223372036854775808 ≤ x ∧ x < 9223372036854775808) : IntKind.i64.wrap x = x := by rw [IntKind.wrap_i64]; omega
theorem aAddN {i j : Nat} (h : i + j < 9223372036854775808) : intBin .add .i64 (i : Int) (j : Int) = some (.int .i64 ((i + j : Nat) : Int)) := by
 simp only [intBin]; rw [wi64 (by omega)]; simp
theorem aAdd1 {i : Nat} (h : i + 1 < 9223372036854775808) : intBin .add .i64 (i : Int) 1 = some (.int .i64 ((i + 1 : Nat) : Int)) := aAddN (j := 1) h
theorem aSubN {i j : Nat} (h : j ≤ i ∧ i < 9223372036854775808) : intBin .sub .i64 (i : Int) (j : Int) = some (.int .i64 ((i - j : Nat) : Int)) := by
 simp only [intBin]; rw [wi64 (by omega)]; congr 2; omega
theorem aSub1 {i : Nat} (h : 1 ≤ i ∧ i < 9223372036854775808) : intBin .sub .i64 (i : Int) 1 = some (.int .i64 ((i - 1 : Nat) : Int)) := aSubN (j := 1) h
theorem aSubS {i : Nat} (h : i < 9223372036854775807) : intBin .sub .i64 ((i + 1 : Nat) : Int) 1 = some (.int .i64 (i : Int)) := by
 rw [aSub1 ⟨by omega, by omega⟩]; simp
theorem aAddZ (h : -9223372036854775808 ≤ m + n ∧ m + n < 9223372036854775808) : intBin .add .i64 m n = some (.int .i64 (m + n)) := by
 simp only [intBin]; rw [wi64 h]
end
theorem vInt_any {f : IntKind → Int → Int → (AV → Ans) → Ans} {op : BinOp} {t : TypeId} {c1 c2 : Bool} {a b : O} {va vb : AV} (ha : gO L V a = va) (hb : gO L V b = vb) (hn : ∀ s g, int2Z va vb s g = g) (hr : binB E op t c1 c2 va vb = some x) (c : AV → Ans) :
  vInt E f op t c1 c2 a b L V T c = c x := by
 subst ha hb
 simp only [vInt, gZ_eq, hn, optV_eq, hr]
theorem vPick_t {p a b : O} (hp : gO L V p = .bool true) (c : AV → Ans) : vPick p a b L V T c = c (gO L V a) := vPick_eq hp c
theorem vPick_f {p a b : O} (hp : gO L V p = .bool false) (c : AV → Ans) : vPick p a b L V T c = c (gO L V b) := vPick_eq hp c
theorem zCond_t {c : O} {a b : CZ} {kn : KB} {kx : Nat → KB} {kr : KB} (h : gO L V c = .bool true) : zCond c a b kn kx kr L V T = a kn kx kr L V T := by rw [zCond_eq h, if_pos rfl]
theorem zCond_f {c : O} {a b : CZ} {kn : KB} {kx : Nat → KB} {kr : KB} (h : gO L V c = .bool false) : zCond c a b kn kx kr L V T = b kn kx kr L V T := by rw [zCond_eq h, if_neg (by decide)]
theorem zLoop_one {n : Nat} {b : CZ} {kn : KB} {kx : Nat → KB} {kr : KB} : zLoop (n + 1) b kn kx kr L V T = b (zLoop n b kn kx kr) kx kr L V T := by rw [zLoop_succ]
theorem ifZ_pos {β : Type} {b : Bool} {t e : β} (h : b = true) : ifZ b t e = t := by rw [ifZ_eq, if_pos h]
theorem two {b : Bool} {a : Ans} (h1 : b = true → P a) (h2 : b = false → P a) : P a := by cases b with
 | true => exact h1 rfl
 | false => exact h2 rfl
theorem bAV {b c : Bool} (h : b = c) : AV.bool b = .bool c := by rw [h]
theorem ev_box {t : TypeId} {o : O} {v : AV} {cs : List AV} (ho : gO L V o = v) (hc : cellsOf v = cs) (ht : ∃ i, E.ty t = some i) : evalFA E L V H (.box t o) = some (.new (.row t cs false) (fun nm => .loc nm 0), Acc.none) := by
 obtain ⟨i, h⟩ := ht
 subst ho hc
 simp [evalFA, h]
theorem ev_alloc {t : TypeId} {cs : List AV} (ht : ∃ i, E.ty t = some i ∧ i.zero = cs) : evalFA E L V H (.alloc t) = some (.new (.row t cs false) (fun nm => .loc nm 0), Acc.none) := by
 obtain ⟨i, h, rfl⟩ := ht
 simp [evalFA, h]
theorem ev_store {st nm off e2 : Nat} {cs : List AV} {p v : O} {x : AV} (ha : gO L V p = .loc nm off) (hx : gO L V v = x) (hr : H[nm]? = some (.row e2 cs false)) (ht : ∃ i, E.ty st = some i ∧ i.size = (cellsOf x).length) (hn : Nat.beq (cellsOf x).length 0 = false) (hl : Nat.ble (off + (cellsOf x).length) cs.length = true) :
  evalFA E L V H (.store st p v) = some (.put nm (.row e2 (lay cs off (cellsOf x)) false) (.tup []), ⟨[], [nm], false⟩) := by
 obtain ⟨i, h1, h2⟩ := ht
 subst hx
 have hn := Nat.ne_of_beq_eq_false hn
 have hl := Nat.le_of_ble_eq_true hl
 simp [evalFA, storeA, h1, h2, ha, hr, hl]
 intro h; simp [h] at hn
theorem ev_mkFunc {f : FuncId} {cs : List O} {vs : List AV} (h : cs.map (gO L V) = vs) : evalFA E L V H (.mkFunc f cs) = some (.val (.clo f vs), Acc.none) := by
 subst h; rfl
variable {call : CallTT} {fa : FA} {lt : Bool} {ix : Nat} {sl : Option Nat} {a : Acc} {o : AO}
theorem sP_val (he : evalFA E L V H fa = some (.val x, a)) : zStep E call ⟨fa, .push, none, lt, ix, sl⟩ K L V (rep H) = K (x :: L) V (rep H) := zStep_valH rfl he
theorem sP_new {f : Nat → AV} (he : evalFA E L V H fa = some (.new o f, a)) : zStep E call ⟨fa, .push, none, lt, ix, sl⟩ K L V (rep H) = K (f H.length :: L) V (rep (H ++ [o])) := zStep_newH rfl he
theorem sV_new {j : Nat} {f : Nat → AV} (he : evalFA E L V H fa = some (.new o f, a)) : zStep E call ⟨fa, .var j, none, lt, ix, sl⟩ K L V (rep H) = K L (V.set j (f H.length)) (rep (H ++ [o])) := zStep_newH rfl he
theorem sN_put {nm : Nat} (he : evalFA E L V H fa = some (.put nm o x, a)) : zStep E call ⟨fa, .none, none, lt, ix, sl⟩ K L V (rep H) = K L V (rep (H.set nm o)) := zStep_putH rfl he
theorem sP_app {nm n sz : Nat} (he : evalFA E L V H fa = some (.app nm o n sz, a)) : zStep E call ⟨fa, .push, none, lt, ix, sl⟩ K L V (rep H) = K (.own H.length 0 n sz :: L) V (rep (H.set nm .dead ++ [o])) := zStep_appH rfl he
end
section
variable {E : Env} {L V : List AV} {T T' : TH} {K : SPK} {x : AV} {H : Heap} {acc a : Acc} {call : CallTT} {fa : FA} {lt : Bool} {ix : Nat} {sl : Option Nat} {o : AO} {sp : List (Nat × Acc)} {bef : List Nat} {n0 r : Nat}
theorem dP_val (he : evalFA E L V H fa = some (.val x, a)) (ha : a.idle = true) : zStepD E call bef n0 ⟨fa, .push, none, lt, ix, sl⟩ K sp L V (rep H) = K sp (x :: L) V (rep H) := zStepD_val rfl he ha
theorem dP_valR (he : evalFA E L V H fa = some (.val x, a)) (ha : a.idle = false) (hs : spOk bef ix a sp = true) : zStepD E call bef n0 ⟨fa, .push, none, lt, ix, sl⟩ K sp L V (rep H) = K ((ix, a) :: sp) (x :: L) V (rep H) := zStepD_valR rfl he ha hs
theorem dP_new {f : Nat → AV} (he : evalFA E L V H fa = some (.new o f, a)) (ha : (a.add (some (n0 + r))).idle = false) (hs : spOk bef ix (a.add (some (n0 + r))) sp = true) : zStepD E call bef n0 ⟨fa, .push, none, lt, ix, some r⟩ K sp L V (rep H) = K ((ix, a.add (some (n0 + r))) :: sp) (f (n0 + r) :: L) V (rep (H.set (n0 + r) o)) := zStepD_new rfl rfl he ha hs
theorem dV_new {j : Nat} {f : Nat → AV} (he : evalFA E L V H fa = some (.new o f, a)) (ha : (a.add (some (n0 + r))).idle = false) (hs : spOk bef ix (a.add (some (n0 + r))) sp = true) : zStepD E call bef n0 ⟨fa, .var j, none, lt, ix, some r⟩ K sp L V (rep H) = K ((ix, a.add (some (n0 + r))) :: sp) L (V.set j (f (n0 + r))) (rep (H.set (n0 + r) o)) := zStepD_new rfl rfl he ha hs
theorem dN_put {nm : Nat} (he : evalFA E L V H fa = some (.put nm o x, a)) (ha : a.idle = false) (hs : spOk bef ix a sp = true) : zStepD E call bef n0 ⟨fa, .none, none, lt, ix, sl⟩ K sp L V (rep H) = K ((ix, a) :: sp) L V (rep (H.set nm o)) := zStepD_put rfl he ha hs
theorem dP_app {nm n sz : Nat} (he : evalFA E L V H fa = some (.app nm o n sz, a)) (ha : (a.add (some (n0 + r))).idle = false) (hs : spOk bef ix (a.add (some (n0 + r))) sp = true) : zStepD E call bef n0 ⟨fa, .push, none, lt, ix, some r⟩ K sp L V (rep H) = K ((ix, a.add (some (n0 + r))) :: sp) (.own (n0 + r) 0 n sz :: L) V (rep ((H.set nm .dead).set (n0 + r) o)) := zStepD_app rfl rfl he ha hs
theorem cP_idle {i f : Nat} {args : List O} {vs : List AV} (hv : args.map (gO L V) = vs) (h : call (.func f) vs T = some (x, T', acc)) (ha : acc.idle = true) : zCallD call bef i f args .push K sp L V T = K sp (x :: L) V T' := zCallD_idle (hv ▸ h) ha
theorem zDreg0 {f : Nat → SPK → SPK} {kn : KB} {kx : Nat → KB} {kr : KB} {L V : List AV} {T : TH} : zDreg 0 f kn kx kr L V T = f T.n (fun _ => kn) [] [] V T := by
 simp only [zDreg, lenT_eq, deadsT_eq]; rfl
end
section
variable {E : Env} {L V : List AV} {T T' : TH} {K : KB} {x : AV} {acc : Acc} {call : CallTT}
theorem cP_call {f : FuncId} {args : List O} {vs : List AV} (hv : args.map (gO L V) = vs) (h : call (.func f) vs T = some (x, T', acc)) : zCall call f args .push K L V T = K (x :: L) V T' := zCall_eq (hv ▸ h)
theorem wV_load {sz : Nat} {agg : Bool} {o : O} {j : Nat} (h : ∀ c, wLoad sz agg o L V T c = c x acc) : zDstW (.var j) (wLoad sz agg o) K L V T = K L (V.set j x) T := zDstW_v h
end
section
variable {E : Env} {GE : Nat → Option ZFn} {LZ : Nat → Option ZLn} {k : Nat} {Y : YE} {f : Nat} {zf : ZFn} {args V0 : List AV} {r : AV} {T : TH}
theorem call_go (hG : GE f = some zf) (hp : E.pure f = true) (hz : ∀ g, fzL (fzG E g fzDeep) args = some (args, [])) (hV : ∀ c : List AV → Ans, leZ args zf.n (initZ zf.vs args c) = c V0)
  (hb : Ends E r (zf.z (callZ E GE LZ k) [] k (finZ E zf.res) (fun _ _ _ _ => none) (finZ E zf.res) [] V0 (rep []))) :
  callZ E GE LZ (k + 1) Y (.func f) args T = some (r, T, ⟨[], [], false⟩) := by
 obtain ⟨x, T2, ns, hb, hr⟩ := hb
 have h := call_pure (Y := Y) (T := T) hG hp (hz _) (k := k) (r := x) (T2 := T2) (by unfold bodyZ; rw [hV]; exact hb) hr
 rw [show (if flat r = true then T else T.marks []) = T by split <;> rfl] at h
 exact h
end
theorem ends_fz {E : Env} {x r : AV} {T : TH} {ns : List Nat} (h : fzG E T.get fzDeep x = some (r, ns)) : Ends E r (some (x, T)) := ⟨x, T, ns, rfl, h⟩
end Go.Px
namespace Go.Px
open Go
section
variable {E : Env} {GE : Nat → Option ZFn} {LZ : Nat → Option ZLn} {P : Ans → Prop}
noncomputable def aftR (cy : CallYT) (Y : YE) (k l : Nat) (zl : ZLn) : KB := fun _ V H => match H.get l with
 | some (.loop .ready pend tm ps a b) => setT H l (.loop .busy pend tm ps a b) fun H =>
  zl.body cy Y k (fun _ _ H => endR l .normal H) (fun i _ _ H => endR l (.exit i) H) (fun _ _ H => endR l .ret H) [] V H
 | _ => none
theorem aft_eq {cy : CallYT} {Y : YE} {k l : Nat} {zl : ZLn} {L V : List AV} {H : Heap} {pd : Option Code} {tm : List AV} {ps : List Nat} {a b : Code} (h : H[l]? = some (.loop .ready pd tm ps a b)) :
  aftR cy Y k l zl L V (rep H) = zl.body cy Y k (fun _ _ H => endR l .normal H) (fun i _ _ H => endR l (.exit i) H) (fun _ _ H => endR l .ret H) [] V (rep (H.set l (.loop .busy pd tm ps a b))) := by
 simp only [aftR, rep_get, h, setT_eq, rep_set]
theorem endR_eq {l : Nat} {e : AExit} {H : Heap} {s : LoopState} {pd : Option Code} {tm : List AV} {ps : List Nat} {a b : Code} (h : H[l]? = some (.loop s pd tm ps a b)) :
  endR l e (rep H) = some (.bool (jumpOf e).isNone, rep (H.set l (.loop (if (jumpOf e).isNone then .ready else .done) (jumpOf e) tm ps a b))) := by
 simp only [endR, rep_get, h, setT_eq, rep_set]
def EndsQ (Q : Bool → Heap → Prop) (a : Ans) : Prop := ∃ b H, a = some (.bool b, rep H) ∧ Q b H
theorem endsQ {Q : Bool → Heap → Prop} {b : Bool} {H : Heap} (h : Q b H) : EndsQ Q (some (.bool b, rep H)) := ⟨b, H, rfl, h⟩
theorem round_go {k l : Nat} {Y : YE} {d : LD} {zl : ZLn} {args : List AV} {H : Heap} {Q : Bool → Heap → Prop} {pd : Option Code} {tm : List AV} {ps : List Nat} {a b : Code} (hY : YE.at Y l = some d) (hL : LZ d.id = some zl) (hl : H[l]? = some (.loop .ready pd tm ps a b)) (hn : args.length = zl.ps.length)
  (hc : EndsQ Q (zl.asg (callZ E GE LZ k) Y k (aftR (callZ E GE LZ k) Y k l zl) (fun _ _ _ _ => none) (fun _ _ _ => none) [] (setV d.V zl.ps args) (rep H))) :
  ∃ b H' ac, callZ E GE LZ (k + 1) Y (.yield l) args (rep H) = some (.bool b, rep H', ac) ∧ Q b H' := by
 obtain ⟨b2, H', e, hq⟩ := hc
 have e2 : roundZ (callZ E GE LZ k) Y k l zl d.V args (rep H) = ansB (zl.asg (callZ E GE LZ k) Y k (aftR (callZ E GE LZ k) Y k l zl) (fun _ _ _ _ => none) (fun _ _ _ => none) [] (setV d.V zl.ps args) (rep H)) (fun r H2 => some (r, H2, rawAcc (rep H).tl H2.tl)) := by
  unfold roundZ
  simp only [rep_get, hl, hn, ne_eq, not_true, if_false, fS_eq]
  rfl
 obtain ⟨ac, h⟩ := call_round (T := rep H) (args := args) (k := k) (E := E) (GE := GE) (r := .bool b2) (T2 := rep H') hY hL ⟨rawAcc (rep H).tl (rep H').tl, by
  rw [e2, e]
  simp only [ansB_eq]⟩
 exact ⟨b2, H', ac, h, hq⟩
theorem zRange_wp {cy : CallYT} {Y : YE} {f : O} {id : Nat} {caps mk : List (Option O)} {ps : List Nat} {asg body : Code} {kn : KB} {kx : Nat → KB} {kr : KB} {L V : List AV} {H : Heap} {g : Nat} {cs : List AV}
  (hf : gO L V f = .clo g cs) (hc : ∃ r H2 ac, cy (⟨H.length, id, caps.map (gM L V)⟩ :: Y) (.func g) (.yield H.length :: cs) (rep (H ++ [.loop .ready none (mk.map (gM L V)) ps asg body])) = some (r, rep H2, ac) ∧
   ∃ s pd tm ps a b, H2[H.length]? = some (.loop s pd tm ps a b) ∧ (s == .busy) = false ∧ ((pd = none ∧ P (kn L V (rep (H2.set H.length (.loop .exhausted none tm ps a b))))) ∨ (pd = some .ret ∧ P (kr L V (rep (H2.set H.length (.loop .exhausted (some .ret) tm ps a b))))) ∨ ∃ i, pd = some (.exit i) ∧ P (kx i L V (rep (H2.set H.length (.loop .exhausted (some (.exit i)) tm ps a b)))))) :
  P (zRange cy Y f id caps mk ps asg body kn kx kr L V (rep H)) := by
 obtain ⟨r, H2, ac, hc, s, pd, tm, ps2, a, b, h2, hs, hp⟩ := hc
 unfold zRange
 simp only [gZ_eq, hf, cloCZ, lenT_eq, rep_n, gMsZ_eq, pushT_eq, ← rep_push, ansC_eq, hc, endZ, rep_get, h2, hs, setT_eq, rep_set]
 rcases hp with ⟨rfl, hp⟩ | ⟨rfl, hp⟩ | ⟨i, rfl, hp⟩
 ·simpa [setT_eq, rep_set] using hp
 ·simpa [setT_eq, rep_set] using hp
 ·simpa [setT_eq, rep_set] using hp
def EndsH (Q : AV → Heap → Prop) (a : Ans) : Prop := ∃ x H, a = some (x, rep H) ∧ Q x H
theorem endsH {Q : AV → Heap → Prop} {x : AV} {H : Heap} (h : Q x H) : EndsH Q (some (x, rep H)) := ⟨x, H, rfl, h⟩
theorem raw_go {k f : Nat} {Y : YE} {zf : ZFn} {args V0 : List AV} {H : Heap} {Q : AV → Heap → Prop} (hG : GE f = some zf) (hp : E.pure f = false) (hV : ∀ c : List AV → Ans, leZ args zf.n (initZ zf.vs args c) = c V0)
  (hb : EndsH Q (zf.z (callZ E GE LZ k) Y k (finZ E zf.res) (fun _ _ _ _ => none) (finZ E zf.res) [] V0 (rep H))) :
  ∃ r H' ac, callZ E GE LZ (k + 1) Y (.func f) args (rep H) = some (r, rep H', ac) ∧ Q r H' := by
 obtain ⟨x, H', e, hq⟩ := hb
 obtain ⟨ac, h⟩ := call_raw (E := E) (LZ := LZ) (k := k) (Y := Y) (T := rep H) (r := x) (T2 := rep H') hG hp (by unfold bodyZ; rw [hV]; exact e)
 exact ⟨x, H', ac, h, hq⟩
end
end Go.Px
namespace Go.Px
open Go
section
variable {E : Env} {L V : List AV} {T T' : TH} {H : Heap} {K : KB} {KD : SPK} {x : AV} {a a' : Acc} {call : CallTT} {fa : FA} {lt : Bool} {ix : Nat} {sl : Option Nat} {sp : List (Nat × Acc)} {bef : List Nat} {n0 : Nat} {t : Tgt} {ar9 : List AV}
def Plain (E : Env) : Tgt → List AV → Prop
 | .func f, as => E.prim f as = none
 | .yield _, _ => True
theorem prim_plain (h : Plain E t ar9) : primEff E (rep H).tl (.call t ar9, a) = some (.call t ar9, a) := by
 cases t with
 | func f => simp only [primEff, fS_eq]; rw [show E.prim f ar9 = none from h]
 | yield l => rfl
theorem sP_call (hc : call t ar9 (rep H) = some (x, T', a')) (he : evalFA E L V H fa = some (.call t ar9, a)) (hp : Plain E t ar9) : zStep E call ⟨fa, .push, none, lt, ix, sl⟩ K L V (rep H) = K (x :: L) V T' := by
 have he' : evalFT E L V (rep H) fa = some (.call t ar9, a) := by rw [evalFT_ok, he]
 simp [zStep, runFT, wantedF, he', prim_plain hp, effT, fS_eq, hc, putF_eq, putFL, putFV]
theorem dP_callI (hc : call t ar9 (rep H) = some (x, T', a')) (he : evalFA E L V H fa = some (.call t ar9, a)) (hp : Plain E t ar9) (hi : a'.idle = true) : zStepD E call bef n0 ⟨fa, .push, none, lt, ix, sl⟩ KD sp L V (rep H) = KD sp (x :: L) V T' := by
 have he' : evalFT E L V (rep H) fa = some (.call t ar9, a) := by rw [evalFT_ok, he]
 simp [zStepD, runFT, wantedF, he', prim_plain hp, effT, fS_eq, hc, putF_eq, putFL, putFV, accZ_idle hi]
theorem dP_callA (hc : call t ar9 (rep H) = some (x, T', a')) (he : evalFA E L V H fa = some (.call t ar9, a)) (hp : Plain E t ar9) (hs : spOk bef ix a' sp = true) : zStepD E call bef n0 ⟨fa, .push, none, lt, ix, sl⟩ KD sp L V (rep H) = KD (if a'.idle = true then sp else (ix, a') :: sp) (x :: L) V T' := by
 have he' : evalFT E L V (rep H) fa = some (.call t ar9, a) := by rw [evalFT_ok, he]
 cases hi : a'.idle with
 | true => simp [zStepD, runFT, wantedF, he', prim_plain hp, effT, fS_eq, hc, putF_eq, putFL, putFV, accZ_idle hi]
 | false => simp [zStepD, runFT, wantedF, he', prim_plain hp, effT, fS_eq, hc, putF_eq, putFL, putFV, accZ_ok hi hs]
theorem ev_callv {f : O} {args : List O} {v : AV} {vs : List AV} (hf : gO L V f = v) (hv : args.map (gO L V) = vs) (hc : calleeV vs v = some (.call t ar9, a)) : evalFA E L V H (.callv f args) = some (.call t ar9, a) := by
 subst hf hv; exact hc
end
end Go.Px
namespace Go.Px
open Go
theorem ends_cell {E : Env} {L V : List AV} {H : Heap} {o : O} {t nm off e : Nat} {cs : List AV} {fr : Bool} {x r : AV} {ns : List Nat} (ho : gO [] V o = .loc nm off) (hr : H[nm]? = some (.row e cs fr)) (ht : ∃ i, E.ty t = some i ∧ off + i.size ≤ cs.length ∧ mkV i.desc.isAgg ((cs.drop off).take i.size) = some x) (hz : fzG E (rep H).get fzDeep x = some (r, ns)) :
  Ends E r (finZ E [.cell o t] L V (rep H)) := by
 obtain ⟨i, h1, h2, h3⟩ := ht
 refine ⟨x, rep H, ns, ?_, hz⟩
 rw [finZ_eq, resT_ok]
 simp [resF, loadA, ho, h1, hr, h2, h3, resOf]
theorem ends_tmp {E : Env} {L V : List AV} {T : TH} {o : O} {r : AV} {ns : List Nat} (hz : fzG E T.get fzDeep (gO [] V o) = some (r, ns)) : Ends E r (finZ E [.tmp o] L V T) := by
 refine ⟨_, T, ns, ?_, hz⟩
 rw [finZ_eq]; rfl
end Go.Px
namespace Go.Px
open Go
section
variable {E : Env} {L V : List AV} {H : Heap} {a b : O} {k : IntKind} {m n : Int}
theorem ev_max (ha : gO L V a = .int k m) (hb : gO L V b = .int k n) : evalFA E L V H (.most true [a, b]) = some (.val (.int k (max m n)), Acc.none) := by
 simp [evalFA, mostA, most2, ha, hb]; omega
theorem ev_maxN {m n : Nat} (ha : gO L V a = .int k (m : Int)) (hb : gO L V b = .int k (n : Int)) : evalFA E L V H (.most true [a, b]) = some (.val (.int k ((max m n : Nat) : Int)), Acc.none) := by
 rw [ev_max ha hb]
 congr 4
 omega
theorem ev_min (ha : gO L V a = .int k m) (hb : gO L V b = .int k n) : evalFA E L V H (.most false [a, b]) = some (.val (.int k (min m n)), Acc.none) := by
 simp [evalFA, mostA, most2, ha, hb]; omega
end
end Go.Px
namespace Go.Px
open Go
section
variable {L V : List AV} {T : TH} {x : AV}
theorem wL_loc {sz : Nat} {agg : Bool} {o : O} {H : Heap} {nm off : Nat} {e : TypeId} {cs : List AV} {fr : Bool} (ho : gO L V o = .loc nm off) (hr : H[nm]? = some (.row e cs fr)) (hl : Nat.ble (off + sz) cs.length = true) (hx : mkV agg ((cs.drop off).take sz) = some x) (c : AV → Acc → Ans) :
  wLoad sz agg o L V (rep H) c = c x (Acc.read nm) := wLoad_loc ho hr (Nat.le_of_ble_eq_true hl) hx c
theorem wL_ref {sz : Nat} {agg : Bool} {o : O} {cs : List AV} (ho : gO L V o = .ref cs) (hl : Nat.ble sz cs.length = true) (hx : mkV agg (cs.take sz) = some x) (c : AV → Acc → Ans) :
  wLoad sz agg o L V T c = c x Acc.none := wLoad_ref ho (Nat.le_of_ble_eq_true hl) hx c
end
end Go.Px
namespace Go.Px
open Go
noncomputable def endsB (E : Env) (r : AV) (a : Ans) : Bool := match a with
 | some (x, T) => match fzG E T.get fzDeep x with
  | some (r', _) => eqW r r'
  | none => false
 | none => false
theorem endsB_ok {E : Env} {r : AV} {a : Ans} (h : endsB E r a = true) : Ends E r a := by
 unfold endsB at h
 split at h
 ·rename_i x T
  split at h
  ·rename_i r' ns hz
   exact ⟨x, T, ns, rfl, by rw [hz, eqW_ok h]⟩
  ·cases h
 ·cases h
end Go.Px
namespace Go.Px
open Go
theorem fzG_ownX {E : Env} {g : Nat → Option AO} {k nm n sz e : Nat} {cs : List AV} {fr : Bool} (h : g nm = some (.row e cs fr)) (hl : cs.length = n * sz) (hc : fzL (fzG E g k) cs = some (cs, [])) : fzG E g (k + 1) (.own nm 0 n sz) = some (.sl n cs false, [nm]) := by
 have ht : cs.take (n * sz) = cs := List.take_of_length_le (by omega)
 simp [fzG, h, hl, hc, ht]
def OwnA (e sz : Nat) (H : Heap) (v : AV) (cs : List AV) (n : Nat) : Prop := cs.length = n * sz ∧ ((n = 0 ∧ v = .sl 0 [] true) ∨ (n ≠ 0 ∧ ∃ nm, v = .own nm 0 n sz ∧ H[nm]? = some (.row e cs false)))
def NotAt (v : AV) (i : Nat) : Prop := ∀ b off m s, v = .own b off m s → b ≠ i
section
variable {E : Env} {L V : List AV} {H : Heap} {a b : O} {e sz t by' n : Nat} {v : AV} {cs xs : List AV}
theorem ownA_nil {e sz : Nat} {H : Heap} : OwnA e sz H (.sl 0 [] true) [] 0 := ⟨by simp, .inl ⟨rfl, rfl⟩⟩
theorem OwnA.app (h : OwnA e sz H v cs n) (Z : Heap) : OwnA e sz (H ++ Z) v cs n := by
 obtain ⟨h1, h2⟩ := h
 refine ⟨h1, ?_⟩
 rcases h2 with h2 | ⟨h2, nm, h3, h4⟩
 ·exact .inl h2
 ·exact .inr ⟨h2, nm, h3, by rw [List.getElem?_append_left (List.getElem?_eq_some_iff.1 h4).1]; exact h4⟩
theorem OwnA.set (h : OwnA e sz H v cs n) {i : Nat} (o : AO) (hi : NotAt v i) : OwnA e sz (H.set i o) v cs n := by
 obtain ⟨h1, h2⟩ := h
 refine ⟨h1, ?_⟩
 rcases h2 with h2 | ⟨h2, nm, rfl, h4⟩
 ·exact .inl h2
 ·exact .inr ⟨h2, nm, rfl, by rw [List.getElem?_set_ne (fun e => hi _ _ _ _ rfl e.symm)]; exact h4⟩
theorem OwnA.lt (h : OwnA e sz H v cs n) {i : Nat} (hi : H.length ≤ i) : NotAt v i := by
 intro b off m s e
 rcases h.2 with ⟨_, h2⟩ | ⟨_, nm, h3, h4⟩
 ·rw [h2] at e; cases e
 ·rw [h3] at e; cases e
  have := (List.getElem?_eq_some_iff.1 h4).1
  omega
theorem OwnA.fz (h : OwnA e sz H v cs n) (hc : ∀ g, fzL (fzG E g 59) cs = some (cs, [])) : ∃ ns, fzG E (rep H).get fzDeep v = some (.sl n cs (n == 0), ns) := by
 obtain ⟨h1, h2⟩ := h
 rw [show (rep H).get = fun i => H[i]? from funext (rep_get _)]
 rcases h2 with ⟨rfl, rfl⟩ | ⟨hne, nm, rfl, hr⟩
 ·have : cs = [] := List.eq_nil_of_length_eq_zero (by omega)
  subst this; exact ⟨[], rfl⟩
 ·have hne' : (n == 0) = false := by simpa using hne
  exact ⟨[nm], by rw [hne']; exact fzG_ownX (k := 59) hr h1 (hc _)⟩
theorem appP (R : RowT E t e sz by') {nb m : Nat} {fr : Bool} (ha : gO L V a = v) (hb : gO L V b = .own nb 0 m sz) (hrb : H[nb]? = some (.row e xs fr)) (hm : m ≠ 0) (hxs : xs.length = m * sz) (hv : OwnA e sz H v cs n) (hn : n + m ≤ 1000000000) (call : CallTT) (lt : Bool) (ix : Nat) (sl : Option Nat) :
  ∃ H' v', (∀ K : KB, zStep E call ⟨.append t t a b, .push, none, lt, ix, sl⟩ K L V (rep H) = K (v' :: L) V (rep H')) ∧ OwnA e sz H' v' (cs ++ xs) (n + m) ∧ (∀ i o, H[i]? = some o → NotAt v i → H'[i]? = some o) ∧ H.length ≤ H'.length ∧ (∀ i, i < H.length → NotAt v' i) := by
 obtain ⟨h1, h2⟩ := hv
 rcases h2 with ⟨rfl, rfl⟩ | ⟨hne, nm, rfl, hr⟩
 ·have hcs : cs = [] := List.eq_nil_of_length_eq_zero (by omega)
  subst hcs
  refine ⟨H ++ [.row e xs false], .own H.length 0 m sz, fun K => sP_new (append_firstG R ha hb hrb hxs hm (by omega)), ⟨by simp [hxs], .inr ⟨by omega, H.length, by simp, by simp⟩⟩, fun i o h _ => by rw [List.getElem?_append_left (List.getElem?_eq_some_iff.1 h).1]; exact h, by simp, fun i hi b off m s e => by cases e; omega⟩
 ·refine ⟨H.set nm .dead ++ [.row e (cs ++ xs) false], .own H.length 0 (n + m) sz, fun K => sP_app (append_nextG R ha hr h1 hb hrb hxs hm hn), ⟨by simp [hxs, h1, Nat.add_mul], .inr ⟨by omega, H.length, rfl, by
   have := @List.getElem?_concat_length AO (H.set nm .dead) (.row e (cs ++ xs) false)
   simp⟩⟩, fun i o h hi => ?_, by simp, fun i hi b off m s e => by cases e; omega⟩
  rw [List.getElem?_append_left (by rw [List.length_set]; exact (List.getElem?_eq_some_iff.1 h).1), List.getElem?_set_ne (hi _ _ _ _ rfl)]
  exact h
end
end Go.Px
namespace Go.Px
open Go
theorem appW {P : Ans → Prop} {E : Env} {L V : List AV} {H : Heap} {K : KB} {a b : O} {e sz t by' n : Nat} {v : AV} {cs xs : List AV} {call : CallTT} {lt : Bool} {ix : Nat} {sl : Option Nat} (R : RowT E t e sz by') {nb m : Nat} {fr : Bool} (ha : gO L V a = v) (hb : gO L V b = .own nb 0 m sz) (hrb : H[nb]? = some (.row e xs fr)) (hm : m ≠ 0) (hxs : xs.length = m * sz) (hv : OwnA e sz H v cs n) (hn : n + m ≤ 1000000000)
  (hk : ∀ H' nm, H'[nm]? = some (.row e (cs ++ xs) false) → (∀ i o, H[i]? = some o → NotAt v i → H'[i]? = some o) → H.length ≤ H'.length → H.length ≤ nm → P (K (.own nm 0 (n + m) sz :: L) V (rep H'))) :
  P (zStep E call ⟨.append t t a b, .push, none, lt, ix, sl⟩ K L V (rep H)) := by
 obtain ⟨H', v', e1, h1, h2, h3, h4⟩ := appP R ha hb hrb hm hxs hv hn call lt ix sl
 rw [e1]
 obtain ⟨_, ⟨h5, _⟩ | ⟨_, nm, rfl, h6⟩⟩ := h1
 ·omega
 ·exact hk H' nm h6 h2 h3 (Nat.le_of_not_lt fun h => h4 nm h _ _ _ _ rfl rfl)
theorem ownA_own {e sz : Nat} {H : Heap} {nm n : Nat} {cs : List AV} (h : H[nm]? = some (.row e cs false)) (hl : cs.length = n * sz) (hn : n ≠ 0) : OwnA e sz H (.own nm 0 n sz) cs n := ⟨hl, .inr ⟨hn, nm, rfl, h⟩⟩
end Go.Px
namespace Go.Px
open Go
theorem call_fz {E : Env} {GE : Nat → Option ZFn} {LZ : Nat → Option ZLn} {K : Nat} {Y Y' : YE} {f : Nat} {args fargs : List AV} {r' : AV} {T T0 T1 : TH} {a1 : Acc} {ns : List Nat} (hp : E.pure f = true) (h : callZ E GE LZ K Y' (.func f) fargs T0 = some (r', T1, a1)) (hz0 : fzL (fzG E T0.get fzDeep) fargs = some (fargs, [])) (hz : fzL (fzG E T.get fzDeep) args = some (fargs, ns)) :
  callZ E GE LZ K Y (.func f) args T = some (r', if flat r' then T else T.marks ns, ⟨ns ++ ns, [], false⟩) := by
 cases K with
 | zero => cases h
 | succ k =>
  cases hG : GE f with
  | none =>
   have h2 : callZ E GE LZ (k + 1) Y' (.func f) fargs T0 = none := by
    show @Option.rec ZFn (fun _ => Res) none (fun zf => ifR (E.pure f) (callPure E (callZ E GE LZ k) k zf fargs T0) (callRawZ E (callZ E GE LZ k) Y' k zf fargs T0)) (GE f) = _
    rw [hG]
   rw [h2] at h; cases h
  | some zf =>
   have h2 : callZ E GE LZ (k + 1) Y' (.func f) fargs T0 = callPure E (callZ E GE LZ k) k zf fargs T0 := by
    show @Option.rec ZFn (fun _ => Res) none (fun zf => ifR (E.pure f) (callPure E (callZ E GE LZ k) k zf fargs T0) (callRawZ E (callZ E GE LZ k) Y' k zf fargs T0)) (GE f) = _
    rw [hG]; simp only [ifR_eq, hp, if_true]
   rw [h2] at h
   unfold callPure at h
   rw [fzLZ_eq (d := none) (g := fzG E T0.get fzDeep) (fun v c => fzZ_eq E none T0 fzDeep v c), hz0] at h
   simp only [ansB_eq, fzZ_eq E] at h
   cases hb : bodyZ E (callZ E GE LZ k) [] k zf fargs .nil with
   | none => rw [hb] at h; cases h
   | some p =>
    obtain ⟨x, T2⟩ := p
    rw [hb] at h
    simp only at h
    cases hx : fzG E T2.get fzDeep x with
    | none => rw [hx] at h; cases h
    | some q =>
     obtain ⟨y, ms⟩ := q
     rw [hx] at h
     have e : y = r' := by
      simp only [ifR_eq, markZ_eq] at h
      split at h <;> (cases h; rfl)
     subst e
     exact call_pure hG hp hz hb hx
theorem call_fzF {E : Env} {GE : Nat → Option ZFn} {LZ : Nat → Option ZLn} {K : Nat} {Y Y' : YE} {f : Nat} {args fargs : List AV} {r' : AV} {H : Heap} {T0 T1 : TH} {a1 : Acc} {ns : List Nat} (h : callZ E GE LZ K Y' (.func f) fargs T0 = some (r', T1, a1)) (hp : E.pure f = true) (hz0 : ∀ g, fzL (fzG E g fzDeep) fargs = some (fargs, [])) (hz : fzL (fzG E (fun i => H[i]?) fzDeep) args = some (fargs, ns)) (hf : flat r' = true) :
  callZ E GE LZ K Y (.func f) args (rep H) = some (r', rep H, ⟨ns ++ ns, [], false⟩) := by
 rw [call_fz (Y := Y) (T := rep H) hp h (hz0 _) (by rw [show (rep H).get = fun i => H[i]? from funext (rep_get _)]; exact hz), if_pos hf]
theorem call_fzN {E : Env} {GE : Nat → Option ZFn} {LZ : Nat → Option ZLn} {K : Nat} {Y Y' : YE} {f : Nat} {args fargs : List AV} {r' : AV} {H : Heap} {T0 T1 : TH} {a1 : Acc} {ns : List Nat} (h : callZ E GE LZ K Y' (.func f) fargs T0 = some (r', T1, a1)) (hp : E.pure f = true) (hz0 : ∀ g, fzL (fzG E g fzDeep) fargs = some (fargs, [])) (hz : fzL (fzG E (fun i => H[i]?) fzDeep) args = some (fargs, ns)) (hf : flat r' = false) :
  callZ E GE LZ K Y (.func f) args (rep H) = some (r', rep (markAll H ns), ⟨ns ++ ns, [], false⟩) := by
 rw [call_fz (Y := Y) (T := rep H) hp h (hz0 _) (by rw [show (rep H).get = fun i => H[i]? from funext (rep_get _)]; exact hz), if_neg (by simp [hf]), rep_marks]
section
variable {L V : List AV} {T T' : TH} {K : SPK} {x : AV} {acc : Acc} {call : CallTT} {sp : List (Nat × Acc)} {bef : List Nat}
theorem cP_acc {i f : Nat} {args : List O} {vs : List AV} (hv : args.map (gO L V) = vs) (h : call (.func f) vs T = some (x, T', acc)) (ha : acc.idle = false) (hs : spOk bef i acc sp = true) : zCallD call bef i f args .push K sp L V T = K ((i, acc) :: sp) (x :: L) V T' := zCallD_v (hv ▸ h) ha hs
end
end Go.Px
namespace Go.Px
open Go
theorem ends_cellH {E : Env} {L V : List AV} {H : Heap} {o : O} {t nm off e : Nat} {cs : List AV} {fr : Bool} {x r : AV} {ns : List Nat} (ho : gO [] V o = .loc nm off) (hr : H[nm]? = some (.row e cs fr)) (ht : ∃ i, E.ty t = some i ∧ off + i.size ≤ cs.length ∧ mkV i.desc.isAgg ((cs.drop off).take i.size) = some x) (hz : fzG E (fun i => H[i]?) fzDeep x = some (r, ns)) :
  Ends E r (finZ E [.cell o t] L V (rep H)) := ends_cell ho hr ht (by rw [show (rep H).get = fun i => H[i]? from funext (rep_get _)]; exact hz)
end Go.Px
namespace Go.Px
open Go
theorem ends_cl {E : Env} {L V : List AV} {H : Heap} {o : O} {t nm off e : Nat} {cs : List AV} {fr : Bool} {x r : AV} {ns : List Nat} (ho : gO [] V o = .loc nm off) (hr : H[nm]? = some (.row e cs fr)) (ht : ∃ i, E.ty t = some i ∧ Nat.ble (off + i.size) cs.length = true ∧ mkV i.desc.isAgg ((cs.drop off).take i.size) = some x) (hz : fzG E (fun i => H[i]?) fzDeep x = some (r, ns)) :
  Ends E r (finZ E [.cell o t] L V (rep H)) := by
 obtain ⟨i, h1, h2, h3⟩ := ht
 exact ends_cellH ho hr ⟨i, h1, Nat.le_of_ble_eq_true h2, h3⟩ hz
end Go.Px
namespace Go.Px
open Go
theorem vConvX {L V : List AV} {T : TH} {a : O} {k k0 : IntKind} {n m : Int} (ha : gO L V a = .int k0 n) (h : k.wrap n = m) (c : AV → Ans) : vConv k a L V T c = c (.int k m) := by rw [vConv_eq ha, h]
theorem bAVn {b c : Bool} (h : b = c) : AV.bool (!b) = .bool (!c) := by rw [h]
end Go.Px
namespace Go.Px
open Go
theorem call_any {E : Env} {GE : Nat → Option ZFn} {LZ : Nat → Option ZLn} {K : Nat} {Y Y' : YE} {f : Nat} {args : List AV} {r' : AV} {T T0 T1 : TH} {a1 : Acc} (h : callZ E GE LZ K Y' (.func f) args T0 = some (r', T1, a1)) (hp : E.pure f = true) (hz0 : ∀ g, fzL (fzG E g fzDeep) args = some (args, [])) :
  callZ E GE LZ K Y (.func f) args T = some (r', T, ⟨[], [], false⟩) := by
 rw [call_fz (Y := Y) (T := T) hp h (hz0 _) (hz0 _)]
 split <;> rfl
end Go.Px
namespace Go.Px
open Go
section
variable {L V : List AV} {T : TH} {K : KB} {KD : SPK} {sp : List (Nat × Acc)} {g : O} {want : Bool} {d : FD} {i : KB → KB} {iD : SPK → SPK} {l : List AV} {f : KB → KB} {a b : CZ} {kn : KB} {kx : Nat → KB} {kr : KB} {z : Ans} {P : Ans → Prop} {j : Nat} {o : O} {c : O}
theorem zpR (e : P (f (b kn kx kr) [] V T)) : P (zSeq (zReg f) b kn kx kr L V T) := st zSeq_reg e
theorem zpA (e : P (a (b kn kx kr) kx kr L V T)) : P (zSeq a b kn kx kr L V T) := st zSeq_app e
theorem zpK (e : P (kn L V T)) : P (zSkip kn kx kr L V T) := st zSkip_app e
theorem zpH (h : gO L V g = .bool want) (e : P (iD KD sp L V T)) : P (zGD g want d iD KD sp L V T) := st (zGD_hit h) e
theorem zph (h : gO L V g = .bool want) (e : P (i K L V T)) : P (zG g want d i K L V T) := by
 have : zG g want d i K L V T = i K L V T := by
  simp only [zG, gZ_eq, h, grdZ_eq]
  cases want <;> rfl
 rw [this]; exact e
theorem zpm (h : gO L V g = .bool (!want)) (e : P (K (putFL d (.tup []) L) (putFV d (.tup []) V) T)) : P (zG g want d i K L V T) := by
 have : zG g want d i K L V T = K (putFL d (.tup []) L) (putFV d (.tup []) V) T := by
  simp only [zG, gZ_eq, h, grdZ_eq, putZ_eq]
  cases want <;> rfl
 rw [this]; exact e
theorem zpV (e : P (K L (V.set j (gO L V o)) T)) : P (zV j (vMv o) K L V T) := st (zV_v vMv_eq) e
theorem zpt (h : gO L V c = .bool true) (e : P (a kn kx kr L V T)) : P (zCond c a b kn kx kr L V T) := st (zCond_t h) e
theorem zpf (h : gO L V c = .bool false) (e : P (b kn kx kr L V T)) : P (zCond c a b kn kx kr L V T) := st (zCond_f h) e
end
theorem vNil_ref {L V : List AV} {T : TH} {a : O} {cs : List AV} (ha : gO L V a = .ref cs) (c : AV → Ans) : vNilCheck a L V T c = c (.ref cs) := by
 simp only [vNilCheck, gZ_eq, ha]; rfl
end Go.Px
namespace Go.Px
open Go
theorem vExt_eq {L V : List AV} {T : TH} {x : AV} {i : Nat} {o : O} {vs : List AV} (ho : gO L V o = .tup vs) (hi : vs[i]? = some x) (c : AV → Ans) : vExtract i o L V T c = c x := by
 simp only [vExtract, gZ_eq, ho, tupCZ_eq, dropZ_eq]
 have hl := (List.getElem?_eq_some_iff.1 hi).1
 rw [List.drop_eq_getElem_cons hl, (List.getElem?_eq_some_iff.1 hi).2]
theorem ends_ct {E : Env} {L V : List AV} {H : Heap} {o o2 : O} {t nm off e : Nat} {cs : List AV} {fr : Bool} {x r : AV} {ns : List Nat} (ho : gO [] V o = .loc nm off) (hr : H[nm]? = some (.row e cs fr)) (ht : ∃ i, E.ty t = some i ∧ Nat.ble (off + i.size) cs.length = true ∧ mkV i.desc.isAgg ((cs.drop off).take i.size) = some x) (hz : fzG E (fun i => H[i]?) fzDeep (.tup [x, gO [] V o2]) = some (r, ns)) :
  Ends E r (finZ E [.cell o t, .tmp o2] L V (rep H)) := by
 obtain ⟨i, h1, h2, h3⟩ := ht
 have h2 := Nat.le_of_ble_eq_true h2
 refine ⟨.tup [x, gO [] V o2], rep H, ns, ?_, by rw [show (rep H).get = fun i => H[i]? from funext (rep_get _)]; exact hz⟩
 rw [finZ_eq, resT_ok]
 simp [resF, loadA, ho, h1, hr, h2, h3, resOf]
theorem ends_cc {E : Env} {L V : List AV} {H : Heap} {o o2 : O} {t nm off e t2 nm2 off2 e2 : Nat} {cs cs2 : List AV} {fr fr2 : Bool} {x x2 r : AV} {ns : List Nat} (ho : gO [] V o = .loc nm off) (hr : H[nm]? = some (.row e cs fr)) (ht : ∃ i, E.ty t = some i ∧ Nat.ble (off + i.size) cs.length = true ∧ mkV i.desc.isAgg ((cs.drop off).take i.size) = some x)
  (ho2 : gO [] V o2 = .loc nm2 off2) (hr2 : H[nm2]? = some (.row e2 cs2 fr2)) (ht2 : ∃ i, E.ty t2 = some i ∧ Nat.ble (off2 + i.size) cs2.length = true ∧ mkV i.desc.isAgg ((cs2.drop off2).take i.size) = some x2) (hz : fzG E (fun i => H[i]?) fzDeep (.tup [x, x2]) = some (r, ns)) :
  Ends E r (finZ E [.cell o t, .cell o2 t2] L V (rep H)) := by
 obtain ⟨i, h1, h2, h3⟩ := ht
 obtain ⟨j, g1, g2, g3⟩ := ht2
 have h2 := Nat.le_of_ble_eq_true h2
 have g2 := Nat.le_of_ble_eq_true g2
 refine ⟨.tup [x, x2], rep H, ns, ?_, by rw [show (rep H).get = fun i => H[i]? from funext (rep_get _)]; exact hz⟩
 rw [finZ_eq, resT_ok]
 simp [resF, loadA, ho, h1, hr, h2, h3, ho2, hr2, g1, g2, g3, resOf]
end Go.Px
namespace Go.Px
open Go
section
variable {E : Env} {t e sz by' : Nat} {L V : List AV} {H : Heap} {a b : O}
theorem sl_lo (R : RowT E t e sz by') {n h : Nat} {cs : List AV} {f : Bool} (ha : gO L V a = .sl n cs f) (hb : gO L V b = .int .i64 (h : Int)) (hn : cs.length = n * sz) (hh : h ≤ n) :
  evalFA E L V H (.slice t a (some b) none none) = some (.val (.sl (n - h) (cs.drop (h * sz)) f), Acc.none) := by
 obtain ⟨it, h1, h2⟩ := R.ht
 obtain ⟨ie, h3, h4, h5⟩ := R.he
 subst h4
 have e0 : cs.take (n * ie.size) = cs := List.take_of_length_le (by omega)
 simp [evalFA, sliceA, boundA, h1, h2, h3, ha, hb, hn, hh, e0]
end
section
variable {E : Env} {L V : List AV} {T T' : TH} {H : Heap} {K : KB} {x : AV} {call : CallTT} {fo : FO} {a a2 : Acc}
theorem zS_toldV {f : Nat} {ar9 : List AV} {p : Heap → Option (Eff × Acc)} (hg : wantedF fo.g L V = some true) (he : evalFT E L V T fo.fa = some (.call (.func f) ar9, a)) (hp : E.prim f ar9 = some p) (hq : p T.tl = some (.val x, a2)) :
  zStep E call fo K L V T = K (putFL fo.dst x L) (putFV fo.dst x V) T := by
 cases hl : fo.light <;> simp [zStep, runFT, hg, he, primEff, fS_eq, hp, hq, effT, putF_eq, fV_eq, fW_eq, hl]
end
end Go.Px
set_option linter.unusedVariables false
set_option linter.unusedSimpArgs false
namespace Go.Px
open Go
def gQ (L V : List AV) : O → Option AV
 | .l i => L[i]?
 | .v j => V[j]?
 | .k x => some x
theorem gQ_ok {L V : List AV} {o : O} {x : AV} (h : gQ L V o = some x) : gO L V o = x := by
 cases o with
 | l i => simp only [gQ] at h; simp [gO, h]
 | v j => simp only [gQ] at h; simp [gO, h]
 | k y => simp only [gQ, Option.some.injEq] at h; simp [gO, h]
def setC {α : Type} : List α → Nat → α → (List α → Option (List α)) → Option (List α)
 | [], _, _, k => k []
 | _ :: l, 0, x, k => k (x :: l)
 | a :: l, n + 1, x, k => setC l n x fun r => k (a :: r)
theorem setC_eq {α : Type} : ∀ (l : List α) (n : Nat) (x : α) (k : List α → Option (List α)), setC l n x k = k (l.set n x)
 | [], _, _, _ => rfl
 | _ :: _, 0, _, _ => rfl
 | a :: l, n + 1, x, k => by rw [setC, setC_eq l n x]; rfl
theorem setC_ok {α : Type} {l r : List α} {n : Nat} {x : α} (h : setC l n x some = some r) : l.set n x = r := by
 rw [setC_eq] at h; simpa using h
def pickC {α : Type} (l : List α) : List Nat → (List α → Option (List α)) → Option (List α)
 | [], k => k []
 | i :: is, k => match l[i]? with
  | some x => pickC l is fun r => k (x :: r)
  | none => none
theorem pickC_ok {α : Type} {l : List α} : ∀ (is : List Nat) (k : List α → Option (List α)) {r : List α}, pickC l is k = some r → ∃ xs : List α, is.map (fun i => l[i]?) = xs.map some ∧ k xs = some r
 | [], k, r, h => ⟨[], rfl, h⟩
 | i :: is, k, r, h => by
  unfold pickC at h
  split at h
  ·rename_i x hx
   obtain ⟨xs, h1, h2⟩ := pickC_ok is _ h
   exact ⟨x :: xs, by simp [h1, hx], h2⟩
  ·cases h
def cellsQ : AV → Option (List AV)
 | .agg cs => some cs
 | .undef => some []
 | .tup _ => some []
 | v => some [v]
theorem cellsQ_ok {v : AV} {cs : List AV} (h : cellsQ v = some cs) : cellsOf v = cs := by
 cases v <;> simp_all [cellsQ, cellsOf]
def ovC : List AV → List AV → (List AV → Option (List AV)) → Option (List AV)
 | [], xs, k => k xs
 | _ :: _, [], _ => none
 | y :: ys, _ :: xs, k => ovC ys xs fun r => k (y :: r)
def layC : Nat → List AV → List AV → (List AV → Option (List AV)) → Option (List AV)
 | 0, xs, ys, k => ovC ys xs k
 | _ + 1, [], _, _ => none
 | n + 1, x :: xs, ys, k => layC n xs ys fun r => k (x :: r)
theorem ovC_ok : ∀ (ys xs : List AV) (k : List AV → Option (List AV)) {r : List AV}, ovC ys xs k = some r → ys.length ≤ xs.length ∧ k (ys ++ xs.drop ys.length) = some r
 | [], xs, k, r, h => ⟨Nat.zero_le _, by simpa [ovC] using h⟩
 | _ :: _, [], _, _, h => by cases h
 | y :: ys, x :: xs, k, r, h => by
  obtain ⟨h1, h2⟩ := ovC_ok ys xs _ h
  exact ⟨by simp; omega, by simpa using h2⟩
theorem layC_go : ∀ (n : Nat) (xs ys : List AV) (k : List AV → Option (List AV)) {r : List AV}, layC n xs ys k = some r → n + ys.length ≤ xs.length ∧ k (lay xs n ys) = some r
 | 0, xs, ys, k, r, h => by
  obtain ⟨h1, h2⟩ := ovC_ok ys xs k h
  exact ⟨by omega, by simpa [lay] using h2⟩
 | _ + 1, [], _, _, _, h => by cases h
 | n + 1, x :: xs, ys, k, r, h => by
  obtain ⟨h1, h2⟩ := layC_go n xs ys _ h
  refine ⟨by simp; omega, ?_⟩
  have : lay (x :: xs) (n + 1) ys = x :: lay xs n ys := by
   unfold lay
   rw [show n + 1 + ys.length = (n + ys.length) + 1 by omega]
   rfl
  rw [this]; exact h2
theorem layC_ok {n : Nat} {xs ys r : List AV} (h : layC n xs ys some = some r) : n + ys.length ≤ xs.length ∧ lay xs n ys = r := by
 obtain ⟨h1, h2⟩ := layC_go n xs ys some h
 exact ⟨h1, by simpa using h2⟩
def zeroQ (E : Env) (t : Nat) : Option (List AV) := match E.ty t with
 | some ⟨_, _, _, z⟩ => some z
 | none => none
abbrev HL := List (Nat × AO)
def Has (H : Heap) (l : HL) : Prop := (∀ (i j : Nat) (p q : Nat × AO), l[i]? = some p → l[j]? = some q → p.1 = q.1 → i = j) ∧ ∀ (i : Nat) (p : Nat × AO), l[i]? = some p → H[p.1]? = some p.2
section
variable {H : Heap} {l l' : HL} {nm : Nat} {o o' : AO}
theorem has_nil : Has H [] := ⟨fun i j p q h => by simp at h, fun i p h => by simp at h⟩
theorem has_get (h : Has H l) (i : Nat) (hi : l[i]? = some (nm, o)) : H[nm]? = some o := h.2 _ _ hi
theorem has_nd (h : Has H l) : (l.map (·.1)).Nodup := by
 rw [List.Nodup, List.pairwise_iff_getElem]
 intro i j hi hj hij
 simp only [List.length_map] at hi hj
 simp only [List.getElem_map]
 exact fun e => by
  have := h.1 i j l[i] l[j] (by simp [hi]) (by simp [hj]) e
  omega
theorem has_lt (h : Has H l) {i : Nat} {p : Nat × AO} (hp : l[i]? = some p) : p.1 < H.length := (List.getElem?_eq_some_iff.1 (h.2 i p hp)).1
theorem has_set (h : Has H l) (i : Nat) (hi : l[i]? = some (nm, o)) : Has (H.set nm o') (l.set i (nm, o')) := by
 have hil := (List.getElem?_eq_some_iff.1 hi).1
 have key : ∀ j p, (l.set i (nm, o'))[j]? = some p → (j = i ∧ p = (nm, o')) ∨ (j ≠ i ∧ l[j]? = some p) := fun j p hp => by
  by_cases e : j = i
  ·subst e
   rw [List.getElem?_set_self hil] at hp
   exact .inl ⟨rfl, (Option.some.inj hp).symm⟩
  ·rw [List.getElem?_set_ne (Ne.symm e)] at hp
   exact .inr ⟨e, hp⟩
 refine ⟨fun a b p q ha hb e => ?_, fun j p hp => ?_⟩
 ·rcases key a p ha with ⟨rfl, rfl⟩ | ⟨h1, h2⟩ <;> rcases key b q hb with ⟨rfl, rfl⟩ | ⟨h3, h4⟩
  ·rfl
  ·exact h.1 _ _ _ _ hi h4 e
  ·exact h.1 _ _ _ _ h2 hi e
  ·exact h.1 _ _ _ _ h2 h4 e
 ·rcases key j p hp with ⟨rfl, rfl⟩ | ⟨h1, h2⟩
  ·exact List.getElem?_set_self (List.getElem?_eq_some_iff.1 (has_get h j hi)).1
  ·rw [List.getElem?_set_ne (fun e => h1 (h.1 _ _ _ _ h2 hi e.symm))]
   exact h.2 _ _ h2
theorem has_cons (h : Has H l) (hn : H[nm]? = some o) (hm : ∀ (i : Nat) (p : Nat × AO), l[i]? = some p → p.1 ≠ nm) : Has H ((nm, o) :: l) := by
 refine ⟨fun a b p q ha hb e => ?_, fun j p hp => ?_⟩
 ·match a, b with
  | 0, 0 => rfl
  | 0, b + 1 =>
   simp only [List.getElem?_cons_zero, Option.some.injEq] at ha
   subst ha
   exact absurd e.symm (hm _ _ (by simpa using hb))
  | a + 1, 0 =>
   simp only [List.getElem?_cons_zero, Option.some.injEq] at hb
   subst hb
   exact absurd e (hm _ _ (by simpa using ha))
  | a + 1, b + 1 => rw [h.1 a b p q (by simpa using ha) (by simpa using hb) e]
 ·match j with
  | 0 =>
   simp only [List.getElem?_cons_zero, Option.some.injEq] at hp
   subst hp; exact hn
  | j + 1 => exact h.2 j p (by simpa using hp)
theorem has_tail {p : Nat × AO} (h : Has H (p :: l)) : Has H l := ⟨fun i j p q hi hj e => by
  have := h.1 (i + 1) (j + 1) p q (by simpa using hi) (by simpa using hj) e
  omega, fun i p hp => h.2 (i + 1) p (by simpa using hp)⟩
theorem has_mono {H' : Heap} (h : Has H l) (hk : ∀ (i : Nat) (p : Nat × AO), l[i]? = some p → H'[p.1]? = H[p.1]?) : Has H' l := ⟨h.1, fun i p hp => by rw [hk i p hp]; exact h.2 i p hp⟩
theorem has_new (h : Has H l) (o : AO) : Has (H ++ [o]) ((H.length, o) :: l) := by
 refine has_cons (has_mono h fun i p hp => List.getElem?_append_left (has_lt h hp)) (by simp) fun i p hp => ?_
 have := has_lt h hp
 omega
theorem has_pick (h : Has H l) (is : List Nat) (hp : pickC l is some = some l') (hd : is.Nodup) : Has H l' := by
 obtain ⟨xs, h1, h2⟩ := pickC_ok is some hp
 have h2 : xs = l' := by simpa using h2
 subst h2
 have hget : ∀ (j : Nat) p, xs[j]? = some p → ∃ i, is[j]? = some i ∧ l[i]? = some p := fun j p hj => by
  have e := congrArg (fun q => q[j]?) h1
  simp only [List.getElem?_map, hj, Option.map_some] at e
  cases hi : is[j]? with
  | none => rw [hi] at e; simp at e
  | some i => rw [hi] at e; exact ⟨i, rfl, by simpa using e⟩
 refine ⟨fun a b p q ha hb e => ?_, fun j p hp => ?_⟩
 ·obtain ⟨ia, a1, a2⟩ := hget a p ha
  obtain ⟨ib, b1, b2⟩ := hget b q hb
  have e2 := h.1 _ _ _ _ a2 b2 e
  subst e2
  obtain ⟨ha3, ha4⟩ := List.getElem?_eq_some_iff.1 a1
  obtain ⟨hb3, hb4⟩ := List.getElem?_eq_some_iff.1 b1
  rw [List.Nodup, List.pairwise_iff_getElem] at hd
  rcases Nat.lt_trichotomy a b with hl | hl | hl
  ·exact absurd (ha4.trans hb4.symm) (hd a b ha3 hb3 hl)
  ·exact hl
  ·exact absurd (hb4.trans ha4.symm) (hd b a hb3 ha3 hl)
 ·obtain ⟨i, _, b⟩ := hget j p hp
  exact h.2 _ _ b
theorem has_append {l1 l2 : HL} (h1 : Has H l1) (h2 : Has H l2) (hd : ∀ (i j : Nat) (p q : Nat × AO), l1[i]? = some p → l2[j]? = some q → p.1 ≠ q.1) : Has H (l1 ++ l2) := by
 induction l1 with
 | nil => exact h2
 | cons a l1 ih =>
  refine has_cons (ih (has_tail h1) fun i j p q hi hj => hd (i + 1) j p q (by simpa using hi) hj) (h1.2 0 a (by simp)) fun i p hp => ?_
  have hp : (l1 ++ l2)[i]? = some p := hp
  by_cases hl : i < l1.length
  ·rw [List.getElem?_append_left hl] at hp
   have := fun e => h1.1 (i + 1) 0 p a (by simpa using hp) (by simp) e
   exact fun e => by have := this e; omega
  ·rw [List.getElem?_append_right (Nat.le_of_not_lt hl)] at hp
   exact fun e => hd 0 _ a p (by simp) hp e.symm
theorem has_pickT {l1 X : HL} (h : Has H l) (is : List Nat) (m : Nat) (hp : pickC l is some = some l1) (hX : l.drop m = X) (hm : is.all (fun i => Nat.blt i m) = true) (hd : is.Nodup) (hl : l1 ++ X = l') : Has H l' := by
 subst hX hl
 refine has_append (has_pick h is hp hd) ⟨fun i j p q hi hj e => ?_, fun i p hi => ?_⟩ fun i j p q hi hj e => ?_
 ·rw [List.getElem?_drop] at hi hj
  have := h.1 _ _ _ _ hi hj e
  omega
 ·rw [List.getElem?_drop] at hi
  exact h.2 _ _ hi
 ·obtain ⟨xs, h1, h2⟩ := pickC_ok is some hp
  have h2 : xs = l1 := by simpa using h2
  subst h2
  have e1 := congrArg (fun q => q[i]?) h1
  simp only [List.getElem?_map, hi, Option.map_some] at e1
  cases hk : is[i]? with
  | none => rw [hk] at e1; simp at e1
  | some k =>
   rw [hk] at e1
   have e2 : l[k]? = some p := by simpa using e1
   rw [List.getElem?_drop] at hj
   have e3 := h.1 _ _ _ _ e2 hj e
   rw [List.all_eq_true] at hm
   have := hm k (List.mem_of_getElem? hk)
   rw [Nat.blt_eq] at this
   omega
theorem has_reps (h : Has H l) (o : AO) : ∀ k, Has (H ++ List.replicate k o) ((List.range k).reverse.map (fun r => (H.length + r, o)) ++ l)
 | 0 => by simpa using h
 | k + 1 => by
  have ih := has_new (has_reps h o k) o
  rw [List.append_assoc] at ih
  rw [show List.replicate (k + 1) o = List.replicate k o ++ [o] from List.replicate_succ', List.range_succ, List.reverse_append]
  simpa using ih
end
theorem beq_ne {a b : Nat} (h : a ≠ b) : Nat.beq a b = false := by
 cases h2 : Nat.beq a b with
 | false => rfl
 | true => exact absurd (Nat.eq_of_beq_eq_true h2) h
theorem mtA {a b : Acc} (h1 : a.all = false) (h2 : b.all = false) (h : ∀ x y, (x ∈ a.wr ∧ (y ∈ b.rd ∨ y ∈ b.wr)) ∨ (x ∈ b.wr ∧ y ∈ a.rd) → x ≠ y) : a.meets b = false := by
 have hh : ∀ l m : List Nat, (∀ x ∈ l, ∀ y ∈ m, x ≠ y) → hitL l m = false := fun l m h => by
  simp only [hitL, List.any_eq_false, Bool.not_eq_true]
  intro x hx y hy
  exact beq_ne (h x hx y hy)
 unfold Acc.meets
 rw [h1, h2, hh _ _ fun x hx y hy => h x y (.inl ⟨hx, .inl hy⟩), hh _ _ fun x hx y hy => h x y (.inl ⟨hx, .inr hy⟩), hh _ _ fun x hx y hy => h x y (.inr ⟨hx, hy⟩)]
 rfl
def namesC (l : HL) : List Nat → (List Nat → Option (List Nat)) → Option (List Nat)
 | [], k => k []
 | i :: is, k => match l[i]? with
  | some p => namesC l is fun r => k (p.1 :: r)
  | none => none
theorem namesC_ok {l : HL} : ∀ (is : List Nat) (k : List Nat → Option (List Nat)) {r : List Nat}, namesC l is k = some r → ∃ ns, k ns = some r ∧ ∀ x ∈ ns, ∃ (i : Nat) (p : Nat × AO), i ∈ is ∧ l[i]? = some p ∧ p.1 = x
 | [], k, r, h => ⟨[], h, fun x hx => by simp at hx⟩
 | i :: is, k, r, h => by
  unfold namesC at h
  split at h
  ·rename_i p hp
   obtain ⟨ns, h1, h2⟩ := namesC_ok is _ h
   refine ⟨p.1 :: ns, h1, fun x hx => ?_⟩
   rcases List.mem_cons.1 hx with rfl | hx
   ·exact ⟨i, p, by simp, hp, rfl⟩
   ·obtain ⟨j, q, a, b, c⟩ := h2 x hx
    exact ⟨j, q, by simp [a], b, c⟩
  ·cases h
def apartN (aw ar bw br : List Nat) : Bool := aw.all (fun i => br.all (fun j => !Nat.beq i j) && bw.all (fun j => !Nat.beq i j)) && bw.all (fun i => ar.all (fun j => !Nat.beq i j))
theorem mtQ {H : Heap} {l : HL} (hH : Has H l) (aw ar bw br : List Nat) {a b : Acc} (h1 : a.all = false) (h2 : b.all = false) (e1 : namesC l aw some = some a.wr) (e2 : namesC l ar some = some a.rd) (e3 : namesC l bw some = some b.wr) (e4 : namesC l br some = some b.rd) (d : apartN aw ar bw br = true) : a.meets b = false := by
 obtain ⟨_, rfl', f1⟩ := namesC_ok aw some e1
 obtain ⟨_, rfl2, f2⟩ := namesC_ok ar some e2
 obtain ⟨_, rfl3, f3⟩ := namesC_ok bw some e3
 obtain ⟨_, rfl4, f4⟩ := namesC_ok br some e4
 simp only [Option.some.injEq] at rfl' rfl2 rfl3 rfl4
 subst rfl' rfl2 rfl3 rfl4
 have hne : ∀ i j : Nat, (!Nat.beq i j) = true → i ≠ j := fun i j h e => by subst e; simp at h
 simp only [apartN, Bool.and_eq_true, List.all_eq_true] at d
 obtain ⟨d1, d2⟩ := d
 refine mtA h1 h2 fun x y h => ?_
 rcases h with ⟨hx, hy | hy⟩ | ⟨hx, hy⟩
 ·obtain ⟨i, p, a1, a2, rfl⟩ := f1 x hx
  obtain ⟨j, q, b1, b2, rfl⟩ := f4 y hy
  exact fun e => hne i j ((d1 i a1).1 j b1) (hH.1 _ _ _ _ a2 b2 e)
 ·obtain ⟨i, p, a1, a2, rfl⟩ := f1 x hx
  obtain ⟨j, q, b1, b2, rfl⟩ := f3 y hy
  exact fun e => hne i j ((d1 i a1).2 j b1) (hH.1 _ _ _ _ a2 b2 e)
 ·obtain ⟨i, p, a1, a2, rfl⟩ := f3 x hx
  obtain ⟨j, q, b1, b2, rfl⟩ := f2 y hy
  exact fun e => hne i j (d2 i a1 j b1) (hH.1 _ _ _ _ a2 b2 e)
section
variable {E : Env} {L V V' : List AV} {H : Heap} {l l' l2 : HL} {K : KB} {x : AV} {P : Ans → Prop} {call : CallTT} {fa : FA} {lt : Bool} {ix : Nat} {sl : Option Nat} {a : Acc} {o : AO} {j nm : Nat}
theorem vMv_q {T : TH} {p : O} (h : gQ L V p = some x) (c : AV → Ans) : vMv p L V T c = c x := by rw [vMv_eq, gQ_ok h]
theorem ev_boxQ {t : TypeId} {p : O} {v : AV} {cs : List AV} (ho : gQ L V p = some v) (hc : cellsQ v = some cs) (ht : ∃ i, E.ty t = some i) : evalFA E L V H (.box t p) = some (.new (.row t cs false) (fun nm => .loc nm 0), Acc.none) := ev_box (gQ_ok ho) (cellsQ_ok hc) ht
theorem ev_allocQ {t : TypeId} {cs : List AV} (ht : zeroQ E t = some cs) : evalFA E L V H (.alloc t) = some (.new (.row t cs false) (fun nm => .loc nm 0), Acc.none) := by
 unfold zeroQ at ht
 split at ht
 ·rename_i d s b z h
  exact ev_alloc ⟨_, h, by simpa using ht⟩
 ·cases ht
theorem qV_new {f : Nat → AV} {W : Nat → List AV} (hH : Has H l) (he : evalFA E L V H fa = some (.new o f, a)) (hW : ∀ n, setC V j (f n) some = some (W n)) (hk : ∀ n H', Has H' ((n, o) :: l) → P (K L (W n) (rep H'))) : P (zStep E call ⟨fa, .var j, none, lt, ix, sl⟩ K L V (rep H)) := by
 rw [sV_new he, setC_ok (hW _)]; exact hk _ _ (has_new hH o)
theorem ev_storeQ {st nm off e2 i : Nat} {cs cs' ys : List AV} {p v : O} {x : AV} (hH : Has H l) (ha : gO L V p = .loc nm off) (hx : gQ L V v = some x) (hc : cellsQ x = some ys) (hi : l[i]? = some (nm, .row e2 cs false)) (ht : ∃ ii, E.ty st = some ii ∧ ii.size = ys.length) (hn : Nat.beq ys.length 0 = false) (hl : layC off cs ys some = some cs') :
  evalFA E L V H (.store st p v) = some (.put nm (.row e2 cs' false) (.tup []), ⟨[], [nm], false⟩) := by
 have h1 := gQ_ok hx
 have h2 := cellsQ_ok hc
 obtain ⟨h3, h4⟩ := layC_ok hl
 subst h1 h2 h4
 exact ev_store ha rfl (has_get hH i hi) ht hn (Nat.ble_eq_true_of_le h3)
theorem qN_put {st nm off e2 : Nat} {cs cs' ys : List AV} {p v : O} {x : AV} (hH : Has H l) (i : Nat) (ha : gO L V p = .loc nm off) (hx : gQ L V v = some x) (hc : cellsQ x = some ys) (hi : l[i]? = some (nm, .row e2 cs false)) (ht : ∃ ii, E.ty st = some ii ∧ ii.size = ys.length) (hn : Nat.beq ys.length 0 = false) (hl : layC off cs ys some = some cs') (hs : setC l i (nm, AO.row e2 cs' false) some = some l')
  (hk : ∀ H', Has H' l' → P (K L V (rep H'))) : P (zStep E call ⟨.store st p v, .none, none, lt, ix, sl⟩ K L V (rep H)) := by
 rw [sN_put (ev_storeQ hH ha hx hc hi ht hn hl)]
 refine hk _ ?_
 rw [← setC_ok hs]; exact has_set hH i hi
theorem zV_q {v : VZ} (h : ∀ c, v L V (rep H) c = c x) (hV : setC V j x some = some V') (e : P (K L V' (rep H))) : P (zV j v K L V (rep H)) := by
 rw [zV_v h, setC_ok hV]; exact e
end
section
variable {E : Env} {L V : List AV} {H : Heap} {l l' : HL} {K : SPK} {x : AV} {P : Ans → Prop} {call : CallTT} {fa : FA} {lt : Bool} {ix : Nat} {sl : Option Nat} {a : Acc} {o o0 : AO} {sp : List (Nat × Acc)} {bef : List Nat} {n0 r nm : Nat} {kn : KB} {kx : Nat → KB} {kr : KB} {f : Nat → SPK → SPK}
theorem qd0 (e : P (f H.length (fun _ => kn) [] [] V (rep H))) : P (zDreg 0 f kn kx kr L V (rep H)) := by
 rw [zDreg_eq]; simpa using e
theorem qdk (k : Nat) (hH : Has H l) (hk : ∀ n0 H', Has H' ((List.range k).reverse.map (fun r => (n0 + r, AO.dead)) ++ l) → P (f n0 (fun _ => kn) [] [] V (rep H'))) : P (zDreg k f kn kx kr L V (rep H)) := by
 rw [zDreg_eq]; exact hk _ _ (has_reps hH .dead k)
theorem qd1 (hH : Has H l) (hk : ∀ n0 H', Has H' ((n0 + 0, AO.dead) :: l) → P (f n0 (fun _ => kn) [] [] V (rep H'))) : P (zDreg 1 f kn kx kr L V (rep H)) := qdk 1 hH hk
theorem qd2 (hH : Has H l) (hk : ∀ n0 H', Has H' ((n0 + 1, AO.dead) :: (n0 + 0, AO.dead) :: l) → P (f n0 (fun _ => kn) [] [] V (rep H'))) : P (zDreg 2 f kn kx kr L V (rep H)) := qdk 2 hH hk
theorem qd3 (hH : Has H l) (hk : ∀ n0 H', Has H' ((n0 + 2, AO.dead) :: (n0 + 1, AO.dead) :: (n0 + 0, AO.dead) :: l) → P (f n0 (fun _ => kn) [] [] V (rep H'))) : P (zDreg 3 f kn kx kr L V (rep H)) := qdk 3 hH hk
theorem qd4 (hH : Has H l) (hk : ∀ n0 H', Has H' ((n0 + 3, AO.dead) :: (n0 + 2, AO.dead) :: (n0 + 1, AO.dead) :: (n0 + 0, AO.dead) :: l) → P (f n0 (fun _ => kn) [] [] V (rep H'))) : P (zDreg 4 f kn kx kr L V (rep H)) := qdk 4 hH hk
theorem qd5 (hH : Has H l) (hk : ∀ n0 H', Has H' ((n0 + 4, AO.dead) :: (n0 + 3, AO.dead) :: (n0 + 2, AO.dead) :: (n0 + 1, AO.dead) :: (n0 + 0, AO.dead) :: l) → P (f n0 (fun _ => kn) [] [] V (rep H'))) : P (zDreg 5 f kn kx kr L V (rep H)) := qdk 5 hH hk
theorem qDP_new {f : Nat → AV} (hH : Has H l) (i : Nat) (hi : l[i]? = some (n0 + r, o0)) (he : evalFA E L V H fa = some (.new o f, a)) (ha : (a.add (some (n0 + r))).idle = false) (hs : spOk bef ix (a.add (some (n0 + r))) sp = true) (hl : setC l i (n0 + r, o) some = some l') (hk : ∀ H', Has H' l' → P (K ((ix, a.add (some (n0 + r))) :: sp) (f (n0 + r) :: L) V (rep H'))) : P (zStepD E call bef n0 ⟨fa, .push, none, lt, ix, some r⟩ K sp L V (rep H)) := by
 rw [dP_new he ha hs]
 refine hk _ ?_
 rw [← setC_ok hl]; exact has_set hH i hi
theorem qDV_new {f : Nat → AV} {j : Nat} {V' : List AV} (hH : Has H l) (i : Nat) (hi : l[i]? = some (n0 + r, o0)) (he : evalFA E L V H fa = some (.new o f, a)) (ha : (a.add (some (n0 + r))).idle = false) (hs : spOk bef ix (a.add (some (n0 + r))) sp = true) (hl : setC l i (n0 + r, o) some = some l') (hV : setC V j (f (n0 + r)) some = some V') (hk : ∀ H', Has H' l' → P (K ((ix, a.add (some (n0 + r))) :: sp) L V' (rep H'))) : P (zStepD E call bef n0 ⟨fa, .var j, none, lt, ix, some r⟩ K sp L V (rep H)) := by
 rw [dV_new he ha hs, setC_ok hV]
 refine hk _ ?_
 rw [← setC_ok hl]; exact has_set hH i hi
theorem qDN_put {st nm off e2 : Nat} {cs cs' ys : List AV} {p v : O} {x : AV} (hH : Has H l) (i : Nat) (ha : gO L V p = .loc nm off) (hx : gQ L V v = some x) (hc : cellsQ x = some ys) (hi : l[i]? = some (nm, .row e2 cs false)) (ht : ∃ ii, E.ty st = some ii ∧ ii.size = ys.length) (hn : Nat.beq ys.length 0 = false) (hl : layC off cs ys some = some cs') (hs : setC l i (nm, AO.row e2 cs' false) some = some l') (hsp : spOk bef ix ⟨[], [nm], false⟩ sp = true)
  (hk : ∀ H', Has H' l' → P (K ((ix, ⟨[], [nm], false⟩) :: sp) L V (rep H'))) : P (zStepD E call bef n0 ⟨.store st p v, .none, none, lt, ix, sl⟩ K sp L V (rep H)) := by
 rw [dN_put (ev_storeQ hH ha hx hc hi ht hn hl) rfl hsp]
 refine hk _ ?_
 rw [← setC_ok hs]; exact has_set hH i hi
theorem qDP_app {n sz : Nat} {o2 : AO} {l1 : HL} (hH : Has H l) (i i2 : Nat) (hi : l[i]? = some (nm, o)) (he : evalFA E L V H fa = some (.app nm o2 n sz, a)) (ha : (a.add (some (n0 + r))).idle = false) (hs : spOk bef ix (a.add (some (n0 + r))) sp = true) (hl : setC l i (nm, AO.dead) some = some l1) (hi2 : l1[i2]? = some (n0 + r, o0)) (hl2 : setC l1 i2 (n0 + r, o2) some = some l') (hk : ∀ H', Has H' l' → P (K ((ix, a.add (some (n0 + r))) :: sp) (.own (n0 + r) 0 n sz :: L) V (rep H'))) : P (zStepD E call bef n0 ⟨fa, .push, none, lt, ix, some r⟩ K sp L V (rep H)) := by
 rw [dP_app he ha hs]
 refine hk _ ?_
 have h := has_set (o' := AO.dead) hH i hi
 rw [setC_ok hl] at h
 rw [← setC_ok hl2]; exact has_set h i2 hi2
theorem zVD_q {v : VZ} {j : Nat} {V' : List AV} (h : ∀ c, v L V (rep H) c = c x) (hV : setC V j x some = some V') (e : P (K sp L V' (rep H))) : P (zVD j v K sp L V (rep H)) := by
 rw [zVD_v h, setC_ok hV]; exact e
theorem zGDm_q {g : O} {want : Bool} {i : SPK → SPK} {T : TH} (h : gO L V g = .bool (!want)) (e : P (K sp (.tup [] :: L) V T)) : P (zGD g want .push i K sp L V T) := st (zGD_miss h) e
theorem zGDs_q {g : O} {want : Bool} {i : SPK → SPK} {T : TH} {q : List AV} (h : gO L V g = .tup q) (e : P (K sp (.tup [] :: L) V T)) : P (zGD g want .push i K sp L V T) := st (zGD_skip h) e
end
section
variable {L V : List AV} {T : TH} {K : KB} {P : Ans → Prop} {g : O} {want : Bool} {i : KB → KB} {q : List AV}
theorem zGm_q (h : gO L V g = .bool (!want)) (e : P (K (.tup [] :: L) V T)) : P (zG g want .push i K L V T) := zpm h e
end
section
variable {E : Env} {H : Heap} {l l1 l' : HL} {ns ns' : List Nat} {nm e : Nat} {cs : List AV} {f : Bool}
theorem has_mkN (h : Has H l) (hn : ns = []) : Has (markAll H ns) l := by subst hn; exact h
theorem has_mk (h : Has H l) (i : Nat) (hn : ns = nm :: ns') (hi : l[i]? = some (nm, .row e cs f)) (hs : setC l i (nm, AO.row e cs true) some = some l1) (hk : ∀ H1, Has H1 l1 → Has (markAll H1 ns') l') : Has (markAll H ns) l' := by
 subst hn
 have e1 : markAll H (nm :: ns') = markAll (markOne H nm) ns' := rfl
 rw [e1]
 refine hk _ ?_
 unfold markOne
 rw [has_get h i hi]
 rw [← setC_ok hs]; exact has_set h i hi
theorem qD_callN {L V : List AV} {K : SPK} {x : AV} {P : Ans → Prop} {call : CallTT} {sp : List (Nat × Acc)} {bef : List Nat} {i g : Nat} {args : List O} {vs : List AV} {acc : Acc} (hv : args.map (gO L V) = vs) (hc : call (.func g) vs (rep H) = some (x, rep (markAll H ns), acc)) (ha : acc.idle = false) (hs : spOk bef i acc sp = true) (hm : Has (markAll H ns) l') (hk : ∀ H', Has H' l' → P (K ((i, acc) :: sp) (x :: L) V (rep H'))) : P (zCallD call bef i g args .push K sp L V (rep H)) := by
 rw [cP_acc hv hc ha hs]; exact hk _ hm
end
section
variable {E : Env} {g : Nat → Option AO} {k : Nat}
theorem fzL_cons {F : AV → Option (AV × List Nat)} {a a' : AV} {l l' : List AV} {n1 n2 : List Nat} (h1 : F a = some (a', n1)) (h2 : fzL F l = some (l', n2)) : fzL F (a :: l) = some (a' :: l', n1 ++ n2) := by
 simp [fzL, h1, h2]
theorem fzG_locL {nm e : Nat} {cs cs' : List AV} {ns : List Nat} {fr : Bool} (h : g nm = some (.row e cs fr)) (hl : Nat.blt 0 cs.length = true) (hc : fzL (fzG E g k) cs = some (cs', ns)) : fzG E g (k + 1) (.loc nm 0) = some (.ref cs', nm :: ns) := by
 have hl : 0 < cs.length := by rwa [Nat.blt_eq] at hl
 simp [fzG, h, hc, hl]
theorem fzG_cloL {f : Nat} {cs cs' : List AV} {ns : List Nat} (hc : fzL (fzG E g k) cs = some (cs', ns)) : fzG E g (k + 1) (.clo f cs) = some (.clo f cs', ns) := by
 simp [fzG, hc]
end
section
variable {E : Env} {GE : Nat → Option ZFn} {LZ : Nat → Option ZLn} {P : Ans → Prop} {H : Heap} {l l' : HL} {nm : Nat}
theorem aftQ {cy : CallYT} {Y : YE} {k : Nat} {zl : ZLn} {L V : List AV} {pd : Option Code} {tm : List AV} {ps : List Nat} {a b : Code} (hH : Has H l) (i : Nat) (hi : l[i]? = some (nm, .loop .ready pd tm ps a b)) (hs : setC l i (nm, AO.loop .busy pd tm ps a b) some = some l')
  (hk : ∀ H', Has H' l' → P (zl.body cy Y k (fun _ _ H => endR nm .normal H) (fun i _ _ H => endR nm (.exit i) H) (fun _ _ H => endR nm .ret H) [] V (rep H'))) : P (aftR cy Y k nm zl L V (rep H)) := by
 rw [aft_eq (has_get hH i hi)]
 refine hk _ ?_
 rw [← setC_ok hs]; exact has_set hH i hi
theorem endQ {Q : Bool → Heap → Prop} {e : AExit} {s : LoopState} {pd : Option Code} {tm : List AV} {ps : List Nat} {a b : Code} (hH : Has H l) (i : Nat) (hi : l[i]? = some (nm, .loop s pd tm ps a b)) (hs : setC l i (nm, AO.loop (if (jumpOf e).isNone then .ready else .done) (jumpOf e) tm ps a b) some = some l')
  (hk : ∀ H', Has H' l' → Q (jumpOf e).isNone H') : EndsQ Q (endR nm e (rep H)) := by
 rw [endR_eq (has_get hH i hi)]
 refine endsQ (hk _ ?_)
 rw [← setC_ok hs]; exact has_set hH i hi
theorem zRangeQ {cy : CallYT} {Y : YE} {f : O} {id : Nat} {caps mk : List (Option O)} {ps : List Nat} {asg body : Code} {kn : KB} {kx : Nat → KB} {kr : KB} {L V : List AV} {g : Nat} {cs : List AV} (hH : Has H l)
  (hf : gO L V f = .clo g cs) (hc : ∀ nm H', Has H' ((nm, .loop .ready none (mk.map (gM L V)) ps asg body) :: l) → ∃ r H2 ac, cy (⟨nm, id, caps.map (gM L V)⟩ :: Y) (.func g) (.yield nm :: cs) (rep H') = some (r, rep H2, ac) ∧
   ∃ s pd tm ps a b l2, Has H2 ((nm, .loop s pd tm ps a b) :: l2) ∧ (s == .busy) = false ∧ ((pd = none ∧ ∀ H3, Has H3 l2 → P (kn L V (rep H3))) ∨ (pd = some .ret ∧ ∀ H3, Has H3 l2 → P (kr L V (rep H3))) ∨ ∃ i, pd = some (.exit i) ∧ ∀ H3, Has H3 l2 → P (kx i L V (rep H3)))) :
  P (zRange cy Y f id caps mk ps asg body kn kx kr L V (rep H)) := by
 obtain ⟨r, H2, ac, h1, s, pd, tm, ps2, a, b, l2, h2, h3, h4⟩ := hc _ _ (has_new hH _)
 have hd : ∀ o, Has (H2.set H.length o) l2 := fun o => by
  have h := has_set (o' := o) h2 0 rfl
  exact has_tail h
 refine zRange_wp hf ⟨r, H2, ac, h1, s, pd, tm, ps2, a, b, has_get h2 0 rfl, h3, ?_⟩
 rcases h4 with ⟨e, h⟩ | ⟨e, h⟩ | ⟨i, e, h⟩
 ·exact .inl ⟨e, h _ (hd _)⟩
 ·exact .inr (.inl ⟨e, h _ (hd _)⟩)
 ·exact .inr (.inr ⟨i, e, h _ (hd _)⟩)
end
end Go.Px
set_option linter.unusedVariables false
set_option linter.unusedSimpArgs false
namespace Go.Px
open Go Go.Lib Go.RowKit
def sayV (q : List AV → Option AV) (args : List AV) : Option (Heap → Option (Eff × Acc)) := (q args).map fun r _ => some (.val r, Acc.none)
theorem sayV_fr (q : List AV → Option AV) : SayFr (sayV q) := by
 intro args p hq H eff acc h
 simp only [sayV, Option.map_eq_some_iff] at hq
 obtain ⟨r, _, rfl⟩ := hq
 simp at h; obtain ⟨rfl, rfl⟩ := h
 exact ⟨⟨⟨rfl, trivial⟩, fun t a h => by simp at h, fun H1 _ => rfl⟩, LiveAcc.none, trivial⟩
section
variable {P : Program} {f : Nat}
theorem sayV_ok {q : List AV → Option AV} {fn : Func} (hf : P.funcs[f]? = some fn) (hname : (fn.name == "runtime.NumGoroutine") = false) (hb : fn.body.isSome = true)
  (hw : ∀ args r, q args = some r → ∀ m S w (args' : Array Value), RepL m S w false args'.toList args → ∃ v', (Calls P f args' w fun e w1 => e = .returned v' ∧ w1 = w) ∧ Rep m S w false v' r) : SayOk P f (sayV q) := by
 intro args p hq H eff acc h base sl m S w args' hR hs ha
 simp only [sayV, Option.map_eq_some_iff] at hq
 obtain ⟨r, hr, rfl⟩ := hq
 simp at h; obtain ⟨rfl, rfl⟩ := h
 obtain ⟨v', hc, hv⟩ := hw args r hr m S w args' ha
 exact ⟨H, r, rfl, .inl ⟨enters hf hname hb _ _, fun n => back_of ⟨v', w, m, S, rfl, Step.refl hR, Gaps.refl _ _ _, hv⟩ hc n⟩⟩
def isQ (t : TypeId) : List AV → Option AV
 | [.nilIface, .iface u (.int .i64 _)] => if Nat.beq u t then some (.bool false) else none
 | [.iface v (.int .i64 n), .iface u (.int .i64 k)] => if Nat.beq u t && Nat.beq v t then some (.bool (n == k)) else none
 | _ => none
theorem isQ_ok {t : TypeId} {fn : Func} (hf : P.funcs[f]? = some fn) (hname : (fn.name == "runtime.NumGoroutine") = false) (hb : fn.body.isSome = true)
  (h1 : ∀ k w, Calls P f #[.nilIface, .iface t (.int .i64 k)] w fun e w1 => e = .returned (.bool false) ∧ w1 = w)
  (h2 : ∀ n w, Calls P f #[.iface t (.int .i64 n), .iface t (.int .i64 n)] w fun e w1 => e = .returned (.bool true) ∧ w1 = w)
  (h3 : ∀ n k w, n ≠ k → Calls P f #[.iface t (.int .i64 n), .iface t (.int .i64 k)] w fun e w1 => e = .returned (.bool false) ∧ w1 = w) : SayOk P f (sayV (isQ t)) := by
 refine sayV_ok hf hname hb fun args r hq m S w args' ha => ?_
 obtain ⟨l, hl⟩ : ∃ l, l = args'.toList := ⟨_, rfl⟩
 rw [← hl] at ha
 unfold isQ at hq
 split at hq
 ·rename_i u k
  split at hq
  ·rename_i hu
   obtain rfl := Nat.eq_of_beq_eq_true hu
   cases hq
   cases ha with
   | cons _ v _ vs _ r1 t1 =>
    cases t1 with
    | cons _ v2 _ vs2 _ r2 t2 =>
     cases t2
     cases r1
     cases r2 with
     | iface _ _ x _ r3 =>
      obtain rfl := rep_int r3
      have harr : args' = #[.nilIface, .iface u (.int .i64 k)] := by apply Array.ext'; simpa using hl.symm
      subst harr
      exact ⟨_, h1 k w, .bool _ _⟩
  ·cases hq
 ·rename_i v0 n u k
  split at hq
  ·rename_i hu
   rw [Bool.and_eq_true] at hu
   obtain rfl := Nat.eq_of_beq_eq_true hu.1
   obtain rfl := Nat.eq_of_beq_eq_true hu.2
   cases hq
   cases ha with
   | cons _ v _ vs _ r1 t1 =>
    cases t1 with
    | cons _ v2 _ vs2 _ r2 t2 =>
     cases t2
     cases r1 with
     | iface _ _ y _ r4 =>
      obtain rfl := rep_int r4
      cases r2 with
      | iface _ _ x _ r3 =>
       obtain rfl := rep_int r3
       have harr : args' = #[.iface v0 (.int .i64 n), .iface v0 (.int .i64 k)] := by apply Array.ext'; simpa using hl.symm
       subst harr
       by_cases hnk : n = k
       ·subst hnk
        exact ⟨_, h2 n w, by simpa using Rep.bool (m := m) (S := S) (w := w) false true⟩
       ·have : (n == k) = false := beq_eq_false_iff_ne.2 hnk
        rw [this]
        exact ⟨_, h3 n k w hnk, .bool _ _⟩
  ·cases hq
 ·cases hq
end
theorem sayV_nl (q : List AV → Option AV) : ∀ args p, sayV q args = some p → ∀ H eff acc, p H = some (eff, acc) → ∃ r, eff = .val r := fun args p hq H eff acc h => by
 simp only [sayV, Option.map_eq_some_iff] at hq
 obtain ⟨r, _, rfl⟩ := hq
 simp at h; obtain ⟨rfl, _⟩ := h
 exact ⟨r, rfl⟩
end Go.Px
set_option linter.unusedVariables false
namespace Go.Px
open Go
abbrev Txt := List (List Nat)
def txtC (l : Txt) : List AV := l.map AV.str
abbrev Tick := Int × Nat
def tickC : List Tick → List AV
 | [] => []
 | (d, n) :: l => .int .i64 d :: .int .u64 (n : Int) :: tickC l
abbrev Clk := List Tick × Bool
def clkC : List Clk → List AV
 | [] => []
 | c :: l => .sl c.1.length (tickC c.1) c.2 :: clkC l
inductive Sch where
 | mk (kind : Int) (ins : List Sch) (f : Bool)
def Sch.kind : Sch → Int
 | .mk k _ _ => k
def Sch.ins : Sch → List Sch
 | .mk _ l _ => l
mutual
def Sch.cells : Sch → List AV
 | .mk k ins f => [.int .i64 k, .sl ins.length (schC ins) f]
def schC : List Sch → List AV
 | [] => []
 | s :: l => s.cells ++ schC l
end
inductive Val where
 | mk (n m : Nat) (s : Txt) (fs : Bool) (c : List Clk) (fc : Bool) (v : List Val) (fv : Bool)
mutual
def Val.cells : Val → List AV
 | .mk n m s fs c fc v fv => [.int .u64 (n : Int), .int .u64 (m : Int), .sl s.length (txtC s) fs, .sl c.length (clkC c) fc, .sl v.length (valC v) fv]
def valC : List Val → List AV
 | [] => []
 | v :: l => v.cells ++ valC l
end
def Sch.av (s : Sch) : AV := .agg s.cells
def Val.av (v : Val) : AV := .agg v.cells
theorem txtC_len (l : Txt) : (txtC l).length = l.length := by simp [txtC]
theorem Sch.cells_len (s : Sch) : s.cells.length = 2 := by cases s; rfl
theorem Val.cells_len (v : Val) : v.cells.length = 5 := by cases v; rfl
theorem txt_at {l : Txt} {i : Nat} {x : List Nat} (h : l[i]? = some x) : (txtC l).drop (i * 1) = .str x :: (txtC l).drop (i * 1 + 1) := by
 have hlt := (List.getElem?_eq_some_iff.1 h).1
 have e := (List.getElem?_eq_some_iff.1 h).2
 rw [Nat.mul_one, List.drop_eq_getElem_cons (by simpa [txtC] using hlt)]
 simp [txtC, e]
theorem cells_at {α : Type} {enc : List α → List AV} {one : α → List AV} {sz : Nat} (h0 : ∀ x l, enc (x :: l) = one x ++ enc l) (h1 : ∀ x, (one x).length = sz) : ∀ {l : List α} {i : Nat} {x : α}, l[i]? = some x → (enc l).drop (i * sz) = one x ++ (enc l).drop (i * sz + sz)
 | [], i, x, h => by simp at h
 | y :: l, 0, x, h => by
  simp at h; subst h
  rw [h0, Nat.zero_mul, List.drop_zero, Nat.zero_add, ← h1 y, List.drop_left]
 | y :: l, i + 1, x, h => by
  have ih := cells_at h0 h1 (l := l) (i := i) (x := x) (by simpa using h)
  rw [h0, Nat.succ_mul]
  have e : ∀ k, (one y ++ enc l).drop (k + sz) = (enc l).drop k := fun k => by
   rw [List.drop_append, List.drop_eq_nil_of_le (by rw [h1]; omega), List.nil_append, h1]; congr 1; omega
  rw [show i * sz + sz + sz = (i * sz + sz) + sz by omega, e, e, ih]
theorem fzL_txt {E : Env} (g : Nat → Option AO) (k : Nat) : ∀ l : Txt, fzL (fzG E g (k + 1)) (txtC l) = some (txtC l, [])
 | [] => rfl
 | s :: l => by
  have ih := fzL_txt (E := E) g k l
  simp only [txtC] at ih
  simp only [txtC, List.map_cons, fzL, Option.bind_eq_bind, ih]
  rfl
inductive PV where
 | mk (n m : Nat) (s : Txt) (c : List (List Tick)) (v : List PV)
mutual
def Val.er : Val → PV
 | .mk n m s _ c _ v _ => .mk n m s (c.map (·.1)) (valEr v)
def valEr : List Val → List PV
 | [] => []
 | v :: l => v.er :: valEr l
end
mutual
def sameV : Val → Val → Bool
 | .mk n m s _ c _ v _, .mk n2 m2 s2 _ c2 _ v2 _ => decide (n = n2) && (decide (m = m2) && (decide (s = s2) && (decide (c.map (·.1) = c2.map (·.1)) && sameVs v v2)))
def sameVs : List Val → List Val → Bool
 | [], [] => true
 | a :: l, b :: m => sameV a b && sameVs l m
 | _, _ => false
end
mutual
theorem sameV_iff : ∀ a b : Val, sameV a b = true ↔ a.er = b.er
 | .mk n m s fs c fc v fv, .mk n2 m2 s2 fs2 c2 fc2 v2 fv2 => by
  simp only [sameV, Val.er, Bool.and_eq_true, decide_eq_true_eq, PV.mk.injEq, sameVs_iff v v2]
theorem sameVs_iff : ∀ a b : List Val, sameVs a b = true ↔ valEr a = valEr b
 | [], [] => by simp [sameVs, valEr]
 | [], b :: m => by simp [sameVs, valEr]
 | a :: l, [] => by simp [sameVs, valEr]
 | a :: l, b :: m => by simp [sameVs, valEr, sameV_iff a b, sameVs_iff l m]
end
mutual
def Val.deep : Val → Nat
 | .mk _ _ _ _ _ _ v _ => valDeep v + 1
def valDeep : List Val → Nat
 | [] => 0
 | v :: l => max v.deep (valDeep l)
end
end Go.Px
namespace Go.Px
open Go Go.ChangeShapes Go.WideShapes Go.RowKit
theorem GrownO.frame {w w' : World} (h : GrownO w w') (p : MemPlace → Prop) : w.keptBut w' p := World.keptBut_mono (fun _ h => h.elim) h.1
theorem GrownO.heap {w w' : World} (h : GrownO w w') (i : Nat) (hi : i < w.heap.size) : w'.heap[i]? = w.heap[i]? := by
 have h1 := h.1.2.2 i hi
 cases ho : w.heap[i]? with
 | none => rw [Array.getElem?_eq_none_iff] at ho; omega
 | some o =>
  cases ho' : w'.heap[i]? with
  | none =>
   have := h.2.2
   rw [Array.getElem?_eq_none_iff] at ho'; omega
  | some o' =>
   rw [ho, ho'] at h1
   cases o with
   | cells c t fr =>
    cases o' with
    | cells c' t' fr' =>
     obtain ⟨rfl, rfl, hs, hj⟩ := h1
     have : c' = c := Array.ext_getElem? (fun j => hj j (fun hf => hf))
     rw [this]
    | _ => cases h1
   | map es ck =>
    cases o' with
    | map es' ck' =>
     rcases h1 with h1 | ⟨rfl, rfl⟩
     ·exact h1.elim
     ·rfl
    | _ => cases h1
   | _ => rw [h1]
theorem GrownO.cell {w w' : World} (h : GrownO w w') {a : Addr} {v : Value} (hc : w.cell? a = some v) : w'.cell? a = some v := by
 have hb := World.block_lt_of_cell? w _ hc
 unfold World.cell? at hc ⊢
 rw [h.heap _ hb]; exact hc
variable {H : Type} {enc : TypeId × Value → H} {P : Program}
theorem post_of_sameO {f : Func} {s : ChangeSpec} {apart fresh handsOn again : Bool} {W W' : World} {args : Array Value} {v : Value} {ds gs : List (DataW H)} {before pa pv : List MemPlace}
  (hW : DataW.Whole enc P f.params.toList s.vars apart W args.toList ds gs before)
  (hres : ∀ (b : Nat) (sp : Nat → Bool) (hd : Bool), DataW.TrodAll enc P W' b sp hd f.resultTypes.toList (v.resultList f.resultTypes.size) (s.fn H (ds ++ gs)).results [])
  (hargs : ∀ sp : Nat → Bool, (∀ p ∈ before, sp p.block = true) → DataW.TrodAll enc P W' 0 sp true f.params.toList args.toList (s.fn H (ds ++ gs)).args pa)
  (hvars : ∀ sp : Nat → Bool, (∀ p ∈ before, sp p.block = true) → DataW.TrodVars enc P W' sp s.vars (s.fn H (ds ++ gs)).vars pv)
  (hps : before = pa ++ pv) (hk : W.keptBut W' (· ∈ before)) (hfz : ∀ a : Addr, a.block < W.heap.size → W'.frozen? a = W.frozen? a)
  (hok : ∀ (j : Nat) (t : TypeId) (r : Value), f.resultTypes[j]? = some t → (v.resultList f.resultTypes.size)[j]? = some r → Value.okWide P W' .any 0 t r) :
  s.post enc P f apart fresh handsOn again W args v W' := by
 have hold : ∀ p ∈ before, (fun b => decide (b < W.heap.size)) p.block = true := fun p hp => by simpa using hW.lt p hp
 have hlt := hW.lt
 refine ⟨ds, gs, before, [], pa, pv, hW, hres _ _ _, hargs _ hold, hvars _ hold, World.keptBut_mono (fun p hp => ⟨hp, ?_⟩) hk, fun _ => ?_⟩
 ·rw [hps, List.mem_append] at hp
  exact Or.inr hp
 ·obtain ⟨_, _, _, _, _, hz, hn⟩ := hW
  refine ⟨hok, _, _, ([] ++ pa) ++ pv, ⟨[] ++ pa, pv, trodAll_append (hargs _ (fun _ _ => rfl)) (hres _ _ _), hvars _ (fun _ _ => rfl), rfl, ?_, ?_⟩, ?_⟩
  ·intro b off hp
   have hp' : MemPlace.cell b off ∈ before := by rw [hps]; simpa using hp
   rw [hfz _ (hlt _ hp')]
   exact hz b off hp'
  ·intro ha
   have := hn ha
   rw [hps] at this
   simpa using this
  ·intro p hp _
   rw [hps]
   simpa using hp
end Go.Px
set_option linter.unusedVariables false
namespace Go.Px
open Go Go.ChangeShapes Go.WideShapes Go.RowKit
def SOf (w : World) : Sett := fun b j => (w.cell? ⟨b, j, none⟩).isSome = true
def Opens {H : Type} (enc : TypeId × Value → H) (P : Program) (w : World) (t : TypeId) (sz : Nat) {X : Type} (ok : X → Prop) (mk : X → List AV) : Prop :=
 ∀ (base : Nat) (spare : Nat → Bool) (held : Bool) (fuel : Nat) (cs : List Value) (x : DataW H × List MemPlace), DataW.trod enc P w base spare held fuel t cs = some x →
  ∃ a : X, ok a ∧ RepL m0 (SOf w) w true cs (mk a) ∧ (∀ y ∈ mk a, one y = true) ∧ (mk a).length = sz
section
variable {H : Type} {enc : TypeId × Value → H} {P : Program} {w : World} {t : TypeId}
theorem repL_at {m : Mu} {S : Sett} {w : World} {nf : Bool} : ∀ {vs : List Value} {xs : List AV}, RepL m S w nf vs xs → ∀ {j : Nat} {y : AV}, xs[j]? = some y → ∃ v, vs[j]? = some v ∧ Rep m S w nf v y
 | _, _, .nil _, j, y, h => by simp at h
 | _, _, .cons _ v x vs xs h t, 0, y, hy => by simp at hy; subst hy; exact ⟨v, rfl, h⟩
 | _, _, .cons _ v x vs xs h t, j + 1, y, hy => by
  obtain ⟨v', h1, h2⟩ := repL_at t (j := j) (y := y) (by simpa using hy)
  exact ⟨v', by simpa using h1, h2⟩
theorem opens_u64 {k : IntKind} (ht : P.underlying t = some (.int k)) (hk : k.min = 0) : Opens enc P w t 1 (fun n : Nat => (Lit.int k (n : Int)).wf = true) (fun n => [.int k (n : Int)]) := by
 intro base spare held fuel cs x h
 obtain ⟨n, rfl, _, hw⟩ := DataW.trod_int ht h
 have hn : 0 ≤ n := by simp [Lit.wf, hk] at hw; omega
 obtain ⟨m, rfl⟩ := Int.eq_ofNat_of_zero_le hn
 exact ⟨m, hw, .cons _ _ _ _ _ (.int _ _ _) (.nil _), by simp [one], rfl⟩
theorem exists_list {X : Type} {Q : Nat → X → Prop} : ∀ (n : Nat), (∀ i, i < n → ∃ a, Q i a) → ∃ l : List X, l.length = n ∧ ∀ i a, l[i]? = some a → Q i a
 | 0, _ => ⟨[], rfl, fun i a h => by simp at h⟩
 | n + 1, h => by
  obtain ⟨l, hl, hq⟩ := exists_list n fun i hi => h i (by omega)
  obtain ⟨a, ha⟩ := h n (by omega)
  refine ⟨l ++ [a], by simp [hl], fun i b hb => ?_⟩
  by_cases hi : i < n
  ·rw [List.getElem?_append_left (by omega)] at hb
   exact hq i b hb
  ·rw [List.getElem?_append_right (by omega)] at hb
   have hi2 := (List.getElem?_eq_some_iff.1 hb).1
   simp at hi2
   have : i = n := by omega
   subst this
   simp [hl] at hb
   subst hb; exact ha
theorem flatMap_at {X : Type} {mk : X → List AV} {sz : Nat} : ∀ {l : List X}, (∀ x ∈ l, (mk x).length = sz) → ∀ {k : Nat} {y : AV}, (l.flatMap mk)[k]? = some y → ∃ i j a, k = i * sz + j ∧ j < sz ∧ l[i]? = some a ∧ (mk a)[j]? = some y
 | [], _, k, y, h => by simp at h
 | x :: l, hl, k, y, h => by
  have hx := hl x List.mem_cons_self
  rw [List.flatMap_cons] at h
  by_cases hk : k < sz
  ·rw [List.getElem?_append_left (by omega)] at h
   exact ⟨0, k, x, by omega, hk, rfl, h⟩
  ·rw [List.getElem?_append_right (by omega), hx] at h
   obtain ⟨i, j, a, e, hj, ha, hy⟩ := flatMap_at (fun z hz => hl z (List.mem_cons_of_mem _ hz)) h
   exact ⟨i + 1, j, a, by rw [Nat.succ_mul]; omega, hj, by simpa using ha, hy⟩
theorem opens_slice {e : TypeId} {X : Type} {ok : X → Prop} {mk : X → List AV} {sz : Nat} (ht : P.underlying t = some (.slice e)) (hc : P.cellsOf e = sz) (hsz : 0 < sz) (h : Opens enc P w e sz ok mk) :
  Opens enc P w t 1 (fun p : List X × Bool => p.1.length ≤ maxLen ∧ ∀ x ∈ p.1, ok x) (fun p => [.sl p.1.length (p.1.flatMap mk) p.2]) := by
 intro base spare held fuel cs x hx
 rcases DataW.trod_slice ht hx with ⟨rfl, _⟩ | ⟨a, len, cap, elems, rest, n, _, rfl, _, hb, hl, hm, hlen, hel, _, _⟩
 ·exact ⟨([], true), ⟨by simp, by simp⟩, .cons _ _ _ _ _ (.nilsl _ _) (.nil _), by simp [one], rfl⟩
 rw [hc] at hel
 obtain ⟨l, hll, hq⟩ := exists_list (Q := fun i (x : X) => ok x ∧ (mk x).length = sz ∧ ∀ j y, (mk x)[j]? = some y → ∃ v, w.cell? ((a.add (i * sz)).add j) = some v ∧ Rep m0 (SOf w) w true v y ∧ one y = true) len (fun i hi => by
  have h1 := hel i hi
  rw [List.getElem?_eq_getElem (by omega), Option.bind_eq_some_iff] at h1
  obtain ⟨cs', hcs, hy⟩ := h1
  obtain ⟨_, hcl, hcc⟩ := World.cells?_some hcs
  obtain ⟨b, k0, r0, o0, l0⟩ := h _ _ _ _ _ _ hy
  refine ⟨b, k0, l0, fun j y hj => ?_⟩
  obtain ⟨v, hv, hr⟩ := repL_at r0 hj
  have hjl := (List.getElem?_eq_some_iff.1 hj).1
  exact ⟨v, by rw [hcc j (by omega), hv], hr, o0 y (List.mem_of_getElem? hj)⟩)
 have hok : ∀ x ∈ l, ok x ∧ (mk x).length = sz := fun x hx => by
  obtain ⟨i, hi⟩ := List.getElem?_of_mem hx
  exact ⟨(hq i x hi).1, (hq i x hi).2.1⟩
 refine ⟨(l, false), ⟨by simp only; omega, fun x hx => (hok x hx).1⟩, ?_, by simp [one], rfl⟩
 refine .cons _ _ _ _ _ ?_ (.nil _)
 simp only
 rw [hll]
 refine .sl _ _ _ _ _ _ hl (fun h => by cases h) ?_
 by_cases hz : l = []
 ·subst hz; exact .nil _
 ·obtain ⟨x0, hx0⟩ : ∃ x0, l[0]? = some x0 := ⟨l[0]'(List.length_pos_iff.2 hz), by simp [List.length_pos_iff.2 hz]⟩
  have h0 := hq 0 x0 hx0
  obtain ⟨y0, hy0⟩ : ∃ y0, (mk x0)[0]? = some y0 := ⟨(mk x0)[0]'(by omega), by simp [show 0 < (mk x0).length by omega]⟩
  obtain ⟨v0, hv0, _⟩ := h0.2.2 0 y0 hy0
  have hsp : a.spot = none := by simpa [Addr.add] using World.cell?_spot hv0
  obtain ⟨b, off, spot⟩ := a
  simp only at hsp; subst hsp
  refine Row.of_get fun i y hy => ?_
  obtain ⟨i1, j, x1, rfl, hj, hx1, hy1⟩ := flatMap_at (fun x hx => (hok x hx).2) hy
  obtain ⟨v, hv, hr, ho⟩ := (hq i1 x1 hx1).2.2 j y hy1
  rw [add_plain, add_plain] at hv
  rw [show off + (i1 * sz + j) = off + i1 * sz + j by omega]
  exact ⟨by unfold SOf; rw [hv]; rfl, v, hv, hr, ho⟩
end
theorem SOf_cell (w : World) : ∀ b j, SOf w b j → (w.cell? ⟨b, j, none⟩).isSome = true := fun _ _ h => h
theorem trod_grown {H : Type} {enc : TypeId × Value → H} {P : Program} {t : TypeId} (hl : laidOutB P = true) (hr : P.readableRec t = true) (hrow : t < P.types.size) {W W' : World} (hg : GrownO W W') {sp' : Nat → Bool} {v : Value} {d : DataW H} {ps : List MemPlace}
  (h : DataW.Trod enc P W 0 (fun _ => true) true t v d ps) (hlt : ∀ p ∈ ps, p.block < W.heap.size) (hs : ∀ p ∈ ps, sp' p.block = true) : DataW.Trod enc P W' 0 sp' true t v d ps :=
 WideElems.Trod_stays hl hr hrow h (fun p hp => by
  have := hg.heap p.block (hlt p hp)
  cases p <;> simp_all [World.sameAt, World.cell?, MemPlace.block]) hs
end Go.Px
