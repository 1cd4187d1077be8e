/- The abstract machine, part 4: PzSz PzSw PzRw PxIs PzSx PxPo PzOp PzOb. -/
import Derived.Test.YtpdgbkmpcahjjaaPb3
import Derived.ChangeSame
import Derived.RowKit3
import Derived.ChangeArms
import Derived.Deep.Strs
import Derived.WideKeyArgs
set_option linter.unusedVariables false
set_option linter.unusedSimpArgs false
namespace Go.Px
open Go
section
variable {E : Env} {L V : List AV} {T : TH} {K : KB} {x : AV} {acc : Acc}
theorem zL_v {sz : Nat} {agg : Bool} {o : O} (h : ∀ c, wLoad sz agg o L V T c = c x acc) : zL sz agg o K L V T = K (x :: L) V T := by
 show zDstW .push _ K L V T = _
 simp only [zDstW, h, putZ_eq]; rfl
theorem zDstW_v {d : FD} {w : WZ} (h : ∀ c, w L V T c = c x acc) : zDstW d w K L V T = K (putFL d x L) (putFV d x V) T := by
 simp only [zDstW, h, putZ_eq]
theorem wLoad_loc {sz : Nat} {agg : Bool} {o : O} {H : Heap} {nm off : Nat} {e : TypeId} {cs : List AV} {fr : Bool} (ho : gO L V o = .loc nm off) (hr : H[nm]? = some (.row e cs fr)) (hl : off + sz ≤ cs.length) (hx : mkV agg ((cs.drop off).take sz) = some x) (c : AV → Acc → Ans) :
  wLoad sz agg o L V (rep H) c = c x (Acc.read nm) := by
 simp only [wLoad, gZ_eq, ho, ptrCZ_eq, rowT_eq, rep_get, hr, dropZ_eq, takeZ_eq, mkVZ_eq]
 rw [if_pos (by simp; omega)]
 simp only [hx]
theorem wLoad_ref {sz : Nat} {agg : Bool} {o : O} {cs : List AV} (ho : gO L V o = .ref cs) (hl : sz ≤ cs.length) (hx : mkV agg (cs.take sz) = some x) (c : AV → Acc → Ans) :
  wLoad sz agg o L V T c = c x Acc.none := by
 simp only [wLoad, gZ_eq, ho, ptrCZ_eq, takeZ_eq, mkVZ_eq]
 rw [if_pos hl]
 simp only [hx]
theorem vIndexAddr_own {sz : Nat} {a b : O} {nm off n : Nat} {k : IntKind} {i : Nat} (ha : gO L V a = .own nm off n sz) (hb : gO L V b = .int k i) (hi : i < n) (c : AV → Ans) : vIndexAddr sz a b L V T c = c (.loc nm (off + i * sz)) := by
 simp only [vIndexAddr, gZ_eq, ha, hb, intCZ_eq, slCZ_eq, inZ_eq, ifZ_eq, Nat.beq_refl, if_true, natZ_eq]
 rw [if_pos (by omega)]
 simp
theorem vIndexAddr_sl {sz : Nat} {a b : O} {n : Nat} {cs : List AV} {f : Bool} {k : IntKind} {i : Nat} (ha : gO L V a = .sl n cs f) (hb : gO L V b = .int k i) (hi : i < n) (hc : i * sz < cs.length) (c : AV → Ans) : vIndexAddr sz a b L V T c = c (.ref (cs.drop (i * sz))) := by
 simp only [vIndexAddr, gZ_eq, ha, hb, intCZ_eq, slCZ_eq, inZ_eq, dropZ_eq, consZ_eq]
 rw [if_pos (by omega)]
 simp only [Int.toNat_natCast, Nat.mul_eq]
 rw [if_pos (by simp; omega)]
theorem vFieldAddr_loc {off : Nat} {a : O} {nm o : Nat} (ha : gO L V a = .loc nm o) (c : AV → Ans) : vFieldAddr off a L V T c = c (.loc nm (o + off)) := by
 simp only [vFieldAddr, gZ_eq, ha, ptrCZ_eq, natZ_eq]; rfl
theorem vFieldAddr_ref {off : Nat} {a : O} {cs : List AV} (ha : gO L V a = .ref cs) (hc : off < cs.length) (c : AV → Ans) : vFieldAddr off a L V T c = c (.ref (cs.drop off)) := by
 simp only [vFieldAddr, gZ_eq, ha, ptrCZ_eq, dropZ_eq, consZ_eq]
 rw [if_pos (by simp; omega)]
theorem vNot_eq {a : O} {b : Bool} (ha : gO L V a = .bool b) (c : AV → Ans) : vNot a L V T c = c (.bool (!b)) := by
 simp only [vNot, gZ_eq, ha, boolCZ_eq]
 cases b <;> rfl
theorem vPick_eq {p a b : O} {q : Bool} (hp : gO L V p = .bool q) (c : AV → Ans) : vPick p a b L V T c = c (if q then gO L V a else gO L V b) := by
 simp only [vPick, gZ_eq, hp, boolCZ_eq]
 cases q <;> rfl
theorem vLenL_own {a : O} {nm off n sz : Nat} (ha : gO L V a = .own nm off n sz) (c : AV → Ans) : vLenL a L V T c = c (.int .i64 n) := by
 simp only [vLenL, gZ_eq, ha, slCZ_eq]; rfl
end
theorem spOk_nil {bef : List Nat} {i : Nat} {acc : Acc} : spOk bef i acc [] = true := rfl
theorem spOk_bef {bef : List Nat} {i j : Nat} {acc a : Acc} {sp : List (Nat × Acc)} (h : (bef.getD i 0).testBit j = true) (t : spOk bef i acc sp = true) : spOk bef i acc ((j, a) :: sp) = true := by
 unfold spOk at *
 rw [List.all_cons, t, h]; rfl
theorem spOk_apart {bef : List Nat} {i j : Nat} {acc a : Acc} {sp : List (Nat × Acc)} (h : a.meets acc = false) (t : spOk bef i acc sp = true) : spOk bef i acc ((j, a) :: sp) = true := by
 unfold spOk at *
 rw [List.all_cons, t]; simp [h]
section
variable {E : Env} {L V : List AV} {T : TH} {H : Heap} {K : SPK} {x : AV} {acc : Acc} {sp : List (Nat × Acc)} {bef : List Nat}
theorem accZ_idle {i : Nat} {k : List (Nat × Acc) → Ans} (h : acc.idle = true) : accZ bef i acc sp k = k sp := by
 rw [accZ, idleZ_eq, if_pos h]
theorem accZ_ok {i : Nat} {k : List (Nat × Acc) → Ans} (h : acc.idle = false) (hs : spOk bef i acc sp = true) : accZ bef i acc sp k = k ((i, acc) :: sp) := by
 rw [accZ, idleZ_eq, if_neg (by simp [h]), ifZ_eq, if_pos hs]
theorem zDreg_eq {n : Nat} {f : Nat → SPK → SPK} {kn : KB} {kx : Nat → KB} {kr : KB} : zDreg n f kn kx kr L V (rep H) = f H.length (fun _ => kn) [] [] V (rep (H ++ List.replicate n .dead)) := by
 simp only [zDreg, lenT_eq, deadsT_eq, rep_deads, rep_n]
theorem zPD_v {v : VZ} (h : ∀ c, v L V T c = c x) : zPD v K sp L V T = K sp (x :: L) V T := by
 show zDst .push v (K sp) L V T = _
 simp only [zDst, h, putZ_eq]; rfl
theorem zVD_v {v : VZ} {j : Nat} (h : ∀ c, v L V T c = c x) : zVD j v K sp L V T = K sp L (V.set j x) T := by
 show zDst (.var j) v (K sp) L V T = _
 simp only [zDst, h, putZ_eq]; rfl
theorem zLD_idle {i sz : Nat} {agg : Bool} {o : O} (h : ∀ c, wLoad sz agg o L V T c = c x acc) (ha : acc.idle = true) : zLD bef i sz agg o K sp L V T = K sp (x :: L) V T := by
 show zDstWD bef i .push _ K sp L V T = _
 simp only [zDstWD, h, putZ_eq, accZ_idle ha]; rfl
theorem zLD_v {i sz : Nat} {agg : Bool} {o : O} (h : ∀ c, wLoad sz agg o L V T c = c x acc) (ha : acc.idle = false) (hs : spOk bef i acc sp = true) : zLD bef i sz agg o K sp L V T = K ((i, acc) :: sp) (x :: L) V T := by
 show zDstWD bef i .push _ K sp L V T = _
 simp only [zDstWD, h, putZ_eq, accZ_ok ha hs]; rfl
theorem zCallD_idle {call : CallTT} {i f : Nat} {args : List O} {d : FD} {T' : TH} (h : call (.func f) (args.map (gO L V)) T = some (x, T', acc)) (ha : acc.idle = true) : zCallD call bef i f args d K sp L V T = K sp (putFL d x L) (putFV d x V) T' := by
 simp only [zCallD, gZs_eq, h, ansC_eq, putZ_eq, accZ_idle ha]
theorem zCallD_v {call : CallTT} {i f : Nat} {args : List O} {d : FD} {T' : TH} (h : call (.func f) (args.map (gO L V)) T = some (x, T', acc)) (ha : acc.idle = false) (hs : spOk bef i acc sp = true) : zCallD call bef i f args d K sp L V T = K ((i, acc) :: sp) (putFL d x L) (putFV d x V) T' := by
 simp only [zCallD, gZs_eq, h, ansC_eq, putZ_eq, accZ_ok ha hs]
theorem zGD_hit {g : O} {want : Bool} {d : FD} {i : SPK → SPK} (h : gO L V g = .bool want) : zGD g want d i K sp L V T = i K sp L V T := by
 simp only [zGD, gZ_eq, h, grdZ_eq]
 cases want <;> rfl
theorem zGD_miss {g : O} {want : Bool} {d : FD} {i : SPK → SPK} (h : gO L V g = .bool (!want)) : zGD g want d i K sp L V T = K sp (putFL d (.tup []) L) (putFV d (.tup []) V) T := by
 simp only [zGD, gZ_eq, h, grdZ_eq, putZ_eq]
 cases want <;> rfl
theorem zGD_skip {g : O} {want : Bool} {d : FD} {i : SPK → SPK} {l : List AV} (h : gO L V g = .tup l) : zGD g want d i K sp L V T = K sp (putFL d (.tup []) L) (putFV d (.tup []) V) T := by
 simp only [zGD, gZ_eq, h, grdZ_eq, putZ_eq]
variable {call : CallTT} {fo : FO} {a : Acc} {o : AO} {n0 : Nat}
theorem zStepD_val (hg : wantedF fo.g L V = some true) (he : evalFA E L V H fo.fa = some (.val x, a)) (ha : a.idle = true) : zStepD E call bef n0 fo K sp L V (rep H) = K sp (putFL fo.dst x L) (putFV fo.dst x V) (rep H) := by
 have he' : evalFT E L V (rep H) fo.fa = some (.val x, a) := by rw [evalFT_ok, he]
 cases hl : fo.light <;> simp [zStepD, runFT, hg, he', primEff, effT, putF_eq, fV_eq, fW_eq, hl, accZ_idle ha]
theorem zStepD_new {r : Nat} {f : Nat → AV} (hg : wantedF fo.g L V = some true) (hr : fo.sl = some r) (he : evalFA E L V H fo.fa = some (.new o f, a)) (ha : (a.add (some (n0 + r))).idle = false) (hs : spOk bef fo.idx (a.add (some (n0 + r))) sp = true) :
  zStepD E call bef n0 fo K sp L V (rep H) = K ((fo.idx, a.add (some (n0 + r))) :: sp) (putFL fo.dst (f (n0 + r)) L) (putFV fo.dst (f (n0 + r)) V) (rep (H.set (n0 + r) o)) := by
 have he' : evalFT E L V (rep H) fo.fa = some (.new o f, a) := by rw [evalFT_ok, he]
 simp [zStepD, runFT, hg, he', primEff, effT, putF_eq, fV_eq, fO_eq, layT_eq, FO.slot, hr, rep_lay, layNew, accZ_ok ha hs]
theorem zStepD_put {nm : Nat} (hg : wantedF fo.g L V = some true) (he : evalFA E L V H fo.fa = some (.put nm o x, a)) (ha : a.idle = false) (hs : spOk bef fo.idx a sp = true) :
  zStepD E call bef n0 fo K sp L V (rep H) = K ((fo.idx, a) :: sp) (putFL fo.dst x L) (putFV fo.dst x V) (rep (H.set nm o)) := by
 have he' : evalFT E L V (rep H) fo.fa = some (.put nm o x, a) := by rw [evalFT_ok, he]
 simp [zStepD, runFT, hg, he', primEff, effT, putF_eq, fV_eq, fO_eq, setT_eq, rep_set, accZ_ok ha hs]
theorem zStepD_app {nm n sz r : Nat} (hg : wantedF fo.g L V = some true) (hr : fo.sl = some r) (he : evalFA E L V H fo.fa = some (.app nm o n sz, a)) (ha : (a.add (some (n0 + r))).idle = false) (hs : spOk bef fo.idx (a.add (some (n0 + r))) sp = true) :
  zStepD E call bef n0 fo K sp L V (rep H) = K ((fo.idx, a.add (some (n0 + r))) :: sp) (putFL fo.dst (.own (n0 + r) 0 n sz) L) (putFV fo.dst (.own (n0 + r) 0 n sz) V) (rep ((H.set nm .dead).set (n0 + r) o)) := by
 have he' : evalFT E L V (rep H) fo.fa = some (.app nm o n sz, a) := by rw [evalFT_ok, he]
 simp [zStepD, runFT, hg, he', primEff, effT, putF_eq, fV_eq, fO_eq, setT_eq, layT_eq, FO.slot, hr, rep_set, rep_lay, layNew, accZ_ok ha hs]
end
section
variable {E : Env} {L V : List AV} {H : Heap} {K : KB} {x : AV} {call : CallTT} {fo : FO} {a : Acc}
end
end Go.Px
set_option linter.unusedVariables false
set_option linter.unusedSimpArgs false
namespace Go.Px
open Go
section
variable {E : Env} {GE : Nat → Option ZFn} {LZ : Nat → Option ZLn} {k : Nat} {Y : YE} {f : Nat} {zf : ZFn} {args : List AV} {r : AV} {T T2 : TH}
theorem call_pure {fargs : List AV} {ns ns2 : List Nat} {r' : AV} (hG : GE f = some zf) (hp : E.pure f = true) (hz : fzL (fzG E T.get fzDeep) args = some (fargs, ns)) (hb : bodyZ E (callZ E GE LZ k) [] k zf fargs (rep []) = some (r, T2)) (hr : fzG E T2.get fzDeep r = some (r', ns2)) :
  callZ E GE LZ (k + 1) Y (.func f) args T = some (r', if flat r' then T else T.marks ns, ⟨ns ++ ns, [], false⟩) := by
 show @Option.rec ZFn (fun _ => Res) none (fun zf => ifR (E.pure f) (callPure E (callZ E GE LZ k) k zf args T) (callRawZ E (callZ E GE LZ k) Y k zf args T)) (GE f) = _
 rw [hG]
 simp only [ifR_eq, hp, if_true]
 unfold callPure
 rw [fzLZ_eq (d := none) (g := fzG E T.get fzDeep) (fun v c => fzZ_eq E none T fzDeep v c), hz]
 simp only [ansB_eq]
 rw [show (TH.nil) = rep [] from rfl, hb]
 simp only [fzZ_eq E, hr, ifR_eq, markZ_eq]
 split <;> rfl
theorem call_flat (hG : GE f = some zf) (hp : E.pure f = true) (hz : ∀ g, fzL (fzG E g fzDeep) args = some (args, [])) (hb : bodyZ E (callZ E GE LZ k) [] k zf args (rep []) = some (r, T2)) (hr : ∀ g, fzG E g fzDeep r = some (r, [])) (hf : flat r = true) :
  callZ E GE LZ (k + 1) Y (.func f) args T = some (r, T, ⟨[], [], false⟩) := by
 rw [call_pure hG hp (hz _) hb (hr _), if_pos hf]; rfl
theorem call_raw (hG : GE f = some zf) (hp : E.pure f = false) (hb : bodyZ E (callZ E GE LZ k) Y k zf args T = some (r, T2)) :
  ∃ a, callZ E GE LZ (k + 1) Y (.func f) args T = some (r, T2, a) := by
 refine ⟨rawAcc T.tl T2.tl, ?_⟩
 show @Option.rec ZFn (fun _ => Res) none (fun zf => ifR (E.pure f) (callPure E (callZ E GE LZ k) k zf args T) (callRawZ E (callZ E GE LZ k) Y k zf args T)) (GE f) = _
 rw [hG]
 simp only [ifR_eq, hp]
 unfold callRawZ
 simp only [ansB_eq, hb]; rfl
theorem call_round {l : Nat} {d : LD} {zl : ZLn} (hY : YE.at Y l = some d) (hL : LZ d.id = some zl) (h : ∃ a, roundZ (callZ E GE LZ k) Y k l zl d.V args T = some (r, T2, a)) :
  ∃ a, callZ E GE LZ (k + 1) Y (.yield l) args T = some (r, T2, a) := by
 obtain ⟨a, h⟩ := h
 refine ⟨a, ?_⟩
 show @Option.rec LD (fun _ => Res) none (fun d => @Option.rec ZLn (fun _ => Res) none (fun zl => roundZ (callZ E GE LZ k) Y k l zl d.V args T) (LZ d.id)) (YE.at Y l) = _
 rw [hY]
 show @Option.rec ZLn (fun _ => Res) none (fun zl => roundZ (callZ E GE LZ k) Y k l zl d.V args T) (LZ d.id) = _
 rw [hL]; exact h
end
end Go.Px
set_option linter.unusedVariables false
set_option linter.unusedSimpArgs false
namespace Go.Px
open Go
structure RowT (E : Env) (t e sz by' : Nat) : Prop where
 ht : ∃ it, E.ty t = some it ∧ it.desc = .slice e
 he : ∃ ie, E.ty e = some ie ∧ ie.size = sz ∧ ie.bytes = by'
 sz0 : sz ≠ 0
 by1 : by' ≤ 1000
section
variable {E : Env} {t e sz by' : Nat} {L V : List AV} {H : Heap} {a b : O}
theorem append_firstG (R : RowT E t e sz by') {nm k : Nat} {cs : List AV} {f : Bool} (ha : gO L V a = .sl 0 [] true) (hx : gO L V b = .own nm 0 k sz) (hr : H[nm]? = some (.row e cs f)) (hl : cs.length = k * sz) (hk : k ≠ 0) (hb : k ≤ 1000000000) :
  evalFA E L V H (.append t t a b) = some (.new (.row e cs false) (fun nm => .own nm 0 k sz), Acc.read nm) := by
 obtain ⟨it, h1, h2⟩ := R.ht
 obtain ⟨ie, h3, h4, h5⟩ := R.he
 have hm : k * ie.bytes ≤ mostBytes := by
  rw [h5]
  exact Nat.le_trans (Nat.mul_le_mul hb R.by1) (by decide)
 have hm2 : k ≤ mostBytes := Nat.le_trans hb (by decide)
 subst h4
 have hs := R.sz0
 simp [evalFA, appendA, appendA0, contentA, countA, h1, h2, h3, ha, hx, hr, hk, hs, hm, hm2]
 rw [if_pos (by omega)]
 have : List.take (k * ie.size) cs = cs := List.take_of_length_le (by omega)
 simp [this, hk, hm, hm2]
theorem append_nextG (R : RowT E t e sz by') {nm nb n k : Nat} {cs0 cs : List AV} {f : Bool} (ha : gO L V a = .own nb 0 n sz) (hb0 : H[nb]? = some (.row e cs0 false)) (hl0 : cs0.length = n * sz) (hx : gO L V b = .own nm 0 k sz) (hr : H[nm]? = some (.row e cs f)) (hl : cs.length = k * sz) (hk : k ≠ 0) (hb : n + k ≤ 1000000000) :
  evalFA E L V H (.append t t a b) = some (.app nb (.row e (cs0 ++ cs) false) (n + k) sz, ⟨[nm], [nb], false⟩) := by
 obtain ⟨it, h1, h2⟩ := R.ht
 obtain ⟨ie, h3, h4, h5⟩ := R.he
 have hm : (n + k) * ie.bytes ≤ mostBytes := by
  rw [h5]
  exact Nat.le_trans (Nat.mul_le_mul hb R.by1) (by decide)
 have hm2 : n + k ≤ mostBytes := Nat.le_trans hb (by decide)
 subst h4
 have hs := R.sz0
 have : List.take (k * ie.size) cs = cs := List.take_of_length_le (by omega)
 simp [evalFA, appendA, appendA0, contentA, countA, h1, h2, h3, ha, hx, hr, hk, hs, hm, hm2, hb0, hl0, hl, this, Acc.read]
theorem append_nil (R : RowT E t e sz by') {x : AV} (ha : gO L V a = x) (hx1 : x = .sl 0 [] true ∨ ∃ n o k s, x = .own n o k s) (hx : gO L V b = .sl 0 [] true) : evalFA E L V H (.append t t a b) = some (.val x, Acc.none) := by
 obtain ⟨it, h1, h2⟩ := R.ht
 obtain ⟨ie, h3, h4, h5⟩ := R.he
 subst h4
 have hs := R.sz0
 rcases hx1 with rfl | ⟨n, o, k, s, rfl⟩
 ·simp [evalFA, appendA, appendA0, contentA, countA, h1, h2, h3, ha, hx, hs]
 ·simp [evalFA, appendA, appendA0, contentA, countA, h1, h2, h3, ha, hx, hs]
theorem buildOne (R : RowT E t e sz by') {y : AV} (ha : gO L V a = y) (hc : (cellsOf y).length = sz) (hz : ∃ ie, E.ty e = some ie ∧ ie.zero.length = sz) (h65 : sz ≤ 65536) :
  evalFA E L V H (.buildSlice t 1 [(0, a)]) = some (.new (.row e (cellsOf y) false) (fun nm => .own nm 0 1 sz), Acc.none) := by
 obtain ⟨it, h1, h2⟩ := R.ht
 obtain ⟨ie, h3, h4, h5⟩ := R.he
 obtain ⟨ie', h6, h7⟩ := hz
 rw [h3] at h6; cases h6
 subst h4
 have hs := R.sz0
 have e1 : lay (ie.zero ++ []) 0 (cellsOf y) = cellsOf y := by
  unfold lay
  simp [hc, h7]
 simp [evalFA, buildSliceA, h1, h2, h3, fillA, zerosA, ha, hc, h7, hs]
 simp at e1
 exact ⟨h65, e1⟩
end
end Go.Px
set_option linter.unusedVariables false
set_option linter.unusedSimpArgs false
namespace Go.Px
open Go Go.Lib Go.RowKit
def sayV (q : List AV → Option AV) (args : List AV) : Option (Heap → Option (Eff × Acc)) := (q args).map fun r _ => some (.val r, Acc.none)
section
variable {P : Program} {f : Nat}
def isQ (t : TypeId) : List AV → Option AV
 | [.nilIface, .iface u (.int .i64 _)] => if Nat.beq u t then some (.bool false) else none
 | [.iface v (.int .i64 n), .iface u (.int .i64 k)] => if Nat.beq u t && Nat.beq v t then some (.bool (n == k)) else none
 | _ => none
end
end Go.Px
set_option linter.unusedVariables false
set_option linter.unusedSimpArgs false
namespace Go.Px
open Go
theorem st {P : Ans → Prop} {a b : Ans} (h : a = b) (hb : P b) : P a := h ▸ hb
def Ends (E : Env) (r : AV) (a : Ans) : Prop := ∃ x T ns, a = some (x, T) ∧ fzG E T.get fzDeep x = some (r, ns)
def EndsV (x : AV) (a : Ans) : Prop := ∃ T, a = some (x, T)
section
variable {E : Env} {L V : List AV} {T : TH} {K : KB} {x : AV} {H : Heap} {acc : Acc} {P : Ans → Prop}
section
variable {k : IntKind} {m n : Int}
theorem tLss (h : m < n) : intBin .lss k m n = some (.bool true) := by simp [intBin, h]
theorem fLss' (h : n ≤ m) : intBin .lss k m n = some (.bool false) := by simp [intBin]; omega
theorem tGtr (h : n < m) : intBin .gtr k m n = some (.bool true) := by simp [intBin]; omega
theorem fGtr' (h : m ≤ n) : intBin .gtr k m n = some (.bool false) := by simp [intBin]; omega
theorem tLeq (h : m ≤ n) : intBin .leq k m n = some (.bool true) := by simp [intBin, h]
theorem fLeq' (h : n < m) : intBin .leq k m n = some (.bool false) := by simp [intBin]; omega
theorem tGeq (h : n ≤ m) : intBin .geq k m n = some (.bool true) := by simp [intBin]; omega
theorem fGeq' (h : m < n) : intBin .geq k m n = some (.bool false) := by simp [intBin]; omega
theorem tEql (h : m = n) : intBin .eql k m n = some (.bool true) := by simp [intBin, h]
theorem fEql' (h : m ≠ n) : intBin .eql k m n = some (.bool false) := by simp [intBin, h]
theorem tNeq (h : m ≠ n) : intBin .neq k m n = some (.bool true) := by simp [intBin, h]
theorem fNeq' (h : m = n) : intBin .neq k m n = some (.bool false) := by simp [intBin, h]
theorem qEql : intBin .eql k m n = some (.bool (decide (m = n))) := by simp [intBin]; rfl
theorem wi64 {x : Int} (h : -9223372036854775808 ≤ x ∧ x < 9223372036854775808) : IntKind.i64.wrap x = x := by rw [IntKind.wrap_i64]; omega
theorem wu64 {x : Int} (h : 0 ≤ x ∧ x < 18446744073709551616) : IntKind.u64.wrap x = x := by simp [IntKind.wrap, IntKind.bits, IntKind.signed]; omega
theorem aAddN {i j : Nat} (h : i + j < 9223372036854775808) : intBin .add .i64 (i : Int) (j : Int) = some (.int .i64 ((i + j : Nat) : Int)) := by
 simp only [intBin]; rw [wi64 (by omega)]; simp
theorem aAdd1 {i : Nat} (h : i + 1 < 9223372036854775808) : intBin .add .i64 (i : Int) 1 = some (.int .i64 ((i + 1 : Nat) : Int)) := aAddN (j := 1) h
theorem aAddU1 {i : Nat} (h : i + 1 < 18446744073709551616) : intBin .add .u64 (i : Int) 1 = some (.int .u64 ((i + 1 : Nat) : Int)) := by
 simp only [intBin]; rw [wu64 (by omega)]; simp
theorem aSubN {i j : Nat} (h : j ≤ i ∧ i < 9223372036854775808) : intBin .sub .i64 (i : Int) (j : Int) = some (.int .i64 ((i - j : Nat) : Int)) := by
 simp only [intBin]; rw [wi64 (by omega)]; congr 2; omega
theorem aSub1 {i : Nat} (h : 1 ≤ i ∧ i < 9223372036854775808) : intBin .sub .i64 (i : Int) 1 = some (.int .i64 ((i - 1 : Nat) : Int)) := aSubN (j := 1) h
theorem aSubS {i : Nat} (h : i < 9223372036854775807) : intBin .sub .i64 ((i + 1 : Nat) : Int) 1 = some (.int .i64 (i : Int)) := by
 rw [aSub1 ⟨by omega, by omega⟩]; simp
end
theorem vInt_any {f : IntKind → Int → Int → (AV → Ans) → Ans} {op : BinOp} {t : TypeId} {c1 c2 : Bool} {a b : O} {va vb : AV} (ha : gO L V a = va) (hb : gO L V b = vb) (hn : ∀ s g, int2Z va vb s g = g) (hr : binB E op t c1 c2 va vb = some x) (c : AV → Ans) :
  vInt E f op t c1 c2 a b L V T c = c x := by
 subst ha hb
 simp only [vInt, gZ_eq, hn, optV_eq, hr]
theorem vPick_t {p a b : O} (hp : gO L V p = .bool true) (c : AV → Ans) : vPick p a b L V T c = c (gO L V a) := vPick_eq hp c
theorem vPick_f {p a b : O} (hp : gO L V p = .bool false) (c : AV → Ans) : vPick p a b L V T c = c (gO L V b) := vPick_eq hp c
theorem zCond_t {c : O} {a b : CZ} {kn : KB} {kx : Nat → KB} {kr : KB} (h : gO L V c = .bool true) : zCond c a b kn kx kr L V T = a kn kx kr L V T := by rw [zCond_eq h, if_pos rfl]
theorem zCond_f {c : O} {a b : CZ} {kn : KB} {kx : Nat → KB} {kr : KB} (h : gO L V c = .bool false) : zCond c a b kn kx kr L V T = b kn kx kr L V T := by rw [zCond_eq h, if_neg (by decide)]
theorem zLoop_one {n : Nat} {b : CZ} {kn : KB} {kx : Nat → KB} {kr : KB} : zLoop (n + 1) b kn kx kr L V T = b (zLoop n b kn kx kr) kx kr L V T := by rw [zLoop_succ]
theorem ifZ_pos {β : Type} {b : Bool} {t e : β} (h : b = true) : ifZ b t e = t := by rw [ifZ_eq, if_pos h]
theorem two {b : Bool} {a : Ans} (h1 : b = true → P a) (h2 : b = false → P a) : P a := by cases b with
 | true => exact h1 rfl
 | false => exact h2 rfl
theorem bAV {b c : Bool} (h : b = c) : AV.bool b = .bool c := by rw [h]
theorem ev_box {t : TypeId} {o : O} {v : AV} {cs : List AV} (ho : gO L V o = v) (hc : cellsOf v = cs) (ht : ∃ i, E.ty t = some i) : evalFA E L V H (.box t o) = some (.new (.row t cs false) (fun nm => .loc nm 0), Acc.none) := by
 obtain ⟨i, h⟩ := ht
 subst ho hc
 simp [evalFA, h]
theorem ev_alloc {t : TypeId} {cs : List AV} (ht : ∃ i, E.ty t = some i ∧ i.zero = cs) : evalFA E L V H (.alloc t) = some (.new (.row t cs false) (fun nm => .loc nm 0), Acc.none) := by
 obtain ⟨i, h, rfl⟩ := ht
 simp [evalFA, h]
theorem ev_store {st nm off e2 : Nat} {cs : List AV} {p v : O} {x : AV} (ha : gO L V p = .loc nm off) (hx : gO L V v = x) (hr : H[nm]? = some (.row e2 cs false)) (ht : ∃ i, E.ty st = some i ∧ i.size = (cellsOf x).length) (hn : Nat.beq (cellsOf x).length 0 = false) (hl : Nat.ble (off + (cellsOf x).length) cs.length = true) :
  evalFA E L V H (.store st p v) = some (.put nm (.row e2 (lay cs off (cellsOf x)) false) (.tup []), ⟨[], [nm], false⟩) := by
 obtain ⟨i, h1, h2⟩ := ht
 subst hx
 have hn := Nat.ne_of_beq_eq_false hn
 have hl := Nat.le_of_ble_eq_true hl
 simp [evalFA, storeA, h1, h2, ha, hr, hl]
 intro h; simp [h] at hn
theorem ev_mkFunc {f : FuncId} {cs : List O} {vs : List AV} (h : cs.map (gO L V) = vs) : evalFA E L V H (.mkFunc f cs) = some (.val (.clo f vs), Acc.none) := by
 subst h; rfl
variable {call : CallTT} {fa : FA} {lt : Bool} {ix : Nat} {sl : Option Nat} {a : Acc} {o : AO}
theorem sP_val (he : evalFA E L V H fa = some (.val x, a)) : zStep E call ⟨fa, .push, none, lt, ix, sl⟩ K L V (rep H) = K (x :: L) V (rep H) := zStep_valH rfl he
theorem sV_val {j : Nat} (he : evalFA E L V H fa = some (.val x, a)) : zStep E call ⟨fa, .var j, none, lt, ix, sl⟩ K L V (rep H) = K L (V.set j x) (rep H) := zStep_valH rfl he
theorem sP_new {f : Nat → AV} (he : evalFA E L V H fa = some (.new o f, a)) : zStep E call ⟨fa, .push, none, lt, ix, sl⟩ K L V (rep H) = K (f H.length :: L) V (rep (H ++ [o])) := zStep_newH rfl he
theorem sV_new {j : Nat} {f : Nat → AV} (he : evalFA E L V H fa = some (.new o f, a)) : zStep E call ⟨fa, .var j, none, lt, ix, sl⟩ K L V (rep H) = K L (V.set j (f H.length)) (rep (H ++ [o])) := zStep_newH rfl he
theorem sN_put {nm : Nat} (he : evalFA E L V H fa = some (.put nm o x, a)) : zStep E call ⟨fa, .none, none, lt, ix, sl⟩ K L V (rep H) = K L V (rep (H.set nm o)) := zStep_putH rfl he
theorem sP_app {nm n sz : Nat} (he : evalFA E L V H fa = some (.app nm o n sz, a)) : zStep E call ⟨fa, .push, none, lt, ix, sl⟩ K L V (rep H) = K (.own H.length 0 n sz :: L) V (rep (H.set nm .dead ++ [o])) := zStep_appH rfl he
end
section
variable {E : Env} {L V : List AV} {T T' : TH} {K : SPK} {x : AV} {H : Heap} {acc a : Acc} {call : CallTT} {fa : FA} {lt : Bool} {ix : Nat} {sl : Option Nat} {o : AO} {sp : List (Nat × Acc)} {bef : List Nat} {n0 r : Nat}
theorem dP_val (he : evalFA E L V H fa = some (.val x, a)) (ha : a.idle = true) : zStepD E call bef n0 ⟨fa, .push, none, lt, ix, sl⟩ K sp L V (rep H) = K sp (x :: L) V (rep H) := zStepD_val rfl he ha
theorem dP_new {f : Nat → AV} (he : evalFA E L V H fa = some (.new o f, a)) (ha : (a.add (some (n0 + r))).idle = false) (hs : spOk bef ix (a.add (some (n0 + r))) sp = true) : zStepD E call bef n0 ⟨fa, .push, none, lt, ix, some r⟩ K sp L V (rep H) = K ((ix, a.add (some (n0 + r))) :: sp) (f (n0 + r) :: L) V (rep (H.set (n0 + r) o)) := zStepD_new rfl rfl he ha hs
theorem dV_new {j : Nat} {f : Nat → AV} (he : evalFA E L V H fa = some (.new o f, a)) (ha : (a.add (some (n0 + r))).idle = false) (hs : spOk bef ix (a.add (some (n0 + r))) sp = true) : zStepD E call bef n0 ⟨fa, .var j, none, lt, ix, some r⟩ K sp L V (rep H) = K ((ix, a.add (some (n0 + r))) :: sp) L (V.set j (f (n0 + r))) (rep (H.set (n0 + r) o)) := zStepD_new rfl rfl he ha hs
theorem dN_put {nm : Nat} (he : evalFA E L V H fa = some (.put nm o x, a)) (ha : a.idle = false) (hs : spOk bef ix a sp = true) : zStepD E call bef n0 ⟨fa, .none, none, lt, ix, sl⟩ K sp L V (rep H) = K ((ix, a) :: sp) L V (rep (H.set nm o)) := zStepD_put rfl he ha hs
theorem cP_idle {i f : Nat} {args : List O} {vs : List AV} (hv : args.map (gO L V) = vs) (h : call (.func f) vs T = some (x, T', acc)) (ha : acc.idle = true) : zCallD call bef i f args .push K sp L V T = K sp (x :: L) V T' := zCallD_idle (hv ▸ h) ha
theorem zDreg0 {f : Nat → SPK → SPK} {kn : KB} {kx : Nat → KB} {kr : KB} {L V : List AV} {T : TH} : zDreg 0 f kn kx kr L V T = f T.n (fun _ => kn) [] [] V T := by
 simp only [zDreg, lenT_eq, deadsT_eq]; rfl
end
section
variable {E : Env} {L V : List AV} {T T' : TH} {K : KB} {x : AV} {acc : Acc} {call : CallTT}
theorem cP_call {f : FuncId} {args : List O} {vs : List AV} (hv : args.map (gO L V) = vs) (h : call (.func f) vs T = some (x, T', acc)) : zCall call f args .push K L V T = K (x :: L) V T' := zCall_eq (hv ▸ h)
theorem wV_load {sz : Nat} {agg : Bool} {o : O} {j : Nat} (h : ∀ c, wLoad sz agg o L V T c = c x acc) : zDstW (.var j) (wLoad sz agg o) K L V T = K L (V.set j x) T := zDstW_v h
end
section
variable {E : Env} {GE : Nat → Option ZFn} {LZ : Nat → Option ZLn} {k : Nat} {Y : YE} {f : Nat} {zf : ZFn} {args V0 : List AV} {r : AV} {T : TH}
theorem call_go (hG : GE f = some zf) (hp : E.pure f = true) (hz : ∀ g, fzL (fzG E g fzDeep) args = some (args, [])) (hV : ∀ c : List AV → Ans, leZ args zf.n (initZ zf.vs args c) = c V0)
  (hb : Ends E r (zf.z (callZ E GE LZ k) [] k (finZ E zf.res) (fun _ _ _ _ => none) (finZ E zf.res) [] V0 (rep []))) :
  callZ E GE LZ (k + 1) Y (.func f) args T = some (r, T, ⟨[], [], false⟩) := by
 obtain ⟨x, T2, ns, hb, hr⟩ := hb
 have h := call_pure (Y := Y) (T := T) hG hp (hz _) (k := k) (r := x) (T2 := T2) (by unfold bodyZ; rw [hV]; exact hb) hr
 rw [show (if flat r = true then T else T.marks []) = T by split <;> rfl] at h
 exact h
end
theorem ends_fz {E : Env} {x r : AV} {T : TH} {ns : List Nat} (h : fzG E T.get fzDeep x = some (r, ns)) : Ends E r (some (x, T)) := ⟨x, T, ns, rfl, h⟩
end Go.Px
namespace Go.Px
open Go
section
variable {E : Env} {GE : Nat → Option ZFn} {LZ : Nat → Option ZLn} {P : Ans → Prop}
noncomputable def aftR (cy : CallYT) (Y : YE) (k l : Nat) (zl : ZLn) : KB := fun _ V H => match H.get l with
 | some (.loop .ready pend tm ps a b) => setT H l (.loop .busy pend tm ps a b) fun H =>
  zl.body cy Y k (fun _ _ H => endR l .normal H) (fun i _ _ H => endR l (.exit i) H) (fun _ _ H => endR l .ret H) [] V H
 | _ => none
theorem aft_eq {cy : CallYT} {Y : YE} {k l : Nat} {zl : ZLn} {L V : List AV} {H : Heap} {pd : Option Code} {tm : List AV} {ps : List Nat} {a b : Code} (h : H[l]? = some (.loop .ready pd tm ps a b)) :
  aftR cy Y k l zl L V (rep H) = zl.body cy Y k (fun _ _ H => endR l .normal H) (fun i _ _ H => endR l (.exit i) H) (fun _ _ H => endR l .ret H) [] V (rep (H.set l (.loop .busy pd tm ps a b))) := by
 simp only [aftR, rep_get, h, setT_eq, rep_set]
theorem endR_eq {l : Nat} {e : AExit} {H : Heap} {s : LoopState} {pd : Option Code} {tm : List AV} {ps : List Nat} {a b : Code} (h : H[l]? = some (.loop s pd tm ps a b)) :
  endR l e (rep H) = some (.bool (jumpOf e).isNone, rep (H.set l (.loop (if (jumpOf e).isNone then .ready else .done) (jumpOf e) tm ps a b))) := by
 simp only [endR, rep_get, h, setT_eq, rep_set]
def EndsQ (Q : Bool → Heap → Prop) (a : Ans) : Prop := ∃ b H, a = some (.bool b, rep H) ∧ Q b H
theorem endsQ {Q : Bool → Heap → Prop} {b : Bool} {H : Heap} (h : Q b H) : EndsQ Q (some (.bool b, rep H)) := ⟨b, H, rfl, h⟩
theorem round_go {k l : Nat} {Y : YE} {d : LD} {zl : ZLn} {args : List AV} {H : Heap} {Q : Bool → Heap → Prop} {pd : Option Code} {tm : List AV} {ps : List Nat} {a b : Code} (hY : YE.at Y l = some d) (hL : LZ d.id = some zl) (hl : H[l]? = some (.loop .ready pd tm ps a b)) (hn : args.length = zl.ps.length)
  (hc : EndsQ Q (zl.asg (callZ E GE LZ k) Y k (aftR (callZ E GE LZ k) Y k l zl) (fun _ _ _ _ => none) (fun _ _ _ => none) [] (setV d.V zl.ps args) (rep H))) :
  ∃ b H' ac, callZ E GE LZ (k + 1) Y (.yield l) args (rep H) = some (.bool b, rep H', ac) ∧ Q b H' := by
 obtain ⟨b2, H', e, hq⟩ := hc
 have e2 : roundZ (callZ E GE LZ k) Y k l zl d.V args (rep H) = ansB (zl.asg (callZ E GE LZ k) Y k (aftR (callZ E GE LZ k) Y k l zl) (fun _ _ _ _ => none) (fun _ _ _ => none) [] (setV d.V zl.ps args) (rep H)) (fun r H2 => some (r, H2, rawAcc (rep H).tl H2.tl)) := by
  unfold roundZ
  simp only [rep_get, hl, hn, ne_eq, not_true, if_false, fS_eq]
  rfl
 obtain ⟨ac, h⟩ := call_round (T := rep H) (args := args) (k := k) (E := E) (GE := GE) (r := .bool b2) (T2 := rep H') hY hL ⟨rawAcc (rep H).tl (rep H').tl, by
  rw [e2, e]
  simp only [ansB_eq]⟩
 exact ⟨b2, H', ac, h, hq⟩
theorem zRange_wp {cy : CallYT} {Y : YE} {f : O} {id : Nat} {caps mk : List (Option O)} {ps : List Nat} {asg body : Code} {kn : KB} {kx : Nat → KB} {kr : KB} {L V : List AV} {H : Heap} {g : Nat} {cs : List AV}
  (hf : gO L V f = .clo g cs) (hc : ∃ r H2 ac, cy (⟨H.length, id, caps.map (gM L V)⟩ :: Y) (.func g) (.yield H.length :: cs) (rep (H ++ [.loop .ready none (mk.map (gM L V)) ps asg body])) = some (r, rep H2, ac) ∧
   ∃ s pd tm ps a b, H2[H.length]? = some (.loop s pd tm ps a b) ∧ (s == .busy) = false ∧ ((pd = none ∧ P (kn L V (rep (H2.set H.length (.loop .exhausted none tm ps a b))))) ∨ (pd = some .ret ∧ P (kr L V (rep (H2.set H.length (.loop .exhausted (some .ret) tm ps a b))))) ∨ ∃ i, pd = some (.exit i) ∧ P (kx i L V (rep (H2.set H.length (.loop .exhausted (some (.exit i)) tm ps a b)))))) :
  P (zRange cy Y f id caps mk ps asg body kn kx kr L V (rep H)) := by
 obtain ⟨r, H2, ac, hc, s, pd, tm, ps2, a, b, h2, hs, hp⟩ := hc
 unfold zRange
 simp only [gZ_eq, hf, cloCZ, lenT_eq, rep_n, gMsZ_eq, pushT_eq, ← rep_push, ansC_eq, hc, endZ, rep_get, h2, hs, setT_eq, rep_set]
 rcases hp with ⟨rfl, hp⟩ | ⟨rfl, hp⟩ | ⟨i, rfl, hp⟩
 ·simpa [setT_eq, rep_set] using hp
 ·simpa [setT_eq, rep_set] using hp
 ·simpa [setT_eq, rep_set] using hp
def EndsH (Q : AV → Heap → Prop) (a : Ans) : Prop := ∃ x H, a = some (x, rep H) ∧ Q x H
theorem endsH {Q : AV → Heap → Prop} {x : AV} {H : Heap} (h : Q x H) : EndsH Q (some (x, rep H)) := ⟨x, H, rfl, h⟩
theorem raw_go {k f : Nat} {Y : YE} {zf : ZFn} {args V0 : List AV} {H : Heap} {Q : AV → Heap → Prop} (hG : GE f = some zf) (hp : E.pure f = false) (hV : ∀ c : List AV → Ans, leZ args zf.n (initZ zf.vs args c) = c V0)
  (hb : EndsH Q (zf.z (callZ E GE LZ k) Y k (finZ E zf.res) (fun _ _ _ _ => none) (finZ E zf.res) [] V0 (rep H))) :
  ∃ r H' ac, callZ E GE LZ (k + 1) Y (.func f) args (rep H) = some (r, rep H', ac) ∧ Q r H' := by
 obtain ⟨x, H', e, hq⟩ := hb
 obtain ⟨ac, h⟩ := call_raw (E := E) (LZ := LZ) (k := k) (Y := Y) (T := rep H) (r := x) (T2 := rep H') hG hp (by unfold bodyZ; rw [hV]; exact e)
 exact ⟨x, H', ac, h, hq⟩
end
end Go.Px
namespace Go.Px
open Go
section
variable {E : Env} {L V : List AV} {T T' : TH} {H : Heap} {K : KB} {KD : SPK} {x : AV} {a a' : Acc} {call : CallTT} {fa : FA} {lt : Bool} {ix : Nat} {sl : Option Nat} {sp : List (Nat × Acc)} {bef : List Nat} {n0 : Nat} {t : Tgt} {ar9 : List AV}
def Plain (E : Env) : Tgt → List AV → Prop
 | .func f, as => E.prim f as = none
 | .yield _, _ => True
theorem prim_plain (h : Plain E t ar9) : primEff E (rep H).tl (.call t ar9, a) = some (.call t ar9, a) := by
 cases t with
 | func f => simp only [primEff, fS_eq]; rw [show E.prim f ar9 = none from h]
 | yield l => rfl
theorem dP_callA (hc : call t ar9 (rep H) = some (x, T', a')) (he : evalFA E L V H fa = some (.call t ar9, a)) (hp : Plain E t ar9) (hs : spOk bef ix a' sp = true) : zStepD E call bef n0 ⟨fa, .push, none, lt, ix, sl⟩ KD sp L V (rep H) = KD (if a'.idle = true then sp else (ix, a') :: sp) (x :: L) V T' := by
 have he' : evalFT E L V (rep H) fa = some (.call t ar9, a) := by rw [evalFT_ok, he]
 cases hi : a'.idle with
 | true => simp [zStepD, runFT, wantedF, he', prim_plain hp, effT, fS_eq, hc, putF_eq, putFL, putFV, accZ_idle hi]
 | false => simp [zStepD, runFT, wantedF, he', prim_plain hp, effT, fS_eq, hc, putF_eq, putFL, putFV, accZ_ok hi hs]
theorem ev_callv {f : O} {args : List O} {v : AV} {vs : List AV} (hf : gO L V f = v) (hv : args.map (gO L V) = vs) (hc : calleeV vs v = some (.call t ar9, a)) : evalFA E L V H (.callv f args) = some (.call t ar9, a) := by
 subst hf hv; exact hc
end
end Go.Px
namespace Go.Px
open Go
theorem ends_cell {E : Env} {L V : List AV} {H : Heap} {o : O} {t nm off e : Nat} {cs : List AV} {fr : Bool} {x r : AV} {ns : List Nat} (ho : gO [] V o = .loc nm off) (hr : H[nm]? = some (.row e cs fr)) (ht : ∃ i, E.ty t = some i ∧ off + i.size ≤ cs.length ∧ mkV i.desc.isAgg ((cs.drop off).take i.size) = some x) (hz : fzG E (rep H).get fzDeep x = some (r, ns)) :
  Ends E r (finZ E [.cell o t] L V (rep H)) := by
 obtain ⟨i, h1, h2, h3⟩ := ht
 refine ⟨x, rep H, ns, ?_, hz⟩
 rw [finZ_eq, resT_ok]
 simp [resF, loadA, ho, h1, hr, h2, h3, resOf]
theorem ends_tmp {E : Env} {L V : List AV} {T : TH} {o : O} {r : AV} {ns : List Nat} (hz : fzG E T.get fzDeep (gO [] V o) = some (r, ns)) : Ends E r (finZ E [.tmp o] L V T) := by
 refine ⟨_, T, ns, ?_, hz⟩
 rw [finZ_eq]; rfl
end Go.Px
namespace Go.Px
open Go
section
variable {E : Env} {L V : List AV} {H : Heap} {a b : O} {k : IntKind} {m n : Int}
theorem ev_max (ha : gO L V a = .int k m) (hb : gO L V b = .int k n) : evalFA E L V H (.most true [a, b]) = some (.val (.int k (max m n)), Acc.none) := by
 simp [evalFA, mostA, most2, ha, hb]; omega
theorem ev_min (ha : gO L V a = .int k m) (hb : gO L V b = .int k n) : evalFA E L V H (.most false [a, b]) = some (.val (.int k (min m n)), Acc.none) := by
 simp [evalFA, mostA, most2, ha, hb]; omega
end
end Go.Px
namespace Go.Px
open Go
section
variable {L V : List AV} {T : TH} {x : AV}
theorem wL_loc {sz : Nat} {agg : Bool} {o : O} {H : Heap} {nm off : Nat} {e : TypeId} {cs : List AV} {fr : Bool} (ho : gO L V o = .loc nm off) (hr : H[nm]? = some (.row e cs fr)) (hl : Nat.ble (off + sz) cs.length = true) (hx : mkV agg ((cs.drop off).take sz) = some x) (c : AV → Acc → Ans) :
  wLoad sz agg o L V (rep H) c = c x (Acc.read nm) := wLoad_loc ho hr (Nat.le_of_ble_eq_true hl) hx c
theorem wL_ref {sz : Nat} {agg : Bool} {o : O} {cs : List AV} (ho : gO L V o = .ref cs) (hl : Nat.ble sz cs.length = true) (hx : mkV agg (cs.take sz) = some x) (c : AV → Acc → Ans) :
  wLoad sz agg o L V T c = c x Acc.none := wLoad_ref ho (Nat.le_of_ble_eq_true hl) hx c
end
end Go.Px
namespace Go.Px
open Go
noncomputable def endsB (E : Env) (r : AV) (a : Ans) : Bool := match a with
 | some (x, T) => match fzG E T.get fzDeep x with
  | some (r', _) => eqW r r'
  | none => false
 | none => false
theorem endsB_ok {E : Env} {r : AV} {a : Ans} (h : endsB E r a = true) : Ends E r a := by
 unfold endsB at h
 split at h
 ·rename_i x T
  split at h
  ·rename_i r' ns hz
   exact ⟨x, T, ns, rfl, by rw [hz, eqW_ok h]⟩
  ·cases h
 ·cases h
end Go.Px
namespace Go.Px
open Go
theorem fzG_ownX {E : Env} {g : Nat → Option AO} {k nm n sz e : Nat} {cs : List AV} {fr : Bool} (h : g nm = some (.row e cs fr)) (hl : cs.length = n * sz) (hc : fzL (fzG E g k) cs = some (cs, [])) : fzG E g (k + 1) (.own nm 0 n sz) = some (.sl n cs false, [nm]) := by
 have ht : cs.take (n * sz) = cs := List.take_of_length_le (by omega)
 simp [fzG, h, hl, hc, ht]
def OwnA (e sz : Nat) (H : Heap) (v : AV) (cs : List AV) (n : Nat) : Prop := cs.length = n * sz ∧ ((n = 0 ∧ v = .sl 0 [] true) ∨ (n ≠ 0 ∧ ∃ nm, v = .own nm 0 n sz ∧ H[nm]? = some (.row e cs false)))
def NotAt (v : AV) (i : Nat) : Prop := ∀ b off m s, v = .own b off m s → b ≠ i
section
variable {E : Env} {L V : List AV} {H : Heap} {a b : O} {e sz t by' n : Nat} {v : AV} {cs xs : List AV}
theorem ownA_nil {e sz : Nat} {H : Heap} : OwnA e sz H (.sl 0 [] true) [] 0 := ⟨by simp, .inl ⟨rfl, rfl⟩⟩
theorem OwnA.app (h : OwnA e sz H v cs n) (Z : Heap) : OwnA e sz (H ++ Z) v cs n := by
 obtain ⟨h1, h2⟩ := h
 refine ⟨h1, ?_⟩
 rcases h2 with h2 | ⟨h2, nm, h3, h4⟩
 ·exact .inl h2
 ·exact .inr ⟨h2, nm, h3, by rw [List.getElem?_append_left (List.getElem?_eq_some_iff.1 h4).1]; exact h4⟩
theorem OwnA.set (h : OwnA e sz H v cs n) {i : Nat} (o : AO) (hi : NotAt v i) : OwnA e sz (H.set i o) v cs n := by
 obtain ⟨h1, h2⟩ := h
 refine ⟨h1, ?_⟩
 rcases h2 with h2 | ⟨h2, nm, rfl, h4⟩
 ·exact .inl h2
 ·exact .inr ⟨h2, nm, rfl, by rw [List.getElem?_set_ne (fun e => hi _ _ _ _ rfl e.symm)]; exact h4⟩
theorem OwnA.lt (h : OwnA e sz H v cs n) {i : Nat} (hi : H.length ≤ i) : NotAt v i := by
 intro b off m s e
 rcases h.2 with ⟨_, h2⟩ | ⟨_, nm, h3, h4⟩
 ·rw [h2] at e; cases e
 ·rw [h3] at e; cases e
  have := (List.getElem?_eq_some_iff.1 h4).1
  omega
theorem OwnA.fzk {k : Nat} (h : OwnA e sz H v cs n) (hc : ∀ g, fzL (fzG E g k) cs = some (cs, [])) : ∃ ns, fzG E (rep H).get (k + 1) v = some (.sl n cs (n == 0), ns) := by
 obtain ⟨h1, h2⟩ := h
 rw [show (rep H).get = fun i => H[i]? from funext (rep_get _)]
 rcases h2 with ⟨rfl, rfl⟩ | ⟨hne, nm, rfl, hr⟩
 ·have : cs = [] := List.eq_nil_of_length_eq_zero (by omega)
  subst this; exact ⟨[], rfl⟩
 ·have hne' : (n == 0) = false := by simpa using hne
  exact ⟨[nm], by rw [hne']; exact fzG_ownX hr h1 (hc _)⟩
theorem OwnA.fz (h : OwnA e sz H v cs n) (hc : ∀ g, fzL (fzG E g 59) cs = some (cs, [])) : ∃ ns, fzG E (rep H).get fzDeep v = some (.sl n cs (n == 0), ns) := by
 obtain ⟨h1, h2⟩ := h
 rw [show (rep H).get = fun i => H[i]? from funext (rep_get _)]
 rcases h2 with ⟨rfl, rfl⟩ | ⟨hne, nm, rfl, hr⟩
 ·have : cs = [] := List.eq_nil_of_length_eq_zero (by omega)
  subst this; exact ⟨[], rfl⟩
 ·have hne' : (n == 0) = false := by simpa using hne
  exact ⟨[nm], by rw [hne']; exact fzG_ownX (k := 59) hr h1 (hc _)⟩
theorem appP (R : RowT E t e sz by') {nb m : Nat} {fr : Bool} (ha : gO L V a = v) (hb : gO L V b = .own nb 0 m sz) (hrb : H[nb]? = some (.row e xs fr)) (hm : m ≠ 0) (hxs : xs.length = m * sz) (hv : OwnA e sz H v cs n) (hn : n + m ≤ 1000000000) (call : CallTT) (lt : Bool) (ix : Nat) (sl : Option Nat) :
  ∃ H' v', (∀ K : KB, zStep E call ⟨.append t t a b, .push, none, lt, ix, sl⟩ K L V (rep H) = K (v' :: L) V (rep H')) ∧ OwnA e sz H' v' (cs ++ xs) (n + m) ∧ (∀ i o, H[i]? = some o → NotAt v i → H'[i]? = some o) ∧ H.length ≤ H'.length ∧ (∀ i, i < H.length → NotAt v' i) := by
 obtain ⟨h1, h2⟩ := hv
 rcases h2 with ⟨rfl, rfl⟩ | ⟨hne, nm, rfl, hr⟩
 ·have hcs : cs = [] := List.eq_nil_of_length_eq_zero (by omega)
  subst hcs
  refine ⟨H ++ [.row e xs false], .own H.length 0 m sz, fun K => sP_new (append_firstG R ha hb hrb hxs hm (by omega)), ⟨by simp [hxs], .inr ⟨by omega, H.length, by simp, by simp⟩⟩, fun i o h _ => by rw [List.getElem?_append_left (List.getElem?_eq_some_iff.1 h).1]; exact h, by simp, fun i hi b off m s e => by cases e; omega⟩
 ·refine ⟨H.set nm .dead ++ [.row e (cs ++ xs) false], .own H.length 0 (n + m) sz, fun K => sP_app (append_nextG R ha hr h1 hb hrb hxs hm hn), ⟨by simp [hxs, h1, Nat.add_mul], .inr ⟨by omega, H.length, rfl, by
   have := @List.getElem?_concat_length AO (H.set nm .dead) (.row e (cs ++ xs) false)
   simp⟩⟩, fun i o h hi => ?_, by simp, fun i hi b off m s e => by cases e; omega⟩
  rw [List.getElem?_append_left (by rw [List.length_set]; exact (List.getElem?_eq_some_iff.1 h).1), List.getElem?_set_ne (hi _ _ _ _ rfl)]
  exact h
end
end Go.Px
namespace Go.Px
open Go
theorem appW {P : Ans → Prop} {E : Env} {L V : List AV} {H : Heap} {K : KB} {a b : O} {e sz t by' n : Nat} {v : AV} {cs xs : List AV} {call : CallTT} {lt : Bool} {ix : Nat} {sl : Option Nat} (R : RowT E t e sz by') {nb m : Nat} {fr : Bool} (ha : gO L V a = v) (hb : gO L V b = .own nb 0 m sz) (hrb : H[nb]? = some (.row e xs fr)) (hm : m ≠ 0) (hxs : xs.length = m * sz) (hv : OwnA e sz H v cs n) (hn : n + m ≤ 1000000000)
  (hk : ∀ H' nm, H'[nm]? = some (.row e (cs ++ xs) false) → (∀ i o, H[i]? = some o → NotAt v i → H'[i]? = some o) → H.length ≤ H'.length → H.length ≤ nm → P (K (.own nm 0 (n + m) sz :: L) V (rep H'))) :
  P (zStep E call ⟨.append t t a b, .push, none, lt, ix, sl⟩ K L V (rep H)) := by
 obtain ⟨H', v', e1, h1, h2, h3, h4⟩ := appP R ha hb hrb hm hxs hv hn call lt ix sl
 rw [e1]
 obtain ⟨_, ⟨h5, _⟩ | ⟨_, nm, rfl, h6⟩⟩ := h1
 ·omega
 ·exact hk H' nm h6 h2 h3 (Nat.le_of_not_lt fun h => h4 nm h _ _ _ _ rfl rfl)
theorem ownA_own {e sz : Nat} {H : Heap} {nm n : Nat} {cs : List AV} (h : H[nm]? = some (.row e cs false)) (hl : cs.length = n * sz) (hn : n ≠ 0) : OwnA e sz H (.own nm 0 n sz) cs n := ⟨hl, .inr ⟨hn, nm, rfl, h⟩⟩
theorem notAt_own {nm off n sz i : Nat} (h : nm ≠ i) : NotAt (.own nm off n sz) i := fun _ _ _ _ e => by cases e; exact h
theorem notAt_sl {n : Nat} {cs : List AV} {f : Bool} {i : Nat} : NotAt (.sl n cs f) i := fun _ _ _ _ e => by cases e
theorem fz_agg2 {k : Nat} {E : Env} {g : Nat → Option AO} {x y x' y' : AV} {ns ms : List Nat} (h1 : fzG E g k x = some (x', ns)) (h2 : fzG E g k y = some (y', ms)) : fzG E g (k + 1) (.agg [x, y]) = some (.agg [x', y'], ns ++ (ms ++ [])) := by
 simp only [fzG, fzL, h1, h2, Option.bind_eq_bind, Option.bind_some]
 rfl
end Go.Px
namespace Go.Px
open Go
theorem call_fz {E : Env} {GE : Nat → Option ZFn} {LZ : Nat → Option ZLn} {K : Nat} {Y Y' : YE} {f : Nat} {args fargs : List AV} {r' : AV} {T T0 T1 : TH} {a1 : Acc} {ns : List Nat} (hp : E.pure f = true) (h : callZ E GE LZ K Y' (.func f) fargs T0 = some (r', T1, a1)) (hz0 : fzL (fzG E T0.get fzDeep) fargs = some (fargs, [])) (hz : fzL (fzG E T.get fzDeep) args = some (fargs, ns)) :
  callZ E GE LZ K Y (.func f) args T = some (r', if flat r' then T else T.marks ns, ⟨ns ++ ns, [], false⟩) := by
 cases K with
 | zero => cases h
 | succ k =>
  cases hG : GE f with
  | none =>
   have h2 : callZ E GE LZ (k + 1) Y' (.func f) fargs T0 = none := by
    show @Option.rec ZFn (fun _ => Res) none (fun zf => ifR (E.pure f) (callPure E (callZ E GE LZ k) k zf fargs T0) (callRawZ E (callZ E GE LZ k) Y' k zf fargs T0)) (GE f) = _
    rw [hG]
   rw [h2] at h; cases h
  | some zf =>
   have h2 : callZ E GE LZ (k + 1) Y' (.func f) fargs T0 = callPure E (callZ E GE LZ k) k zf fargs T0 := by
    show @Option.rec ZFn (fun _ => Res) none (fun zf => ifR (E.pure f) (callPure E (callZ E GE LZ k) k zf fargs T0) (callRawZ E (callZ E GE LZ k) Y' k zf fargs T0)) (GE f) = _
    rw [hG]; simp only [ifR_eq, hp, if_true]
   rw [h2] at h
   unfold callPure at h
   rw [fzLZ_eq (d := none) (g := fzG E T0.get fzDeep) (fun v c => fzZ_eq E none T0 fzDeep v c), hz0] at h
   simp only [ansB_eq, fzZ_eq E] at h
   cases hb : bodyZ E (callZ E GE LZ k) [] k zf fargs .nil with
   | none => rw [hb] at h; cases h
   | some p =>
    obtain ⟨x, T2⟩ := p
    rw [hb] at h
    simp only at h
    cases hx : fzG E T2.get fzDeep x with
    | none => rw [hx] at h; cases h
    | some q =>
     obtain ⟨y, ms⟩ := q
     rw [hx] at h
     have e : y = r' := by
      simp only [ifR_eq, markZ_eq] at h
      split at h <;> (cases h; rfl)
     subst e
     exact call_pure hG hp hz hb hx
theorem call_fzF {E : Env} {GE : Nat → Option ZFn} {LZ : Nat → Option ZLn} {K : Nat} {Y Y' : YE} {f : Nat} {args fargs : List AV} {r' : AV} {H : Heap} {T0 T1 : TH} {a1 : Acc} {ns : List Nat} (h : callZ E GE LZ K Y' (.func f) fargs T0 = some (r', T1, a1)) (hp : E.pure f = true) (hz0 : ∀ g, fzL (fzG E g fzDeep) fargs = some (fargs, [])) (hz : fzL (fzG E (fun i => H[i]?) fzDeep) args = some (fargs, ns)) (hf : flat r' = true) :
  callZ E GE LZ K Y (.func f) args (rep H) = some (r', rep H, ⟨ns ++ ns, [], false⟩) := by
 rw [call_fz (Y := Y) (T := rep H) hp h (hz0 _) (by rw [show (rep H).get = fun i => H[i]? from funext (rep_get _)]; exact hz), if_pos hf]
theorem call_fzN {E : Env} {GE : Nat → Option ZFn} {LZ : Nat → Option ZLn} {K : Nat} {Y Y' : YE} {f : Nat} {args fargs : List AV} {r' : AV} {H : Heap} {T0 T1 : TH} {a1 : Acc} {ns : List Nat} (h : callZ E GE LZ K Y' (.func f) fargs T0 = some (r', T1, a1)) (hp : E.pure f = true) (hz0 : ∀ g, fzL (fzG E g fzDeep) fargs = some (fargs, [])) (hz : fzL (fzG E (fun i => H[i]?) fzDeep) args = some (fargs, ns)) (hf : flat r' = false) :
  callZ E GE LZ K Y (.func f) args (rep H) = some (r', rep (markAll H ns), ⟨ns ++ ns, [], false⟩) := by
 rw [call_fz (Y := Y) (T := rep H) hp h (hz0 _) (by rw [show (rep H).get = fun i => H[i]? from funext (rep_get _)]; exact hz), if_neg (by simp [hf]), rep_marks]
section
variable {L V : List AV} {T T' : TH} {K : SPK} {x : AV} {acc : Acc} {call : CallTT} {sp : List (Nat × Acc)} {bef : List Nat}
theorem cP_acc {i f : Nat} {args : List O} {vs : List AV} (hv : args.map (gO L V) = vs) (h : call (.func f) vs T = some (x, T', acc)) (ha : acc.idle = false) (hs : spOk bef i acc sp = true) : zCallD call bef i f args .push K sp L V T = K ((i, acc) :: sp) (x :: L) V T' := zCallD_v (hv ▸ h) ha hs
end
end Go.Px
namespace Go.Px
open Go
theorem ends_cellH {E : Env} {L V : List AV} {H : Heap} {o : O} {t nm off e : Nat} {cs : List AV} {fr : Bool} {x r : AV} {ns : List Nat} (ho : gO [] V o = .loc nm off) (hr : H[nm]? = some (.row e cs fr)) (ht : ∃ i, E.ty t = some i ∧ off + i.size ≤ cs.length ∧ mkV i.desc.isAgg ((cs.drop off).take i.size) = some x) (hz : fzG E (fun i => H[i]?) fzDeep x = some (r, ns)) :
  Ends E r (finZ E [.cell o t] L V (rep H)) := ends_cell ho hr ht (by rw [show (rep H).get = fun i => H[i]? from funext (rep_get _)]; exact hz)
end Go.Px
namespace Go.Px
open Go
theorem ends_cl {E : Env} {L V : List AV} {H : Heap} {o : O} {t nm off e : Nat} {cs : List AV} {fr : Bool} {x r : AV} {ns : List Nat} (ho : gO [] V o = .loc nm off) (hr : H[nm]? = some (.row e cs fr)) (ht : ∃ i, E.ty t = some i ∧ Nat.ble (off + i.size) cs.length = true ∧ mkV i.desc.isAgg ((cs.drop off).take i.size) = some x) (hz : fzG E (fun i => H[i]?) fzDeep x = some (r, ns)) :
  Ends E r (finZ E [.cell o t] L V (rep H)) := by
 obtain ⟨i, h1, h2, h3⟩ := ht
 exact ends_cellH ho hr ⟨i, h1, Nat.le_of_ble_eq_true h2, h3⟩ hz
end Go.Px
namespace Go.Px
open Go
theorem vConvX {L V : List AV} {T : TH} {a : O} {k k0 : IntKind} {n m : Int} (ha : gO L V a = .int k0 n) (h : k.wrap n = m) (c : AV → Ans) : vConv k a L V T c = c (.int k m) := by rw [vConv_eq ha, h]
theorem bAVn {b c : Bool} (h : b = c) : AV.bool (!b) = .bool (!c) := by rw [h]
end Go.Px
namespace Go.Px
open Go
theorem call_any {E : Env} {GE : Nat → Option ZFn} {LZ : Nat → Option ZLn} {K : Nat} {Y Y' : YE} {f : Nat} {args : List AV} {r' : AV} {T T0 T1 : TH} {a1 : Acc} (h : callZ E GE LZ K Y' (.func f) args T0 = some (r', T1, a1)) (hp : E.pure f = true) (hz0 : ∀ g, fzL (fzG E g fzDeep) args = some (args, [])) :
  callZ E GE LZ K Y (.func f) args T = some (r', T, ⟨[], [], false⟩) := by
 rw [call_fz (Y := Y) (T := T) hp h (hz0 _) (hz0 _)]
 split <;> rfl
end Go.Px
namespace Go.Px
open Go
section
variable {L V : List AV} {T : TH} {K : KB} {KD : SPK} {sp : List (Nat × Acc)} {g : O} {want : Bool} {d : FD} {i : KB → KB} {iD : SPK → SPK} {l : List AV} {f : KB → KB} {a b : CZ} {kn : KB} {kx : Nat → KB} {kr : KB} {z : Ans} {P : Ans → Prop} {j : Nat} {o : O} {c : O}
theorem zqR (e : f (b kn kx kr) [] V T = z) : zSeq (zReg f) b kn kx kr L V T = z := zSeq_reg.trans e
theorem zqA (e : a (b kn kx kr) kx kr L V T = z) : zSeq a b kn kx kr L V T = z := zSeq_app.trans e
theorem zqK (e : kn L V T = z) : zSkip kn kx kr L V T = z := zSkip_app.trans e
theorem zqH (h : gO L V g = .bool want) (e : iD KD sp L V T = z) : zGD g want d iD KD sp L V T = z := (zGD_hit h).trans e
theorem zqM (h : gO L V g = .bool (!want)) (e : KD sp (putFL d (.tup []) L) (putFV d (.tup []) V) T = z) : zGD g want d iD KD sp L V T = z := (zGD_miss h).trans e
theorem zqS (h : gO L V g = .tup l) (e : KD sp (putFL d (.tup []) L) (putFV d (.tup []) V) T = z) : zGD g want d iD KD sp L V T = z := (zGD_skip h).trans e
theorem zqV (e : K L (V.set j (gO L V o)) T = z) : zV j (vMv o) K L V T = z := (zV_v vMv_eq).trans e
theorem zpR (e : P (f (b kn kx kr) [] V T)) : P (zSeq (zReg f) b kn kx kr L V T) := st zSeq_reg e
theorem zpA (e : P (a (b kn kx kr) kx kr L V T)) : P (zSeq a b kn kx kr L V T) := st zSeq_app e
theorem zpK (e : P (kn L V T)) : P (zSkip kn kx kr L V T) := st zSkip_app e
theorem zpH (h : gO L V g = .bool want) (e : P (iD KD sp L V T)) : P (zGD g want d iD KD sp L V T) := st (zGD_hit h) e
theorem zpM (h : gO L V g = .bool (!want)) (e : P (KD sp (putFL d (.tup []) L) (putFV d (.tup []) V) T)) : P (zGD g want d iD KD sp L V T) := st (zGD_miss h) e
theorem zpS (h : gO L V g = .tup l) (e : P (KD sp (putFL d (.tup []) L) (putFV d (.tup []) V) T)) : P (zGD g want d iD KD sp L V T) := st (zGD_skip h) e
theorem zph (h : gO L V g = .bool want) (e : P (i K L V T)) : P (zG g want d i K L V T) := by
 have : zG g want d i K L V T = i K L V T := by
  simp only [zG, gZ_eq, h, grdZ_eq]
  cases want <;> rfl
 rw [this]; exact e
theorem zpm (h : gO L V g = .bool (!want)) (e : P (K (putFL d (.tup []) L) (putFV d (.tup []) V) T)) : P (zG g want d i K L V T) := by
 have : zG g want d i K L V T = K (putFL d (.tup []) L) (putFV d (.tup []) V) T := by
  simp only [zG, gZ_eq, h, grdZ_eq, putZ_eq]
  cases want <;> rfl
 rw [this]; exact e
theorem zpV (e : P (K L (V.set j (gO L V o)) T)) : P (zV j (vMv o) K L V T) := st (zV_v vMv_eq) e
theorem zpt (h : gO L V c = .bool true) (e : P (a kn kx kr L V T)) : P (zCond c a b kn kx kr L V T) := st (zCond_t h) e
theorem zpf (h : gO L V c = .bool false) (e : P (b kn kx kr L V T)) : P (zCond c a b kn kx kr L V T) := st (zCond_f h) e
end
end Go.Px
namespace Go.Px
open Go Go.ChangeShapes Go.WideShapes Go.RowKit
theorem GrownO.frame {w w' : World} (h : GrownO w w') (p : MemPlace → Prop) : w.keptBut w' p := World.keptBut_mono (fun _ h => h.elim) h.1
theorem GrownO.heap {w w' : World} (h : GrownO w w') (i : Nat) (hi : i < w.heap.size) : w'.heap[i]? = w.heap[i]? := by
 have h1 := h.1.2.2 i hi
 cases ho : w.heap[i]? with
 | none => rw [Array.getElem?_eq_none_iff] at ho; omega
 | some o =>
  cases ho' : w'.heap[i]? with
  | none =>
   have := h.2.2
   rw [Array.getElem?_eq_none_iff] at ho'; omega
  | some o' =>
   rw [ho, ho'] at h1
   cases o with
   | cells c t fr =>
    cases o' with
    | cells c' t' fr' =>
     obtain ⟨rfl, rfl, hs, hj⟩ := h1
     have : c' = c := Array.ext_getElem? (fun j => hj j (fun hf => hf))
     rw [this]
    | _ => cases h1
   | map es ck =>
    cases o' with
    | map es' ck' =>
     rcases h1 with h1 | ⟨rfl, rfl⟩
     ·exact h1.elim
     ·rfl
    | _ => cases h1
   | _ => rw [h1]
theorem GrownO.cell {w w' : World} (h : GrownO w w') {a : Addr} {v : Value} (hc : w.cell? a = some v) : w'.cell? a = some v := by
 have hb := World.block_lt_of_cell? w _ hc
 unfold World.cell? at hc ⊢
 rw [h.heap _ hb]; exact hc
variable {H : Type} {enc : TypeId × Value → H} {P : Program}
theorem post_of_sameO {f : Func} {s : ChangeSpec} {apart fresh handsOn again : Bool} {W W' : World} {args : Array Value} {v : Value} {ds gs : List (DataW H)} {before pa pv : List MemPlace}
  (hW : DataW.Whole enc P f.params.toList s.vars apart W args.toList ds gs before)
  (hres : ∀ (b : Nat) (sp : Nat → Bool) (hd : Bool), DataW.TrodAll enc P W' b sp hd f.resultTypes.toList (v.resultList f.resultTypes.size) (s.fn H (ds ++ gs)).results [])
  (hargs : ∀ sp : Nat → Bool, (∀ p ∈ before, sp p.block = true) → DataW.TrodAll enc P W' 0 sp true f.params.toList args.toList (s.fn H (ds ++ gs)).args pa)
  (hvars : ∀ sp : Nat → Bool, (∀ p ∈ before, sp p.block = true) → DataW.TrodVars enc P W' sp s.vars (s.fn H (ds ++ gs)).vars pv)
  (hps : before = pa ++ pv) (hk : W.keptBut W' (· ∈ before)) (hfz : ∀ a : Addr, a.block < W.heap.size → W'.frozen? a = W.frozen? a)
  (hok : ∀ (j : Nat) (t : TypeId) (r : Value), f.resultTypes[j]? = some t → (v.resultList f.resultTypes.size)[j]? = some r → Value.okWide P W' .any 0 t r) :
  s.post enc P f apart fresh handsOn again W args v W' := by
 have hold : ∀ p ∈ before, (fun b => decide (b < W.heap.size)) p.block = true := fun p hp => by simpa using hW.lt p hp
 have hlt := hW.lt
 refine ⟨ds, gs, before, [], pa, pv, hW, hres _ _ _, hargs _ hold, hvars _ hold, World.keptBut_mono (fun p hp => ⟨hp, ?_⟩) hk, fun _ => ?_⟩
 ·rw [hps, List.mem_append] at hp
  exact Or.inr hp
 ·obtain ⟨_, _, _, _, _, hz, hn⟩ := hW
  refine ⟨hok, _, _, ([] ++ pa) ++ pv, ⟨[] ++ pa, pv, trodAll_append (hargs _ (fun _ _ => rfl)) (hres _ _ _), hvars _ (fun _ _ => rfl), rfl, ?_, ?_⟩, ?_⟩
  ·intro b off hp
   have hp' : MemPlace.cell b off ∈ before := by rw [hps]; simpa using hp
   rw [hfz _ (hlt _ hp')]
   exact hz b off hp'
  ·intro ha
   have := hn ha
   rw [hps] at this
   simpa using this
  ·intro p hp _
   rw [hps]
   simpa using hp
end Go.Px
set_option linter.unusedVariables false
namespace Go.Px
open Go Go.ChangeShapes Go.WideShapes Go.RowKit
def SOf (w : World) : Sett := fun b j => (w.cell? ⟨b, j, none⟩).isSome = true
def Opens {H : Type} (enc : TypeId × Value → H) (P : Program) (w : World) (t : TypeId) (sz : Nat) {X : Type} (ok : X → Prop) (mk : X → List AV) : Prop :=
 ∀ (base : Nat) (spare : Nat → Bool) (held : Bool) (fuel : Nat) (cs : List Value) (x : DataW H × List MemPlace), DataW.trod enc P w base spare held fuel t cs = some x →
  ∃ a : X, ok a ∧ RepL m0 (SOf w) w true cs (mk a) ∧ (∀ y ∈ mk a, one y = true) ∧ (mk a).length = sz
section
variable {H : Type} {enc : TypeId × Value → H} {P : Program} {w : World} {t : TypeId}
theorem repL_app {m : Mu} {S : Sett} {w : World} {nf : Bool} : ∀ {vs vs' : List Value} {xs xs' : List AV}, RepL m S w nf vs xs → RepL m S w nf vs' xs' → RepL m S w nf (vs ++ vs') (xs ++ xs')
 | _, _, _, _, .nil _, h => h
 | _, _, _, _, .cons _ _ _ _ _ h t, h' => .cons _ _ _ _ _ h (repL_app t h')
theorem repL_at {m : Mu} {S : Sett} {w : World} {nf : Bool} : ∀ {vs : List Value} {xs : List AV}, RepL m S w nf vs xs → ∀ {j : Nat} {y : AV}, xs[j]? = some y → ∃ v, vs[j]? = some v ∧ Rep m S w nf v y
 | _, _, .nil _, j, y, h => by simp at h
 | _, _, .cons _ v x vs xs h t, 0, y, hy => by simp at hy; subst hy; exact ⟨v, rfl, h⟩
 | _, _, .cons _ v x vs xs h t, j + 1, y, hy => by
  obtain ⟨v', h1, h2⟩ := repL_at t (j := j) (y := y) (by simpa using hy)
  exact ⟨v', by simpa using h1, h2⟩
theorem exists_list {X : Type} {Q : Nat → X → Prop} : ∀ (n : Nat), (∀ i, i < n → ∃ a, Q i a) → ∃ l : List X, l.length = n ∧ ∀ i a, l[i]? = some a → Q i a
 | 0, _ => ⟨[], rfl, fun i a h => by simp at h⟩
 | n + 1, h => by
  obtain ⟨l, hl, hq⟩ := exists_list n fun i hi => h i (by omega)
  obtain ⟨a, ha⟩ := h n (by omega)
  refine ⟨l ++ [a], by simp [hl], fun i b hb => ?_⟩
  by_cases hi : i < n
  ·rw [List.getElem?_append_left (by omega)] at hb
   exact hq i b hb
  ·rw [List.getElem?_append_right (by omega)] at hb
   have hi2 := (List.getElem?_eq_some_iff.1 hb).1
   simp at hi2
   have : i = n := by omega
   subst this
   simp [hl] at hb
   subst hb; exact ha
theorem flatMap_at {X : Type} {mk : X → List AV} {sz : Nat} : ∀ {l : List X}, (∀ x ∈ l, (mk x).length = sz) → ∀ {k : Nat} {y : AV}, (l.flatMap mk)[k]? = some y → ∃ i j a, k = i * sz + j ∧ j < sz ∧ l[i]? = some a ∧ (mk a)[j]? = some y
 | [], _, k, y, h => by simp at h
 | x :: l, hl, k, y, h => by
  have hx := hl x List.mem_cons_self
  rw [List.flatMap_cons] at h
  by_cases hk : k < sz
  ·rw [List.getElem?_append_left (by omega)] at h
   exact ⟨0, k, x, by omega, hk, rfl, h⟩
  ·rw [List.getElem?_append_right (by omega), hx] at h
   obtain ⟨i, j, a, e, hj, ha, hy⟩ := flatMap_at (fun z hz => hl z (List.mem_cons_of_mem _ hz)) h
   exact ⟨i + 1, j, a, by rw [Nat.succ_mul]; omega, hj, by simpa using ha, hy⟩
end
theorem SOf_cell (w : World) : ∀ b j, SOf w b j → (w.cell? ⟨b, j, none⟩).isSome = true := fun _ _ h => h
theorem trod_grown {H : Type} {enc : TypeId × Value → H} {P : Program} {t : TypeId} (hl : laidOutB P = true) (hr : P.readableRec t = true) (hrow : t < P.types.size) {W W' : World} (hg : GrownO W W') {sp' : Nat → Bool} {v : Value} {d : DataW H} {ps : List MemPlace}
  (h : DataW.Trod enc P W 0 (fun _ => true) true t v d ps) (hlt : ∀ p ∈ ps, p.block < W.heap.size) (hs : ∀ p ∈ ps, sp' p.block = true) : DataW.Trod enc P W' 0 sp' true t v d ps :=
 WideElems.Trod_stays hl hr hrow h (fun p hp => by
  have := hg.heap p.block (hlt p hp)
  cases p <;> simp_all [World.sameAt, World.cell?, MemPlace.block]) hs
end Go.Px
set_option linter.unusedVariables false
namespace Go.Px
open Go Go.ChangeShapes Go.WideShapes Go.RowKit
structure BulkOk {H : Type} (B : DataW H → Nat) : Prop where
 one : ∀ d, 1 ≤ B d
 str : ∀ b : List UInt8, b.length + 1 ≤ B (.lit (.string b))
 slice : ∀ el sp, (el.map B).sum + 1 ≤ B (.slice el sp)
 agg : ∀ l, (l.map B).sum + 1 ≤ B (.agg l)
def OpensB {H : Type} (enc : TypeId × Value → H) (P : Program) (w : World) (B : DataW H → Nat) (t : TypeId) (sz : Nat) {X : Type} (ok : X → Prop) (mk : X → List AV) (mu : X → Nat) : Prop :=
 ∀ (base : Nat) (spare : Nat → Bool) (held : Bool) (fuel : Nat) (cs : List Value) (x : DataW H × List MemPlace), DataW.trod enc P w base spare held fuel t cs = some x →
  ∃ a : X, ok a ∧ mu a ≤ B x.1 ∧ RepL m0 (SOf w) w true cs (mk a) ∧ (∀ y ∈ mk a, one y = true) ∧ (mk a).length = sz
section
variable {H : Type} {enc : TypeId × Value → H} {P : Program} {w : World} {t : TypeId} {B : DataW H → Nat}
theorem opensB_i64 (hB : BulkOk B) {k : IntKind} (ht : P.underlying t = some (.int k)) : OpensB enc P w B t 1 (fun n : Int => (Lit.int k n).wf = true) (fun n => [.int k n]) (fun _ => 1) := by
 intro base spare held fuel cs x h
 obtain ⟨n, rfl, hx, hw⟩ := DataW.trod_int ht h
 exact ⟨n, hw, hB.one _, .cons _ _ _ _ _ (.int _ _ _) (.nil _), by simp [one], rfl⟩
theorem opensB_u64 (hB : BulkOk B) {k : IntKind} (ht : P.underlying t = some (.int k)) (hk : k.min = 0) : OpensB enc P w B t 1 (fun n : Nat => (Lit.int k (n : Int)).wf = true) (fun n => [.int k (n : Int)]) (fun _ => 1) := by
 intro base spare held fuel cs x h
 obtain ⟨n, rfl, _, hw⟩ := DataW.trod_int ht h
 have hn : 0 ≤ n := by simp [Lit.wf, hk] at hw; omega
 obtain ⟨m, rfl⟩ := Int.eq_ofNat_of_zero_le hn
 exact ⟨m, hw, hB.one _, .cons _ _ _ _ _ (.int _ _ _) (.nil _), by simp [one], rfl⟩
theorem opensB_str (hB : BulkOk B) (ht : P.underlying t = some .string) : OpensB enc P w B t 1 (fun s : List Nat => s.length ≤ maxLen ∧ ∀ c ∈ s, c < 256) (fun s => [.str s]) (fun s => s.length + 1) := by
 intro base spare held fuel cs x h
 obtain ⟨s, rfl, hx, hw⟩ := DataW.trod_string ht h
 refine ⟨s.data.toList.map UInt8.toNat, ⟨by rw [List.length_map, Array.length_toList]; exact hw, ?_⟩, ?_, .cons _ _ _ _ _ (.str _ _ _ rfl) (.nil _), by simp [one], rfl⟩
 ·intro c hc
  simp only [List.mem_map] at hc
  obtain ⟨u, _, rfl⟩ := hc
  exact u.toNat_lt
 ·have := hB.str s.data.toList
  rw [hx]
  simpa using this
theorem opensB_struct2 (hB : BulkOk B) {f0 f1 : Field} {X0 X1 : Type} {ok0 : X0 → Prop} {ok1 : X1 → Prop} {mk0 : X0 → List AV} {mk1 : X1 → List AV} {mu0 : X0 → Nat} {mu1 : X1 → Nat} {s0 s1 : Nat} (ht : P.underlying t = some (.struct #[f0, f1])) (h0 : OpensB enc P w B f0.type s0 ok0 mk0 mu0) (h1 : OpensB enc P w B f1.type s1 ok1 mk1 mu1)
  (c0 : P.cellsOf f0.type = s0) (c1 : P.cellsOf f1.type = s1) (ct : P.cellsOf t = s0 + s1) (e0 : f0.offset = 0) (e1 : f1.offset = s0) :
  OpensB enc P w B t (s0 + s1) (fun p : X0 × X1 => ok0 p.1 ∧ ok1 p.2) (fun p => mk0 p.1 ++ mk1 p.2) (fun p => mu0 p.1 + mu1 p.2 + 1) := by
 intro base spare held fuel cs x h
 obtain ⟨y0, y1, n, hx, hl, g0, g1⟩ := trod_struct2 ht h
 obtain ⟨a0, k0, b0, r0, o0, l0⟩ := h0 _ _ _ _ _ _ g0
 obtain ⟨a1, k1, b1, r1, o1, l1⟩ := h1 _ _ _ _ _ _ g1
 rw [e0, c0, List.drop_zero] at r0
 rw [e1, c1] at r1
 have e : cs = cs.take s0 ++ (cs.drop s0).take s1 := by
  rw [List.take_of_length_le (l := cs.drop s0) (by simp; omega), List.take_append_drop]
 refine ⟨(a0, a1), ⟨k0, k1⟩, ?_, ?_, ?_, by simp [l0, l1]⟩
 ·have := hB.agg [y0.1, y1.1]
  rw [hx]
  simp at this ⊢
  omega
 ·rw [e]; exact repL_app r0 r1
 ·intro y hy
  rcases List.mem_append.1 hy with h | h
  ·exact o0 y h
  ·exact o1 y h
theorem opensB_struct3 (hB : BulkOk B) {f0 f1 f2 : Field} {X0 X1 X2 : Type} {ok0 : X0 → Prop} {ok1 : X1 → Prop} {ok2 : X2 → Prop} {mk0 : X0 → List AV} {mk1 : X1 → List AV} {mk2 : X2 → List AV} {mu0 : X0 → Nat} {mu1 : X1 → Nat} {mu2 : X2 → Nat} {s0 s1 s2 : Nat} (ht : P.underlying t = some (.struct #[f0, f1, f2])) (h0 : OpensB enc P w B f0.type s0 ok0 mk0 mu0) (h1 : OpensB enc P w B f1.type s1 ok1 mk1 mu1) (h2 : OpensB enc P w B f2.type s2 ok2 mk2 mu2)
  (c0 : P.cellsOf f0.type = s0) (c1 : P.cellsOf f1.type = s1) (c2 : P.cellsOf f2.type = s2) (ct : P.cellsOf t = s0 + (s1 + s2)) (e0 : f0.offset = 0) (e1 : f1.offset = s0) (e2 : f2.offset = s0 + s1) :
  OpensB enc P w B t (s0 + (s1 + s2)) (fun p : X0 × X1 × X2 => ok0 p.1 ∧ ok1 p.2.1 ∧ ok2 p.2.2) (fun p => mk0 p.1 ++ (mk1 p.2.1 ++ mk2 p.2.2)) (fun p => mu0 p.1 + (mu1 p.2.1 + mu2 p.2.2) + 1) := by
 intro base spare held fuel cs x h
 obtain ⟨y0, y1, y2, n, hx, hl, g0, g1, g2⟩ := Go.Deep.trod_struct3 ht h
 obtain ⟨a0, k0, b0, r0, o0, l0⟩ := h0 _ _ _ _ _ _ g0
 obtain ⟨a1, k1, b1, r1, o1, l1⟩ := h1 _ _ _ _ _ _ g1
 obtain ⟨a2, k2, b2, r2, o2, l2⟩ := h2 _ _ _ _ _ _ g2
 rw [e0, c0, List.drop_zero] at r0
 rw [e1, c1] at r1
 rw [e2, c2] at r2
 have e : cs = cs.take s0 ++ ((cs.drop s0).take s1 ++ (cs.drop (s0 + s1)).take s2) := by
  rw [List.take_of_length_le (l := cs.drop (s0 + s1)) (by simp; omega), ← List.drop_drop, List.take_append_drop, List.take_append_drop]
 refine ⟨(a0, a1, a2), ⟨k0, k1, k2⟩, ?_, ?_, ?_, by simp [l0, l1, l2]⟩
 ·have := hB.agg [y0.1, y1.1, y2.1]
  rw [hx]
  simp at this ⊢
  omega
 ·rw [e]; exact repL_app r0 (repL_app r1 r2)
 ·intro y hy
  rcases List.mem_append.1 hy with h | h
  ·exact o0 y h
  ·rcases List.mem_append.1 h with h | h
   ·exact o1 y h
   ·exact o2 y h
theorem sum_le {X Y : Type} {f : X → Nat} {g : Y → Nat} : ∀ {l : List X} {m : List Y}, l.length ≤ m.length → (∀ i x, l[i]? = some x → ∃ h : i < m.length, f x ≤ g m[i]) → (l.map f).sum ≤ (m.map g).sum
 | [], m, _, _ => by simp
 | x :: l, [], h, _ => by simp at h
 | x :: l, y :: m, h, hq => by
  have ih := sum_le (l := l) (m := m) (f := f) (g := g) (by simpa using h) fun i z hi => by
   obtain ⟨h1, h2⟩ := hq (i + 1) z (by simpa using hi)
   exact ⟨by simpa using h1, by simpa using h2⟩
  obtain ⟨h1, h2⟩ := hq 0 x rfl
  simp only [List.map_cons, List.sum_cons]
  have : f x ≤ g y := by simpa using h2
  omega
theorem opensB_slice (hB : BulkOk B) {e : TypeId} {X : Type} {ok : X → Prop} {mk : X → List AV} {mu : X → Nat} {sz : Nat} (ht : P.underlying t = some (.slice e)) (hc : P.cellsOf e = sz) (hsz : 0 < sz) (h : OpensB enc P w B e sz ok mk mu) :
  OpensB enc P w B t 1 (fun p : List X × Bool => p.1.length ≤ maxLen ∧ ∀ x ∈ p.1, ok x) (fun p => [.sl p.1.length (p.1.flatMap mk) p.2]) (fun p => (p.1.map mu).sum + 1) := by
 intro base spare held fuel cs x hx
 rcases DataW.trod_slice ht hx with ⟨rfl, _⟩ | ⟨a, len, cap, elems, rest, n, _, rfl, hxe, hb, hl, hm, hlen, hel, _, _⟩
 ·exact ⟨([], true), ⟨by simp, by simp⟩, hB.one _, .cons _ _ _ _ _ (.nilsl _ _) (.nil _), by simp [one], rfl⟩
 rw [hc] at hel
 obtain ⟨l, hll, hq⟩ := exists_list (Q := fun i (x : X) => (∃ hi : i < elems.length, mu x ≤ B elems[i].1) ∧ ok x ∧ (mk x).length = sz ∧ ∀ j y, (mk x)[j]? = some y → ∃ v, w.cell? ((a.add (i * sz)).add j) = some v ∧ Rep m0 (SOf w) w true v y ∧ one y = true) len (fun i hi => by
  have h1 := hel i hi
  rw [List.getElem?_eq_getElem (by omega), Option.bind_eq_some_iff] at h1
  obtain ⟨cs', hcs, hy⟩ := h1
  obtain ⟨_, hcl, hcc⟩ := World.cells?_some hcs
  obtain ⟨b, k0, b0, r0, o0, l0⟩ := h _ _ _ _ _ _ hy
  refine ⟨b, ⟨by omega, b0⟩, k0, l0, fun j y hj => ?_⟩
  obtain ⟨v, hv, hr⟩ := repL_at r0 hj
  have hjl := (List.getElem?_eq_some_iff.1 hj).1
  exact ⟨v, by rw [hcc j (by omega), hv], hr, o0 y (List.mem_of_getElem? hj)⟩)
 have hok : ∀ x ∈ l, ok x ∧ (mk x).length = sz := fun x hx => by
  obtain ⟨i, hi⟩ := List.getElem?_of_mem hx
  exact ⟨(hq i x hi).2.1, (hq i x hi).2.2.1⟩
 refine ⟨(l, false), ⟨by simp only; omega, fun x hx => (hok x hx).1⟩, ?_, ?_, by simp [one], rfl⟩
 ·have hs : (l.map mu).sum ≤ (elems.map fun y => B y.1).sum := sum_le (by omega) fun i x hi => by
   obtain ⟨⟨h1, h2⟩, _⟩ := hq i x hi
   exact ⟨h1, h2⟩
  have h2 := hB.slice (elems.map (·.1)) (rest.map (·.1))
  rw [List.map_map] at h2
  rw [hxe]
  simp only [Function.comp_def] at h2
  simp only
  omega
 refine .cons _ _ _ _ _ ?_ (.nil _)
 simp only
 rw [hll]
 refine .sl _ _ _ _ _ _ hl (fun h => by cases h) ?_
 by_cases hz : l = []
 ·subst hz; exact .nil _
 ·obtain ⟨x0, hx0⟩ : ∃ x0, l[0]? = some x0 := ⟨l[0]'(List.length_pos_iff.2 hz), by simp [List.length_pos_iff.2 hz]⟩
  have h0 := hq 0 x0 hx0
  obtain ⟨y0, hy0⟩ : ∃ y0, (mk x0)[0]? = some y0 := ⟨(mk x0)[0]'(by omega), by simp [show 0 < (mk x0).length by omega]⟩
  obtain ⟨v0, hv0, _⟩ := h0.2.2.2 0 y0 hy0
  have hsp : a.spot = none := by simpa [Addr.add] using World.cell?_spot hv0
  obtain ⟨b, off, spot⟩ := a
  simp only at hsp; subst hsp
  refine Row.of_get fun i y hy => ?_
  obtain ⟨i1, j, x1, rfl, hj, hx1, hy1⟩ := flatMap_at (fun x hx => (hok x hx).2) hy
  obtain ⟨v, hv, hr, ho⟩ := (hq i1 x1 hx1).2.2.2 j y hy1
  rw [add_plain, add_plain] at hv
  rw [show off + (i1 * sz + j) = off + i1 * sz + j by omega]
  exact ⟨by unfold SOf; rw [hv]; rfl, v, hv, hr, ho⟩
theorem opensB_arg {fs : Array Field} {r : Reach} {W : World} {sz : Nat} {X : Type} {ok : X → Prop} {mk : X → List AV} {mu : X → Nat} (ht : P.underlying t = some (.struct fs)) (h : OpensB enc P w B t sz ok mk mu) {v : Value} {base base2 : Nat} {sp : Nat → Bool} {held : Bool} {d : DataW H} {ps : List MemPlace}
  (hv : Value.okWide P w r base2 t v) (hT : DataW.Trod enc P w base sp held t v d ps) : ∃ a : X, ok a ∧ mu a ≤ B d ∧ Rep m0 (SOf w) w true v (.agg (mk a)) := by
 obtain ⟨n, hn⟩ := hT
 simp only [Value.okWide, ht] at hv
 obtain ⟨cs, rfl, _, _⟩ := hv
 obtain ⟨a, k0, b0, r0, o0, l0⟩ := h _ _ _ _ _ _ hn
 refine ⟨a, k0, b0, ?_⟩
 have := Rep.agg (m := m0) (S := SOf w) (w := w) true cs.toList (mk a) (by simpa [Value.cells] using r0) o0
 simpa using this
end
end Go.Px
