/- The abstract machine, part 4: PzSz PzSw PxIs PxSp PxSo PzRw PxPo PzOp. -/
import Derived.Test.YtpdgbkmpcahjjaaPb3
import Derived.Shelf.SlSortCmp.WholeK
import Derived.ChangeSame
import Derived.RowKit3
import Derived.ChangeArms
import Derived.Deep.Strs
import Derived.WideKeyArgs
set_option linter.unusedVariables false
set_option linter.unusedSimpArgs false
namespace Go.Px
open Go
section
variable {E : Env} {L V : List AV} {T : TH} {K : KB} {x : AV} {acc : Acc}
theorem zL_v {sz : Nat} {agg : Bool} {o : O} (h : ∀ c, wLoad sz agg o L V T c = c x acc) : zL sz agg o K L V T = K (x :: L) V T := by
  show zDstW .push _ K L V T = _
  simp only [zDstW, h, putZ_eq]; rfl
theorem zDstW_v {d : FD} {w : WZ} (h : ∀ c, w L V T c = c x acc) : zDstW d w K L V T = K (putFL d x L) (putFV d x V) T := by
  simp only [zDstW, h, putZ_eq]
theorem wLoad_loc {sz : Nat} {agg : Bool} {o : O} {H : Heap} {nm off : Nat} {e : TypeId} {cs : List AV} {fr : Bool} (ho : gO L V o = .loc nm off) (hr : H[nm]? = some (.row e cs fr)) (hl : off + sz ≤ cs.length) (hx : mkV agg ((cs.drop off).take sz) = some x) (c : AV → Acc → Ans) :
    wLoad sz agg o L V (rep H) c = c x (Acc.read nm) := by
  simp only [wLoad, gZ_eq, ho, ptrCZ_eq, rowT_eq, rep_get, hr, dropZ_eq, takeZ_eq, mkVZ_eq]
  rw [if_pos (by simp; omega)]
  simp only [hx]
theorem wLoad_ref {sz : Nat} {agg : Bool} {o : O} {cs : List AV} (ho : gO L V o = .ref cs) (hl : sz ≤ cs.length) (hx : mkV agg (cs.take sz) = some x) (c : AV → Acc → Ans) :
    wLoad sz agg o L V T c = c x Acc.none := by
  simp only [wLoad, gZ_eq, ho, ptrCZ_eq, takeZ_eq, mkVZ_eq]
  rw [if_pos hl]
  simp only [hx]
theorem vIndexAddr_own {sz : Nat} {a b : O} {nm off n : Nat} {k : IntKind} {i : Nat} (ha : gO L V a = .own nm off n sz) (hb : gO L V b = .int k i) (hi : i < n) (c : AV → Ans) : vIndexAddr sz a b L V T c = c (.loc nm (off + i * sz)) := by
  simp only [vIndexAddr, gZ_eq, ha, hb, intCZ_eq, slCZ_eq, inZ_eq, ifZ_eq, Nat.beq_refl, if_true, natZ_eq]
  rw [if_pos (by omega)]
  simp
theorem vIndexAddr_sl {sz : Nat} {a b : O} {n : Nat} {cs : List AV} {f : Bool} {k : IntKind} {i : Nat} (ha : gO L V a = .sl n cs f) (hb : gO L V b = .int k i) (hi : i < n) (hc : i * sz < cs.length) (c : AV → Ans) : vIndexAddr sz a b L V T c = c (.ref (cs.drop (i * sz))) := by
  simp only [vIndexAddr, gZ_eq, ha, hb, intCZ_eq, slCZ_eq, inZ_eq, dropZ_eq, consZ_eq]
  rw [if_pos (by omega)]
  simp only [Int.toNat_natCast, Nat.mul_eq]
  rw [if_pos (by simp; omega)]
theorem vFieldAddr_loc {off : Nat} {a : O} {nm o : Nat} (ha : gO L V a = .loc nm o) (c : AV → Ans) : vFieldAddr off a L V T c = c (.loc nm (o + off)) := by
  simp only [vFieldAddr, gZ_eq, ha, ptrCZ_eq, natZ_eq]; rfl
theorem vFieldAddr_ref {off : Nat} {a : O} {cs : List AV} (ha : gO L V a = .ref cs) (hc : off < cs.length) (c : AV → Ans) : vFieldAddr off a L V T c = c (.ref (cs.drop off)) := by
  simp only [vFieldAddr, gZ_eq, ha, ptrCZ_eq, dropZ_eq, consZ_eq]
  rw [if_pos (by simp; omega)]
theorem vNot_eq {a : O} {b : Bool} (ha : gO L V a = .bool b) (c : AV → Ans) : vNot a L V T c = c (.bool (!b)) := by
  simp only [vNot, gZ_eq, ha, boolCZ_eq]
  cases b <;> rfl
theorem vPick_eq {p a b : O} {q : Bool} (hp : gO L V p = .bool q) (c : AV → Ans) : vPick p a b L V T c = c (if q then gO L V a else gO L V b) := by
  simp only [vPick, gZ_eq, hp, boolCZ_eq]
  cases q <;> rfl
theorem vLenL_own {a : O} {nm off n sz : Nat} (ha : gO L V a = .own nm off n sz) (c : AV → Ans) : vLenL a L V T c = c (.int .i64 n) := by
  simp only [vLenL, gZ_eq, ha, slCZ_eq]; rfl
end
theorem spOk_nil {bef : List Nat} {i : Nat} {acc : Acc} : spOk bef i acc [] = true := rfl
theorem spOk_bef {bef : List Nat} {i j : Nat} {acc a : Acc} {sp : List (Nat × Acc)} (h : (bef.getD i 0).testBit j = true) (t : spOk bef i acc sp = true) : spOk bef i acc ((j, a) :: sp) = true := by
  unfold spOk at *
  rw [List.all_cons, t, h]; rfl
theorem spOk_apart {bef : List Nat} {i j : Nat} {acc a : Acc} {sp : List (Nat × Acc)} (h : a.meets acc = false) (t : spOk bef i acc sp = true) : spOk bef i acc ((j, a) :: sp) = true := by
  unfold spOk at *
  rw [List.all_cons, t]; simp [h]
section
variable {E : Env} {L V : List AV} {T : TH} {H : Heap} {K : SPK} {x : AV} {acc : Acc} {sp : List (Nat × Acc)} {bef : List Nat}
theorem accZ_idle {i : Nat} {k : List (Nat × Acc) → Ans} (h : acc.idle = true) : accZ bef i acc sp k = k sp := by
  rw [accZ, idleZ_eq, if_pos h]
theorem accZ_ok {i : Nat} {k : List (Nat × Acc) → Ans} (h : acc.idle = false) (hs : spOk bef i acc sp = true) : accZ bef i acc sp k = k ((i, acc) :: sp) := by
  rw [accZ, idleZ_eq, if_neg (by simp [h]), ifZ_eq, if_pos hs]
theorem zDreg_eq {n : Nat} {f : Nat → SPK → SPK} {kn : KB} {kx : Nat → KB} {kr : KB} : zDreg n f kn kx kr L V (rep H) = f H.length (fun _ => kn) [] [] V (rep (H ++ List.replicate n .dead)) := by
  simp only [zDreg, lenT_eq, deadsT_eq, rep_deads, rep_n]
theorem zPD_v {v : VZ} (h : ∀ c, v L V T c = c x) : zPD v K sp L V T = K sp (x :: L) V T := by
  show zDst .push v (K sp) L V T = _
  simp only [zDst, h, putZ_eq]; rfl
theorem zVD_v {v : VZ} {j : Nat} (h : ∀ c, v L V T c = c x) : zVD j v K sp L V T = K sp L (V.set j x) T := by
  show zDst (.var j) v (K sp) L V T = _
  simp only [zDst, h, putZ_eq]; rfl
theorem zLD_idle {i sz : Nat} {agg : Bool} {o : O} (h : ∀ c, wLoad sz agg o L V T c = c x acc) (ha : acc.idle = true) : zLD bef i sz agg o K sp L V T = K sp (x :: L) V T := by
  show zDstWD bef i .push _ K sp L V T = _
  simp only [zDstWD, h, putZ_eq, accZ_idle ha]; rfl
theorem zLD_v {i sz : Nat} {agg : Bool} {o : O} (h : ∀ c, wLoad sz agg o L V T c = c x acc) (ha : acc.idle = false) (hs : spOk bef i acc sp = true) : zLD bef i sz agg o K sp L V T = K ((i, acc) :: sp) (x :: L) V T := by
  show zDstWD bef i .push _ K sp L V T = _
  simp only [zDstWD, h, putZ_eq, accZ_ok ha hs]; rfl
theorem zCallD_idle {call : CallTT} {i f : Nat} {args : List O} {d : FD} {T' : TH} (h : call (.func f) (args.map (gO L V)) T = some (x, T', acc)) (ha : acc.idle = true) : zCallD call bef i f args d K sp L V T = K sp (putFL d x L) (putFV d x V) T' := by
  simp only [zCallD, gZs_eq, h, ansC_eq, putZ_eq, accZ_idle ha]
theorem zGD_hit {g : O} {want : Bool} {d : FD} {i : SPK → SPK} (h : gO L V g = .bool want) : zGD g want d i K sp L V T = i K sp L V T := by
  simp only [zGD, gZ_eq, h, grdZ_eq]
  cases want <;> rfl
theorem zGD_miss {g : O} {want : Bool} {d : FD} {i : SPK → SPK} (h : gO L V g = .bool (!want)) : zGD g want d i K sp L V T = K sp (putFL d (.tup []) L) (putFV d (.tup []) V) T := by
  simp only [zGD, gZ_eq, h, grdZ_eq, putZ_eq]
  cases want <;> rfl
theorem zGD_skip {g : O} {want : Bool} {d : FD} {i : SPK → SPK} {l : List AV} (h : gO L V g = .tup l) : zGD g want d i K sp L V T = K sp (putFL d (.tup []) L) (putFV d (.tup []) V) T := by
  simp only [zGD, gZ_eq, h, grdZ_eq, putZ_eq]
variable {call : CallTT} {fo : FO} {a : Acc} {o : AO} {n0 : Nat}
theorem zStepD_val (hg : wantedF fo.g L V = some true) (he : evalFA E L V H fo.fa = some (.val x, a)) (ha : a.idle = true) : zStepD E call bef n0 fo K sp L V (rep H) = K sp (putFL fo.dst x L) (putFV fo.dst x V) (rep H) := by
  have he' : evalFT E L V (rep H) fo.fa = some (.val x, a) := by rw [evalFT_ok, he]
  cases hl : fo.light <;> simp [zStepD, runFT, hg, he', primEff, effT, putF_eq, fV_eq, fW_eq, hl, accZ_idle ha]
theorem zStepD_valR (hg : wantedF fo.g L V = some true) (he : evalFA E L V H fo.fa = some (.val x, a)) (ha : a.idle = false) (hs : spOk bef fo.idx a sp = true) : zStepD E call bef n0 fo K sp L V (rep H) = K ((fo.idx, a) :: sp) (putFL fo.dst x L) (putFV fo.dst x V) (rep H) := by
  have he' : evalFT E L V (rep H) fo.fa = some (.val x, a) := by rw [evalFT_ok, he]
  cases hl : fo.light <;> simp [zStepD, runFT, hg, he', primEff, effT, putF_eq, fV_eq, fW_eq, hl, accZ_ok ha hs]
theorem zStepD_new {r : Nat} {f : Nat → AV} (hg : wantedF fo.g L V = some true) (hr : fo.sl = some r) (he : evalFA E L V H fo.fa = some (.new o f, a)) (ha : (a.add (some (n0 + r))).idle = false) (hs : spOk bef fo.idx (a.add (some (n0 + r))) sp = true) :
    zStepD E call bef n0 fo K sp L V (rep H) = K ((fo.idx, a.add (some (n0 + r))) :: sp) (putFL fo.dst (f (n0 + r)) L) (putFV fo.dst (f (n0 + r)) V) (rep (H.set (n0 + r) o)) := by
  have he' : evalFT E L V (rep H) fo.fa = some (.new o f, a) := by rw [evalFT_ok, he]
  simp [zStepD, runFT, hg, he', primEff, effT, putF_eq, fV_eq, fO_eq, layT_eq, FO.slot, hr, rep_lay, layNew, accZ_ok ha hs]
theorem zStepD_put {nm : Nat} (hg : wantedF fo.g L V = some true) (he : evalFA E L V H fo.fa = some (.put nm o x, a)) (ha : a.idle = false) (hs : spOk bef fo.idx a sp = true) :
    zStepD E call bef n0 fo K sp L V (rep H) = K ((fo.idx, a) :: sp) (putFL fo.dst x L) (putFV fo.dst x V) (rep (H.set nm o)) := by
  have he' : evalFT E L V (rep H) fo.fa = some (.put nm o x, a) := by rw [evalFT_ok, he]
  simp [zStepD, runFT, hg, he', primEff, effT, putF_eq, fV_eq, fO_eq, setT_eq, rep_set, accZ_ok ha hs]
theorem zStepD_app {nm n sz r : Nat} (hg : wantedF fo.g L V = some true) (hr : fo.sl = some r) (he : evalFA E L V H fo.fa = some (.app nm o n sz, a)) (ha : (a.add (some (n0 + r))).idle = false) (hs : spOk bef fo.idx (a.add (some (n0 + r))) sp = true) :
    zStepD E call bef n0 fo K sp L V (rep H) = K ((fo.idx, a.add (some (n0 + r))) :: sp) (putFL fo.dst (.own (n0 + r) 0 n sz) L) (putFV fo.dst (.own (n0 + r) 0 n sz) V) (rep ((H.set nm .dead).set (n0 + r) o)) := by
  have he' : evalFT E L V (rep H) fo.fa = some (.app nm o n sz, a) := by rw [evalFT_ok, he]
  simp [zStepD, runFT, hg, he', primEff, effT, putF_eq, fV_eq, fO_eq, setT_eq, layT_eq, FO.slot, hr, rep_set, rep_lay, layNew, accZ_ok ha hs]
end
section
variable {E : Env} {L V : List AV} {H : Heap} {K : KB} {x : AV} {call : CallTT} {fo : FO} {a : Acc}
theorem zStep_told {f nm : Nat} {ar9 : List AV} {p : Heap → Option (Eff × Acc)} {o : AO} {a2 : Acc} (hg : wantedF fo.g L V = some true) (he : evalFA E L V H fo.fa = some (.call (.func f) ar9, a)) (hp : E.prim f ar9 = some p) (hq : p H = some (.put nm o x, a2)) :
    zStep E call fo K L V (rep H) = K (putFL fo.dst x L) (putFV fo.dst x V) (rep (H.set nm o)) := by
  have he' : evalFT E L V (rep H) fo.fa = some (.call (.func f) ar9, a) := by rw [evalFT_ok, he]
  simp [zStep, runFT, hg, he', primEff, fS_eq, hp, hq, tl_rep, effT, putF_eq, fV_eq, fO_eq, setT_eq, rep_set]
theorem zStep_yield {l : Nat} {ar9 : List AV} {T' : TH} {a' : Acc} (hg : wantedF fo.g L V = some true) (he : evalFA E L V H fo.fa = some (.call (.yield l) ar9, a)) (hc : call (.yield l) ar9 (rep H) = some (x, T', a')) :
    zStep E call fo K L V (rep H) = K (putFL fo.dst x L) (putFV fo.dst x V) T' := by
  have he' : evalFT E L V (rep H) fo.fa = some (.call (.yield l) ar9, a) := by rw [evalFT_ok, he]
  simp [zStep, runFT, hg, he', primEff, effT, putF_eq, fS_eq, hc]
end
end Go.Px
set_option linter.unusedVariables false
set_option linter.unusedSimpArgs false
namespace Go.Px
open Go
section
variable {E : Env} {GE : Nat → Option ZFn} {LZ : Nat → Option ZLn} {k : Nat} {Y : YE} {f : Nat} {zf : ZFn} {args : List AV} {r : AV} {T T2 : TH}
theorem call_pure {fargs : List AV} {ns ns2 : List Nat} {r' : AV} (hG : GE f = some zf) (hp : E.pure f = true) (hz : fzL (fzG E T.get fzDeep) args = some (fargs, ns)) (hb : bodyZ E (callZ E GE LZ k) [] k zf fargs (rep []) = some (r, T2)) (hr : fzG E T2.get fzDeep r = some (r', ns2)) :
    callZ E GE LZ (k + 1) Y (.func f) args T = some (r', if flat r' then T else T.marks ns, ⟨ns ++ ns, [], false⟩) := by
  show @Option.rec ZFn (fun _ => Res) none (fun zf => ifR (E.pure f) (callPure E (callZ E GE LZ k) k zf args T) (callRawZ E (callZ E GE LZ k) Y k zf args T)) (GE f) = _
  rw [hG]
  simp only [ifR_eq, hp, if_true]
  unfold callPure
  rw [fzLZ_eq (d := none) (g := fzG E T.get fzDeep) (fun v c => fzZ_eq E none T fzDeep v c), hz]
  simp only [ansB_eq]
  rw [show (TH.nil) = rep [] from rfl, hb]
  simp only [fzZ_eq E, hr, ifR_eq, markZ_eq]
  split <;> rfl
theorem call_flat (hG : GE f = some zf) (hp : E.pure f = true) (hz : ∀ g, fzL (fzG E g fzDeep) args = some (args, [])) (hb : bodyZ E (callZ E GE LZ k) [] k zf args (rep []) = some (r, T2)) (hr : ∀ g, fzG E g fzDeep r = some (r, [])) (hf : flat r = true) :
    callZ E GE LZ (k + 1) Y (.func f) args T = some (r, T, ⟨[], [], false⟩) := by
  rw [call_pure hG hp (hz _) hb (hr _), if_pos hf]; rfl
theorem call_raw (hG : GE f = some zf) (hp : E.pure f = false) (hb : bodyZ E (callZ E GE LZ k) Y k zf args T = some (r, T2)) :
    ∃ a, callZ E GE LZ (k + 1) Y (.func f) args T = some (r, T2, a) := by
  refine ⟨rawAcc T.tl T2.tl, ?_⟩
  show @Option.rec ZFn (fun _ => Res) none (fun zf => ifR (E.pure f) (callPure E (callZ E GE LZ k) k zf args T) (callRawZ E (callZ E GE LZ k) Y k zf args T)) (GE f) = _
  rw [hG]
  simp only [ifR_eq, hp]
  unfold callRawZ
  simp only [ansB_eq, hb]; rfl
theorem call_round {l : Nat} {d : LD} {zl : ZLn} (hY : YE.at Y l = some d) (hL : LZ d.id = some zl) (h : ∃ a, roundZ (callZ E GE LZ k) Y k l zl d.V args T = some (r, T2, a)) :
    ∃ a, callZ E GE LZ (k + 1) Y (.yield l) args T = some (r, T2, a) := by
  obtain ⟨a, h⟩ := h
  refine ⟨a, ?_⟩
  show @Option.rec LD (fun _ => Res) none (fun d => @Option.rec ZLn (fun _ => Res) none (fun zl => roundZ (callZ E GE LZ k) Y k l zl d.V args T) (LZ d.id)) (YE.at Y l) = _
  rw [hY]
  show @Option.rec ZLn (fun _ => Res) none (fun zl => roundZ (callZ E GE LZ k) Y k l zl d.V args T) (LZ d.id) = _
  rw [hL]; exact h
end
theorem round_eq {cy : CallYT} {Y : YE} {k l : Nat} {zl : ZLn} {V args : List AV} {H H1 H2 : Heap} {V1 : List AV} {pd pd1 pd2 : Option Code} {tm tm1 tm2 : List AV} {ps ps1 ps2 : List Nat} {a b a1 b1 a2 b2 : Code} {s2 : LoopState}
    (hl : H[l]? = some (.loop .ready pd tm ps a b)) (hn : args.length = zl.ps.length)
    (hasg : ∀ kn kx kr, ∃ L1, zl.asg cy Y k kn kx kr [] (setV V zl.ps args) (rep H) = kn L1 V1 (rep H1)) (hl1 : H1[l]? = some (.loop .ready pd1 tm1 ps1 a1 b1))
    (hbody : ∀ kn kx kr, ∃ L2 V2, zl.body cy Y k kn kx kr [] V1 (rep (H1.set l (.loop .busy pd1 tm1 ps1 a1 b1))) = kn L2 V2 (rep H2)) (hl2 : H2[l]? = some (.loop s2 pd2 tm2 ps2 a2 b2)) :
    ∃ acc, roundZ cy Y k l zl V args (rep H) = some (.bool true, rep (H2.set l (.loop .ready none tm2 ps2 a2 b2)), acc) := by
  unfold roundZ
  simp only [rep_get, hl, hn, ne_eq, not_true, if_false, fS_eq]
  have e1 := fun kn kx kr => (hasg kn kx kr).choose_spec
  rw [e1]
  simp only [rep_get, hl1, setT_eq, rep_set]
  have e2 := fun kn kx kr => (hbody kn kx kr).choose_spec.choose_spec
  rw [e2]
  simp only [endR, rep_get, hl2, setT_eq, rep_set, jumpOf, Option.isNone_none, if_true, ansB_eq]
  exact ⟨_, rfl⟩
theorem zRange_eq {cy : CallYT} {Y : YE} {f : O} {id : Nat} {caps mk : List (Option O)} {ps : List Nat} {asg body : Code} {kn : KB} {kx : Nat → KB} {kr : KB} {L V : List AV} {H H2 : Heap} {g : Nat} {cs : List AV} {r : AV} {ac : Acc} {tm2 : List AV} {ps2 : List Nat} {a2 b2 : Code}
    (hf : gO L V f = .clo g cs) (hc : cy (⟨H.length, id, caps.map (gM L V)⟩ :: Y) (.func g) (.yield H.length :: cs) (rep (H ++ [.loop .ready none (mk.map (gM L V)) ps asg body])) = some (r, rep H2, ac))
    (h2 : H2[H.length]? = some (.loop .ready none tm2 ps2 a2 b2)) :
    zRange cy Y f id caps mk ps asg body kn kx kr L V (rep H) = kn L V (rep (H2.set H.length (.loop .exhausted none tm2 ps2 a2 b2))) := by
  unfold zRange
  simp only [gZ_eq, hf, cloCZ, lenT_eq, rep_n, gMsZ_eq, pushT_eq, ← rep_push, ansC_eq, hc, endZ, rep_get, h2, setT_eq, rep_set]
  rfl
end Go.Px
set_option linter.unusedVariables false
set_option linter.unusedSimpArgs false
namespace Go.Px
open Go Go.Lib Go.RowKit
def sayV (q : List AV → Option AV) (args : List AV) : Option (Heap → Option (Eff × Acc)) := (q args).map fun r _ => some (.val r, Acc.none)
section
variable {P : Program} {f : Nat}
def isQ (t : TypeId) : List AV → Option AV
  | [.nilIface, .iface u (.int .i64 _)] => if Nat.beq u t then some (.bool false) else none
  | [.iface v (.int .i64 n), .iface u (.int .i64 k)] => if Nat.beq u t && Nat.beq v t then some (.bool (n == k)) else none
  | _ => none
end
end Go.Px
set_option linter.unusedVariables false
set_option linter.unusedSimpArgs false
namespace Go.Px
open Go Go.Lib Go.RowKit
abbrev Spot := Nat × Int
def farN (f a : Nat) : Nat := (a + (18446744073709551616 - f)) % 18446744073709551616
def leS (f : Nat) (x y : Spot) : Bool := if Nat.blt (farN f x.1) (farN f y.1) then true else if Nat.beq (farN f x.1) (farN f y.1) then decide (x.2 ≤ y.2) else false
def insS (f : Nat) (s : Spot) : List Spot → List Spot
  | [] => [s]
  | x :: l => if leS f x s then x :: insS f s l else s :: x :: l
def sortS (f : Nat) (l : List Spot) : List Spot := l.foldl (fun acc s => insS f s acc) []
def spotCells : List Spot → List AV
  | [] => []
  | (a, n) :: l => .int .u64 (Int.ofNat a) :: .int .i64 n :: spotCells l
def spotsOf : List AV → Option (List Spot)
  | [] => some []
  | .int k1 (.ofNat a) :: .int k2 n :: l => if Nat.beq (kcode k1) (kcode .u64) && Nat.beq (kcode k2) (kcode .i64) && Nat.blt a 18446744073709551616 then (spotsOf l).map ((a, n) :: ·) else none
  | _ => none
theorem leS_total (f : Nat) (x y : Spot) : leS f x y = true ∨ leS f y x = true := by
  unfold leS
  simp only [Nat.blt_eq, Nat.beq_eq]
  rcases Nat.lt_trichotomy (farN f x.1) (farN f y.1) with h | h | h
  · left; rw [if_pos h]
  · rw [h]; simp; omega
  · right; rw [if_pos h]
theorem leS_trans (f : Nat) {x y z : Spot} (h1 : leS f x y = true) (h2 : leS f y z = true) : leS f x z = true := by
  unfold leS at *
  simp only [Nat.blt_eq, Nat.beq_eq] at *
  by_cases a : farN f x.1 < farN f z.1
  · rw [if_pos a]
  · rw [if_neg a]
    by_cases b : farN f x.1 < farN f y.1
    · by_cases c : farN f y.1 < farN f z.1
      · omega
      · rw [if_neg c] at h2
        by_cases d : farN f y.1 = farN f z.1
        · omega
        · rw [if_neg d] at h2; cases h2
    · rw [if_neg b] at h1
      by_cases b' : farN f x.1 = farN f y.1
      · rw [if_pos b'] at h1
        by_cases c : farN f y.1 < farN f z.1
        · omega
        · rw [if_neg c] at h2
          by_cases d : farN f y.1 = farN f z.1
          · rw [if_pos d] at h2
            rw [if_pos (by omega)]
            simp at h1 h2 ⊢; omega
          · rw [if_neg d] at h2; cases h2
      · rw [if_neg b'] at h1; cases h1
theorem farN_inj {f a b : Nat} (hf : f < 18446744073709551616) (ha : a < 18446744073709551616) (hb : b < 18446744073709551616) (h : farN f a = farN f b) : a = b := by
  unfold farN at h; omega
theorem leS_anti {f : Nat} (hf : f < 18446744073709551616) {x y : Spot} (hx : x.1 < 18446744073709551616) (hy : y.1 < 18446744073709551616) (h1 : leS f x y = true) (h2 : leS f y x = true) : x = y := by
  unfold leS at *
  simp only [Nat.blt_eq, Nat.beq_eq] at *
  by_cases a : farN f x.1 < farN f y.1
  · rw [if_neg (by omega), if_neg (by omega)] at h2; cases h2
  · rw [if_neg a] at h1
    by_cases b : farN f x.1 = farN f y.1
    · rw [if_pos b] at h1
      rw [if_neg (by omega), if_pos b.symm] at h2
      simp at h1 h2
      exact Prod.ext (farN_inj hf hx hy b) (by omega)
    · rw [if_neg b] at h1; cases h1
theorem insS_perm (f : Nat) (s : Spot) : ∀ l, (insS f s l).Perm (s :: l)
  | [] => List.Perm.refl _
  | x :: l => by
    unfold insS; split
    · exact ((insS_perm f s l).cons x).trans (List.Perm.swap s x l)
    · exact List.Perm.refl _
theorem insS_sorted (f : Nat) (s : Spot) : ∀ l, l.Pairwise (fun x y => leS f x y = true) → (insS f s l).Pairwise (fun x y => leS f x y = true)
  | [], _ => by simp [insS]
  | x :: l, h => by
    rw [List.pairwise_cons] at h
    unfold insS; split
    · rename_i hx
      rw [List.pairwise_cons]
      refine ⟨fun y hy => ?_, insS_sorted f s l h.2⟩
      rcases List.mem_cons.1 ((insS_perm f s l).mem_iff.1 hy) with rfl | hy
      · exact hx
      · exact h.1 y hy
    · rename_i hx
      have hs : leS f s x = true := (leS_total f x s).resolve_left hx
      rw [List.pairwise_cons]
      refine ⟨fun y hy => ?_, List.pairwise_cons.2 h⟩
      rcases List.mem_cons.1 hy with rfl | hy
      · exact hs
      · exact leS_trans f hs (h.1 y hy)
theorem foldS (f : Nat) : ∀ (l acc : List Spot), acc.Pairwise (fun x y => leS f x y = true) → (l.foldl (fun acc s => insS f s acc) acc).Pairwise (fun x y => leS f x y = true) ∧ (l.foldl (fun acc s => insS f s acc) acc).Perm (acc ++ l)
  | [], acc, h => ⟨h, by simp⟩
  | s :: l, acc, h => by
    obtain ⟨h1, h2⟩ := foldS f l (insS f s acc) (insS_sorted f s acc h)
    refine ⟨h1, h2.trans (((insS_perm f s acc).append_right l).trans ?_)⟩
    exact (List.perm_middle (l₁ := acc) (l₂ := l) (a := s)).symm
theorem sortS_sorted (f : Nat) (l : List Spot) : (sortS f l).Pairwise (fun x y => leS f x y = true) := (foldS f l [] List.Pairwise.nil).1
theorem sortS_perm (f : Nat) (l : List Spot) : (sortS f l).Perm l := by
  have h := (foldS f l [] List.Pairwise.nil).2
  rw [List.nil_append] at h
  exact h
theorem spotCells_length : ∀ l, (spotCells l).length = l.length * 2
  | [] => rfl
  | (a, n) :: l => by simp [spotCells, spotCells_length l]; omega
theorem spotsOf_ok : ∀ {cs : List AV} {l : List Spot}, spotsOf cs = some l → cs = spotCells l ∧ ∀ x ∈ l, x.1 < 18446744073709551616
  | [], l, h => by simp [spotsOf] at h; subst h; exact ⟨rfl, fun x h => by cases h⟩
  | [x], l, h => by cases x <;> simp [spotsOf] at h
  | x :: y :: cs, l, h => by
    unfold spotsOf at h
    split at h
    · rename_i h0; cases h0
    · rename_i k1 a k2 n l' h0
      cases h0
      split at h
      · rename_i hc
        simp only [Bool.and_eq_true] at hc
        obtain ⟨⟨h1, h2⟩, h3⟩ := hc
        have e1 := kcode_inj (Nat.eq_of_beq_eq_true h1)
        have e2 := kcode_inj (Nat.eq_of_beq_eq_true h2)
        subst e1 e2
        cases hs : spotsOf cs with
        | none => rw [hs] at h; cases h
        | some m =>
          rw [hs] at h; cases h
          obtain ⟨rfl, h4⟩ := spotsOf_ok hs
          refine ⟨rfl, fun x hx => ?_⟩
          rcases List.mem_cons.1 hx with rfl | hx
          · simpa [Nat.blt_eq] using h3
          · exact h4 x hx
      · cases h
    · cases h
theorem spotsOf_cells : ∀ (l : List Spot), (∀ x ∈ l, x.1 < 18446744073709551616) → spotsOf (spotCells l) = some l
  | [], _ => rfl
  | (a, n) :: l, h => by
    have h1 := h (a, n) (by simp)
    simp only [spotCells, spotsOf]
    rw [if_pos (by simp only [Nat.beq_refl, Bool.true_and]; rw [Nat.blt_eq]; exact h1), spotsOf_cells l (fun x hx => h x (by simp [hx]))]
    rfl
end Go.Px
set_option linter.unusedVariables false
set_option linter.unusedSimpArgs false
namespace Go.Px
open Go Go.Lib Go.RowKit Go.Proofs Go.Sort
def num64 : Option AV → Option Nat
  | some (.int k (.ofNat a)) => if Nat.beq (kcode k) (kcode .u64) && Nat.blt a 18446744073709551616 then some a else none
  | _ => none
def fromOf (H : Heap) (cn co : Nat) : Option Nat := match H[cn]? with
  | some (.row _ cs _) => num64 cs[co]?
  | _ => none
theorem num64_some {x : Option AV} {f : Nat} (h : num64 x = some f) : x = some (.int .u64 (f : Int)) ∧ f < 18446744073709551616 := by
  unfold num64 at h
  split at h
  · rename_i k a
    split at h
    · rename_i hb
      cases h
      simp only [Bool.and_eq_true] at hb
      have e1 := kcode_inj (Nat.eq_of_beq_eq_true hb.1)
      subst e1
      exact ⟨rfl, by have := hb.2; rwa [Nat.blt_eq] at this⟩
    · cases h
  · cases h
def saySort (g : Nat) : List AV → Option (Heap → Option (Eff × Acc))
  | [.own nm off n sz, .clo g' [.loc cn co]] =>
    if Nat.beq g g' && Nat.beq off 0 && Nat.beq sz 2 && Nat.blt 0 n && !Nat.beq nm cn then some fun H =>
      match H[nm]?, fromOf H cn co with
      | some (.row e cs false), some f => match spotsOf cs with
        | some l => if Nat.beq l.length n && Nat.blt n 1000000 then some (.put nm (.row e (spotCells (sortS f l)) false) (.tup []), ⟨[], [nm, cn], false⟩) else none
        | none => none
      | _, _ => none
    else none
  | _ => none
theorem fromOf_some {H : Heap} {cn co f : Nat} (h : fromOf H cn co = some f) : ∃ e cs fr, H[cn]? = some (.row e cs fr) ∧ cs[co]? = some (.int .u64 (f : Int)) ∧ f < 18446744073709551616 := by
  unfold fromOf at h
  split at h
  · rename_i e cs fr hr
    exact ⟨e, cs, fr, hr, num64_some h⟩
  · cases h
theorem saySort_some {g : Nat} {args : List AV} {p : Heap → Option (Eff × Acc)} (hq : saySort g args = some p) {H : Heap} {eff : Eff} {acc : Acc} (h : p H = some (eff, acc)) :
    ∃ nm n cn co e l f, args = [.own nm 0 n 2, .clo g [.loc cn co]] ∧ 0 < n ∧ nm ≠ cn ∧ H[nm]? = some (.row e (spotCells l) false) ∧ l.length = n ∧ n < 1000000 ∧ (∀ x ∈ l, x.1 < 18446744073709551616) ∧ fromOf H cn co = some f ∧ eff = .put nm (.row e (spotCells (sortS f l)) false) (.tup []) ∧ acc = ⟨[], [nm, cn], false⟩ ∧
      ∀ H1 : Heap, H1[nm]? = H[nm]? → H1[cn]? = H[cn]? → p H1 = some (eff, acc) := by
  unfold saySort at hq
  split at hq
  · rename_i nm off n sz g' cn co
    split at hq
    · rename_i hc
      cases hq
      simp only [Bool.and_eq_true, Bool.not_eq_true', Nat.blt_eq] at hc
      obtain ⟨⟨⟨⟨h1, h2⟩, h3⟩, h4⟩, h5⟩ := hc
      have e1 := Nat.eq_of_beq_eq_true h1
      have e2 := Nat.eq_of_beq_eq_true h2
      have e3 := Nat.eq_of_beq_eq_true h3
      subst e1 e2 e3
      have hne : nm ≠ cn := fun e => by subst e; rw [Nat.beq_refl] at h5; cases h5
      simp only at h
      cases hr : H[nm]? with
      | none => rw [hr] at h; cases h
      | some o =>
        rw [hr] at h
        cases hf : fromOf H cn co with
        | none => rw [hf] at h; split at h <;> first | cases h | (rename_i h9; cases h9)
        | some f =>
          rw [hf] at h
          split at h
          · rename_i x1 x2 e cs f' h6 h7
            cases h6; cases h7
            cases hl : spotsOf cs with
            | none => rw [hl] at h; cases h
            | some l =>
              rw [hl] at h
              simp only at h
              split at h
              · rename_i hn
                simp only [Bool.and_eq_true, Nat.blt_eq] at hn
                cases h
                obtain ⟨rfl, hb⟩ := spotsOf_ok hl
                refine ⟨nm, n, cn, co, e, l, f, rfl, h4, hne, hr, Nat.eq_of_beq_eq_true hn.1, hn.2, hb, hf, rfl, rfl, fun H1 a1 a2 => ?_⟩
                have a3 : fromOf H1 cn co = some f := by rw [← hf]; unfold fromOf; rw [a2]
                simp only [a1, hr, a3, hl]
                rw [if_pos (by simp only [Bool.and_eq_true, Nat.blt_eq]; exact hn)]
              · cases h
          · cases h
    · cases hq
  · cases hq
theorem saySort_fr (g : Nat) : SayFr (saySort g) := by
  intro args p hq H eff acc h
  obtain ⟨nm, n, cn, co, e, l, f, rfl, h0, hne, hr, hl, hn, hb, hf, rfl, rfl, hp⟩ := saySort_some hq h
  obtain ⟨e2, cs2, fr2, hc, _⟩ := fromOf_some hf
  exact ⟨⟨⟨rfl, by simp⟩, (fun t a he => by cases he), fun H1 hA => hp H1 (hA.2 nm (by simp)).symm (hA.2 cn (by simp)).symm⟩, LiveAcc.wr2 (Live.row hr) (Live.row hc), trivial⟩
theorem saySort_nl (g : Nat) : ∀ args p, saySort g args = some p → ∀ H eff acc, p H = some (eff, acc) → ∃ nm e cs f v, eff = .put nm (.row e cs f) v := by
  intro args p hq H eff acc h
  obtain ⟨nm, n, cn, co, e, l, f, rfl, h0, hne, hr, hl, hn, hb, hf, rfl, rfl, hp⟩ := saySort_some hq h
  exact ⟨_, _, _, _, _, rfl⟩
section
variable {P : Program} {base : Nat} {m : Mu} {S : Sett} {H : Heap} {w : World} {slot : Option Nat}
theorem grow_step (hR : Rel P base m S H w) (n : Nat) (os : Array Obj) : Step P base m S H w m S H (Sort.grow (Sort.ahead w n) os) := by
  have hold : ∀ b, b < w.heap.size → (Sort.grow (Sort.ahead w n) os).heap[b]? = w.heap[b]? := fun b hb => by
    simp only [Sort.grow, Sort.ahead]
    rw [Array.getElem?_append_left hb]
  have hcell : ∀ b j, S b j → (Sort.grow (Sort.ahead w n) os).cell? ⟨b, j, none⟩ = w.cell? ⟨b, j, none⟩ := fun b j hs => by
    have hb := cell_lt (hR.sett b j hs)
    simp [World.cell?, hold b hb]
  have hshape : ∀ b e k, Shape w b e k → Shape (Sort.grow (Sort.ahead w n) os) b e k := fun b e k ⟨arr, rng, hh, hn⟩ => ⟨arr, rng, (hold b (Array.getElem?_eq_some_iff.1 hh).1).trans hh, hn⟩
  have hsz : w.heap.size ≤ (Sort.grow (Sort.ahead w n) os).heap.size := by simp [Sort.grow, Sort.ahead]
  have hlt : ∀ k, live H k → ∀ b q, m k = some (b, q) → b < w.heap.size := fun k ⟨o, e, hne⟩ b q e2 => by
    obtain ⟨b', q', e3, _, h4⟩ := (hR.obj k o e).mu hne
    rw [e2] at e3; cases e3; exact h4
  refine ⟨⟨Nat.le_trans hR.size hsz, hR.dom, fun k o e => ?_, hR.inj, fun b j hs => by rw [hcell b j hs]; exact hR.sett b j hs⟩, ⟨fun _ _ h => h, fun _ _ h => h, hcell, hshape, fun b hb _ => hold b hb, hsz, rfl, rfl, rfl, fun b r e => ⟨r, (hold b (Array.getElem?_eq_some_iff.1 e).1).trans e⟩⟩, fun nm b o hl e _ => ⟨nm, o, hl, e⟩, Nat.le_refl _, fun _ _ h => .inl h⟩
  by_cases hd : o = .dead
  · subst hd; trivial
  · exact (hR.obj k o e).keep (fun _ _ h => h) (fun _ _ h => h) hcell hshape fun b q e2 => ⟨hold b (hlt k ⟨o, e, hd⟩ b q e2), fun j hj => hj⟩
end
abbrev SpotM := Fin 18446744073709551616 × Int
def encS (x : SpotM) : List Value := [.int .u64 x.1.val, .int .i64 x.2]
def oSp (x : SpotM) : Spot := (x.1.val, x.2)
def cfS (f : Nat) (x y : SpotM) : Int :=
  if Lib.compareInt (farN f x.1.val) (farN f y.1.val) ≠ 0 then Lib.compareInt (farN f x.1.val) (farN f y.1.val) else Lib.compareInt x.2 y.2
theorem cf_le (f : Nat) (x y : SpotM) : ltOf (cfS f) x y = !leS f (oSp y) (oSp x) := by
  unfold ltOf cfS leS Lib.compareInt oSp
  simp only [Nat.blt_eq, Nat.beq_eq]
  rcases Nat.lt_trichotomy (farN f x.1.val) (farN f y.1.val) with h | h | h
  · have h1 : ((farN f x.1.val : Nat) : Int) < (farN f y.1.val : Nat) := by omega
    simp [h1]
    omega
  · rw [h]
    by_cases a : x.2 < y.2
    · simp [a]
    · by_cases b : y.2 < x.2
      · simp [a, b]; omega
      · simp [a, b]; omega
  · have h1 : ¬ ((farN f x.1.val : Nat) : Int) < (farN f y.1.val : Nat) := by omega
    have h2 : ((farN f y.1.val : Nat) : Int) < (farN f x.1.val : Nat) := by omega
    simp [h1, h2, h]
theorem cf_swo (f : Nat) : Sort.SWO (ltOf (cfS f)) where
  irrefl x := by
    rw [cf_le]
    have := leS_total f (oSp x) (oSp x)
    simp at this; simp [this]
  trans x y z h1 h2 := by
    rw [cf_le] at *
    simp only [Bool.not_eq_true'] at *
    cases h : leS f (oSp z) (oSp x) with
    | false => rfl
    | true =>
      have h3 := (leS_total f (oSp x) (oSp y)).resolve_right (by simp [h1])
      have := leS_trans f h h3
      rw [h2] at this; cases this
  ntrans x y z h1 h2 := by
    rw [cf_le] at *
    simp only [Bool.not_eq_false'] at *
    exact leS_trans f h2 h1
def tSp (x : Spot) : SpotM := (Fin.ofNat _ x.1, x.2)
theorem oSp_tSp {x : Spot} (h : x.1 < 18446744073709551616) : oSp (tSp x) = x := by
  obtain ⟨a, n⟩ := x
  simp only [oSp, tSp, Fin.ofNat]
  rw [Nat.mod_eq_of_lt h]
theorem tSp_oSp (x : SpotM) : tSp (oSp x) = x := by
  obtain ⟨⟨a, h⟩, n⟩ := x
  simp only [oSp, tSp, Fin.ofNat]
  congr 2
  exact Nat.mod_eq_of_lt h
theorem flat_get : ∀ (l : List SpotM) (t : Nat), (l.flatMap encS)[t]? = (l[t / 2]?).bind fun x => (encS x)[t % 2]?
  | [], t => by simp
  | x :: l, 0 => rfl
  | x :: l, 1 => rfl
  | x :: l, t + 2 => by
    have h := flat_get l t
    rw [List.flatMap_cons, show (t + 2) / 2 = t / 2 + 1 by omega, show (t + 2) % 2 = t % 2 by omega]
    rw [List.getElem?_append_right (by simp [encS])]
    simpa [encS] using h
theorem flat_length (l : List SpotM) : (l.flatMap encS).length = l.length * 2 := by
  induction l with
  | nil => rfl
  | cons x l ih => simp only [List.flatMap_cons, List.length_append, ih, List.length_cons, encS]; simp; omega
theorem enc_len (x : SpotM) : (encS x).length = 2 := rfl
theorem enc_one (x : SpotM) : ∀ v ∈ encS x, v.oneCell' = true := fun v hv => by simp [encS] at hv; rcases hv with rfl | rfl <;> rfl
theorem flatK_get (d : Array SpotM) (t : Nat) (h : t < d.size * 2) : (flatK encS 2 d)[t]? = (d.toList.flatMap encS)[t]? := by
  have h2 : t / 2 < d.size := by omega
  rw [flat_get, Array.getElem?_eq_getElem (by simpa using h)]
  have e := get_flatK encS 2 d t h
  rw [getElem!_pos _ t (by simpa using h)] at e
  rw [e, getElem!_pos d (t / 2) h2, getElem!_pos _ (t % 2) (by rw [enc_len]; omega)]
  simp [h2, List.getElem?_eq_getElem (show t % 2 < (encS d[t / 2]).length by rw [enc_len]; omega)]
theorem flatK_eq (d : Array SpotM) : flatK encS 2 d = (d.toList.flatMap encS).toArray := by
  apply Array.ext_getElem?
  intro t
  by_cases h : t < d.size * 2
  · rw [flatK_get d t h]; simp
  · rw [Array.getElem?_eq_none (by simp; omega), Array.getElem?_eq_none (by rw [List.size_toArray, flat_length]; simp; omega)]
theorem setMany_all (F : Array Value) (vs : List Value) (h : vs.length = F.size) : setMany F 0 vs = vs.toArray := by
  refine Array.ext (by simp [h]) fun t h1 h2 => ?_
  have e := get_setMany vs 0 F t (by simpa using h1)
  rw [if_pos ⟨Nat.zero_le _, by simpa using h2⟩, getElem!_pos _ t h1] at e
  rw [e, getElem!_pos _ (t - 0) (by simpa using h2)]
  simp
section
variable {P : Program} {base : Nat} {m : Mu} {S : Sett} {w : World}
theorem rep_spots : ∀ (l : List Spot), RepL m S w false ((l.map tSp).flatMap encS) (spotCells l) ∨ ∃ x ∈ l, ¬ x.1 < 18446744073709551616
  | [] => .inl (.nil _)
  | (a, n) :: l => by
    rcases rep_spots l with h | ⟨x, hx, hn⟩
    · by_cases ha : a < 18446744073709551616
      · left
        have e : ((Fin.ofNat 18446744073709551616 a).val : Int) = Int.ofNat a := by simp [Fin.ofNat, Nat.mod_eq_of_lt ha]
        rw [List.map_cons, List.flatMap_cons, spotCells]
        refine .cons _ _ _ _ _ ?_ (.cons _ _ _ _ _ ?_ h)
        · show Rep m S w false (.int .u64 ((Fin.ofNat 18446744073709551616 a).val : Int)) _
          rw [e]; exact .int _ _ _
        · exact .int _ _ _
      · exact .inr ⟨_, List.mem_cons_self .., ha⟩
    · exact .inr ⟨x, List.mem_cons_of_mem _ hx, hn⟩
theorem one_spots : ∀ (l : List Spot), ∀ y ∈ spotCells l, one y = true
  | [], y, h => by cases h
  | (a, n) :: l, y, h => by
    simp only [spotCells, List.mem_cons] at h
    rcases h with rfl | rfl | h
    · rfl
    · rfl
    · exact one_spots l y h
theorem lay_all {cs ys : List AV} (h : ys.length = cs.length) : lay cs 0 ys = ys := by
  apply List.ext_getElem?
  intro j
  rw [lay_get (by omega)]
  by_cases hj : j < ys.length
  · rw [if_pos ⟨Nat.zero_le _, by omega⟩]; rfl
  · rw [if_neg (by omega), List.getElem?_eq_none (by omega), List.getElem?_eq_none (by omega)]
def SortsM (P : Program) (fs g : Nat) : Prop := ∀ (w : World) (blk cap f : Nat) (c : Addr) (d : Array SpotM), HoldsK encS 2 w blk 0 d → blk < w.heap.size → d.size < 4611686018427387904 → w.cell? c = some (.int .u64 (f : Int)) → c.block ≠ blk → f < 18446744073709551616 →
  Calls P fs #[.slice (some ⟨blk, 0, none⟩) d.size cap, .func (.func g) #[] #[.pointer (some c)]] w fun e w' => e = .returned (.tuple #[]) ∧ ∃ d' n os, Sort.PermIn 0 d.size d d' ∧ Sort.SortedIn (ltOf (cfS f)) 0 d.size d' ∧ w' = sortWorldK encS 2 w blk 0 n d' os
theorem sorted_is {f : Nat} (hf : f < 18446744073709551616) {l : List Spot} (hb : ∀ x ∈ l, x.1 < 18446744073709551616) {d' : Array SpotM} (hp : Sort.PermIn 0 (l.map tSp).toArray.size (l.map tSp).toArray d') (hs : Sort.SortedIn (ltOf (cfS f)) 0 (l.map tSp).toArray.size d') : d'.toList = (sortS f l).map tSp := by
  have h1 : (l.map tSp).map oSp = l := by
    rw [List.map_map]
    conv => rhs; rw [← List.map_id l]
    exact List.map_congr_left fun x hx => oSp_tSp (hb x hx)
  have hsz : d'.size = l.length := by simpa using hp.1
  have hperm : d'.toList.Perm (l.map tSp) := by
    have := hp.2.2
    simp only [Array.toList_extract] at this
    simp only [List.extract, List.drop_zero, Nat.sub_zero, List.size_toArray, List.length_map] at this
    rwa [List.take_of_length_le (by simp [hsz]), List.take_of_length_le (by simp)] at this
  have hperm2 : (d'.toList.map oSp).Perm l := by
    have := hperm.map oSp
    rwa [h1] at this
  have hpw : (d'.toList.map oSp).Pairwise (fun x y => leS f x y = true) := by
    rw [List.pairwise_map, List.pairwise_iff_getElem]
    intro i j hi hj hij
    have h := hs i j (Nat.zero_le _) hij (by simp only [Array.length_toList] at hj; simpa [hsz] using hj)
    rw [cf_le] at h
    simp only [Array.length_toList] at hi hj
    rw [getElem!_pos d' j hj, getElem!_pos d' i hi] at h
    simpa using h
  have e : d'.toList.map oSp = sortS f l := by
    refine List.Perm.eq_of_pairwise (fun a b ha hb' h1 h2 => ?_) hpw (sortS_sorted f l) (hperm2.trans (sortS_perm f l).symm)
    refine leS_anti hf (hb a (hperm2.mem_iff.1 ha)) (hb b ((sortS_perm f l).mem_iff.1 hb')) h1 h2
  rw [← e, List.map_map]
  conv => lhs; rw [← List.map_id d'.toList]
  exact List.map_congr_left fun x hx => (tSp_oSp x).symm
theorem saySort_ok {fs g : FuncId} {fn : Func} (hf : P.funcs[fs]? = some fn) (hname : (fn.name == "runtime.NumGoroutine") = false) (hb : fn.body.isSome = true) (hS : SortsM P fs g) : SayOk P fs (saySort g) := by
  intro args p hq H eff acc h base sl m S w args' hR hsl ha
  obtain ⟨nm, n, cn, co, e, l, f, rfl, h0, hne, hr, hl, hn, hbd, hfr, rfl, rfl, hp⟩ := saySort_some hq h
  obtain ⟨e2, cs2, fr2, hc, hco, hf64⟩ := fromOf_some hfr
  obtain ⟨al, hal⟩ : ∃ al, al = args'.toList := ⟨_, rfl⟩
  rw [← hal] at ha
  cases ha with
  | cons _ v _ vs _ h1 t1 =>
    cases t1 with
    | cons _ v2 _ vs2 _ h2 t2 =>
      cases t2
      have harr : args' = #[v, v2] := by apply Array.ext'; simpa using hal.symm
      subst harr
      obtain ⟨cs3, rfl, hcs3⟩ := rep_clo h2
      cases hcs3 with
      | cons _ v3 _ vs3 _ h3 t3 =>
        cases t3
        obtain ⟨cb, cq, rfl, hmc⟩ := rep_loc h3
        obtain ⟨b, q, k, info, r⟩ := hR.obj nm _ hr
        obtain ⟨b2, q2, k2, info2, r2⟩ := hR.obj cn _ hc
        have hz := r.z
        subst hz
        have hz2 := r2.z
        subst hz2
        have hm2 := r2.mu
        rw [hmc] at hm2; cases hm2
        have hv : ∃ c, v = .slice (some ⟨b, 0, none⟩) n c := by
          cases h1 with
          | own nm0 off n0 sz c b0 o0 a1 a2 a3 => rw [r.mu] at a1; cases a1; exact ⟨c, rfl⟩
          | own0 => omega
        obtain ⟨c, rfl⟩ := hv
        obtain ⟨d, hd⟩ : ∃ d : Array SpotM, d = (l.map tSp).toArray := ⟨_, rfl⟩
        have hdl : d.toList = l.map tSp := by rw [hd]
        have hdn : d.size = n := by rw [hd]; simpa using hl
        have hrepl : ∀ l' : List Spot, (∀ x ∈ l', x.1 < 18446744073709551616) → RepL m S w false ((l'.map tSp).flatMap encS) (spotCells l') := fun l' hb' => (rep_spots l').resolve_right fun ⟨x, hx, hn⟩ => hn (hb' x hx)
        have hH : HoldsK encS 2 w b 0 d := by
          intro j hj
          have hj' : j < d.size * 2 := by simpa using hj
          have hjl : j < (spotCells l).length := by rw [spotCells_length, hl, ← hdn]; exact hj'
          refine ⟨?_, r.free _ (.inl rfl)⟩
          obtain ⟨v', e1, e2, e3⟩ := r.cells j (spotCells l)[j] (by simp [hjl])
          have e4 := (hrepl l hbd).get (i := j) (x := (spotCells l)[j]) (by simp [hjl])
          obtain ⟨v'', e5, e6⟩ := e4
          have e7 : v' = v'' := by
            have hsc : ∃ kk nn, (spotCells l)[j] = .int kk nn := by
              have : ∀ (l : List Spot) (y : AV), y ∈ spotCells l → ∃ kk nn, y = .int kk nn := by
                intro l
                induction l with
                | nil => intro y h; cases h
                | cons x l ih =>
                  intro y h
                  obtain ⟨a, n⟩ := x
                  simp only [spotCells, List.mem_cons] at h
                  rcases h with rfl | rfl | h
                  · exact ⟨_, _, rfl⟩
                  · exact ⟨_, _, rfl⟩
                  · exact ih y h
              exact this l _ (List.getElem_mem hjl)
            obtain ⟨kk, nn, e8⟩ := hsc
            rw [e8] at e2 e6
            rw [rep_int e2, rep_int e6]
          rw [e1, e7]
          have e9 := flatK_get d j hj'
          rw [hdl, e5] at e9
          show some v'' = some (id (flatK encS 2 d)[j]!)
          rw [getElem!_pos _ j hj]
          rw [Array.getElem?_eq_getElem hj] at e9
          rw [← Option.some.inj e9]; rfl
        have hblk : b < w.heap.size := by
          obtain ⟨arr, rng, hh, _⟩ := r.shape
          exact (Array.getElem?_eq_some_iff.1 hh).1
        have hcell : w.cell? ⟨cb, 0 + co, none⟩ = some (.int .u64 (f : Int)) := by
          obtain ⟨v', e1, e2, e3⟩ := r2.cells co _ hco
          rw [rep_int e2] at e1
          exact e1
        have hbne : cb ≠ b := fun ebb => hne (hR.inj nm cn b 0 0 ⟨_, hr, by simp⟩ ⟨_, hc, by simp⟩ r.mu (by rw [hmc, ebb]))
        have hcall := hS w b c f ⟨cb, 0 + co, none⟩ d hH hblk (by omega) hcell hbne hf64
        rw [hdn] at hcall
        refine ⟨_, _, rfl, .inl ⟨enters hf hname hb _ _, fun nn => ?_⟩⟩
        refine callsIn_wide.2 (hcall.mono fun e' w' hh => ?_)
        obtain ⟨rfl, d', k', os, hpe, hso, rfl⟩ := hh
        rw [← hdn, hd] at hpe hso
        have hd' := sorted_is hf64 hbd hpe hso
        have hbs : ∀ x ∈ sortS f l, x.1 < 18446744073709551616 := fun x hx => hbd x ((sortS_perm f l).mem_iff.1 hx)
        have hlen : (spotCells (sortS f l)).length = (spotCells l).length := by rw [spotCells_length, spotCells_length, (sortS_perm f l).length_eq]
        have st1 := put_row hR hr r (off := 0) (hrepl _ hbs) (one_spots _) (by omega)
        rw [lay_all hlen] at st1
        have hw : sortWorldK encS 2 w b 0 k' d' os = Sort.grow (Sort.ahead (w.setCells b (0 + 0) (((sortS f l).map tSp).flatMap encS)) k') os := by
          unfold sortWorldK
          have e1 := putRowK_self (enc := encS) (k := 2) w b 0 d hH
          have hle : (((sortS f l).map tSp).flatMap encS).length = (flatK encS 2 d).size := by
            rw [flat_length, size_flatK, hdn, List.length_map, (sortS_perm f l).length_eq, hl]
          have e2 := setCells_putRow w b 0 (((sortS f l).map tSp).flatMap encS) 0 (flatK encS 2 d) (by omega)
          have e3 : Go.Sort.putRow id w b 0 (flatK encS 2 d) = w := e1
          rw [e3, setMany_all _ _ hle] at e2
          rw [e2]
          have e4 : flatK encS 2 d' = (((sortS f l).map tSp).flatMap encS).toArray := by rw [flatK_eq, hd']
          unfold putRowK
          rw [e4]; rfl
        rw [hw]
        have st2 := grow_step st1.rel k' os
        refine ⟨_, m, S, rfl, st1.trans st2, fun k hlt hk hmk => ⟨hmk, fun hdd => ?_⟩, .tup _ _ _ (.nil _)⟩
        have : k ≠ nm := fun e => by subst e; rw [hr] at hdd; cases hdd
        rw [List.getElem?_set_ne (Ne.symm this)]; exact hdd
end
end Go.Px
set_option linter.unusedVariables false
set_option linter.unusedSimpArgs false
namespace Go.Px
open Go
structure RowT (E : Env) (t e sz by' : Nat) : Prop where
  ht : ∃ it, E.ty t = some it ∧ it.desc = .slice e
  he : ∃ ie, E.ty e = some ie ∧ ie.size = sz ∧ ie.bytes = by'
  sz0 : sz ≠ 0
  by1 : by' ≤ 1000
section
variable {E : Env} {t e sz by' : Nat} {L V : List AV} {H : Heap} {a b : O}
theorem append_firstG (R : RowT E t e sz by') {nm k : Nat} {cs : List AV} {f : Bool} (ha : gO L V a = .sl 0 [] true) (hx : gO L V b = .own nm 0 k sz) (hr : H[nm]? = some (.row e cs f)) (hl : cs.length = k * sz) (hk : k ≠ 0) (hb : k ≤ 1000000) :
    evalFA E L V H (.append t t a b) = some (.new (.row e cs false) (fun nm => .own nm 0 k sz), Acc.read nm) := by
  obtain ⟨it, h1, h2⟩ := R.ht
  obtain ⟨ie, h3, h4, h5⟩ := R.he
  have hm : k * ie.bytes ≤ mostBytes := by
    rw [h5]
    exact Nat.le_trans (Nat.mul_le_mul hb R.by1) (by decide)
  have hm2 : k ≤ mostBytes := Nat.le_trans hb (by decide)
  subst h4
  have hs := R.sz0
  simp [evalFA, appendA, appendA0, contentA, countA, h1, h2, h3, ha, hx, hr, hk, hs, hm, hm2]
  rw [if_pos (by omega)]
  have : List.take (k * ie.size) cs = cs := List.take_of_length_le (by omega)
  simp [this, hk, hm, hm2]
theorem append_nextG (R : RowT E t e sz by') {nm nb n k : Nat} {cs0 cs : List AV} {f : Bool} (ha : gO L V a = .own nb 0 n sz) (hb0 : H[nb]? = some (.row e cs0 false)) (hl0 : cs0.length = n * sz) (hx : gO L V b = .own nm 0 k sz) (hr : H[nm]? = some (.row e cs f)) (hl : cs.length = k * sz) (hk : k ≠ 0) (hb : n + k ≤ 1000000) :
    evalFA E L V H (.append t t a b) = some (.app nb (.row e (cs0 ++ cs) false) (n + k) sz, ⟨[nm], [nb], false⟩) := by
  obtain ⟨it, h1, h2⟩ := R.ht
  obtain ⟨ie, h3, h4, h5⟩ := R.he
  have hm : (n + k) * ie.bytes ≤ mostBytes := by
    rw [h5]
    exact Nat.le_trans (Nat.mul_le_mul hb R.by1) (by decide)
  have hm2 : n + k ≤ mostBytes := Nat.le_trans hb (by decide)
  subst h4
  have hs := R.sz0
  have : List.take (k * ie.size) cs = cs := List.take_of_length_le (by omega)
  simp [evalFA, appendA, appendA0, contentA, countA, h1, h2, h3, ha, hx, hr, hk, hs, hm, hm2, hb0, hl0, hl, this, Acc.read]
theorem append_firstO (R : RowT E t e sz by') {nm off k : Nat} {cs : List AV} {f : Bool} (ha : gO L V a = .sl 0 [] true) (hx : gO L V b = .own nm off k sz) (hr : H[nm]? = some (.row e cs f)) (hl : off + k * sz ≤ cs.length) (hk : k ≠ 0) (hb : k ≤ 1000000) :
    evalFA E L V H (.append t t a b) = some (.new (.row e ((cs.drop off).take (k * sz)) false) (fun nm => .own nm 0 k sz), Acc.read nm) := by
  obtain ⟨it, h1, h2⟩ := R.ht
  obtain ⟨ie, h3, h4, h5⟩ := R.he
  have hm : k * ie.bytes ≤ mostBytes := by
    rw [h5]
    exact Nat.le_trans (Nat.mul_le_mul hb R.by1) (by decide)
  have hm2 : k ≤ mostBytes := Nat.le_trans hb (by decide)
  subst h4
  have hs := R.sz0
  simp [evalFA, appendA, appendA0, contentA, countA, h1, h2, h3, ha, hx, hr, hk, hs, hm, hm2, hl]
theorem append_nextO (R : RowT E t e sz by') {nm nb n off k : Nat} {cs0 cs : List AV} {f : Bool} (ha : gO L V a = .own nb 0 n sz) (hb0 : H[nb]? = some (.row e cs0 false)) (hl0 : cs0.length = n * sz) (hx : gO L V b = .own nm off k sz) (hr : H[nm]? = some (.row e cs f)) (hl : off + k * sz ≤ cs.length) (hk : k ≠ 0) (hb : n + k ≤ 1000000) :
    evalFA E L V H (.append t t a b) = some (.app nb (.row e (cs0 ++ (cs.drop off).take (k * sz)) false) (n + k) sz, ⟨[nm], [nb], false⟩) := by
  obtain ⟨it, h1, h2⟩ := R.ht
  obtain ⟨ie, h3, h4, h5⟩ := R.he
  have hm : (n + k) * ie.bytes ≤ mostBytes := by
    rw [h5]
    exact Nat.le_trans (Nat.mul_le_mul hb R.by1) (by decide)
  have hm2 : n + k ≤ mostBytes := Nat.le_trans hb (by decide)
  subst h4
  have hs := R.sz0
  simp [evalFA, appendA, appendA0, contentA, countA, h1, h2, h3, ha, hx, hr, hk, hs, hm, hm2, hb0, hl0, hl, Acc.read]
theorem append_zeroO (R : RowT E t e sz by') {nm off : Nat} {cs : List AV} {f : Bool} {x : AV} (ha : gO L V a = x) (hx1 : x = .sl 0 [] true ∨ ∃ n o k s, x = .own n o k s) (hx : gO L V b = .own nm off 0 sz) (hr : H[nm]? = some (.row e cs f)) (hl : off ≤ cs.length) :
    evalFA E L V H (.append t t a b) = some (.val x, Acc.read nm) := by
  obtain ⟨it, h1, h2⟩ := R.ht
  obtain ⟨ie, h3, h4, h5⟩ := R.he
  subst h4
  have hs := R.sz0
  rcases hx1 with rfl | ⟨n, o, k, s, rfl⟩
  · simp [evalFA, appendA, appendA0, contentA, countA, h1, h2, h3, ha, hx, hr, hs, hl]
  · simp [evalFA, appendA, appendA0, contentA, countA, h1, h2, h3, ha, hx, hr, hs, hl]
theorem append_nil (R : RowT E t e sz by') {x : AV} (ha : gO L V a = x) (hx1 : x = .sl 0 [] true ∨ ∃ n o k s, x = .own n o k s) (hx : gO L V b = .sl 0 [] true) : evalFA E L V H (.append t t a b) = some (.val x, Acc.none) := by
  obtain ⟨it, h1, h2⟩ := R.ht
  obtain ⟨ie, h3, h4, h5⟩ := R.he
  subst h4
  have hs := R.sz0
  rcases hx1 with rfl | ⟨n, o, k, s, rfl⟩
  · simp [evalFA, appendA, appendA0, contentA, countA, h1, h2, h3, ha, hx, hs]
  · simp [evalFA, appendA, appendA0, contentA, countA, h1, h2, h3, ha, hx, hs]
theorem buildOne (R : RowT E t e sz by') {y : AV} (ha : gO L V a = y) (hc : (cellsOf y).length = sz) (hz : ∃ ie, E.ty e = some ie ∧ ie.zero.length = sz) (h65 : sz ≤ 65536) :
    evalFA E L V H (.buildSlice t 1 [(0, a)]) = some (.new (.row e (cellsOf y) false) (fun nm => .own nm 0 1 sz), Acc.none) := by
  obtain ⟨it, h1, h2⟩ := R.ht
  obtain ⟨ie, h3, h4, h5⟩ := R.he
  obtain ⟨ie', h6, h7⟩ := hz
  rw [h3] at h6; cases h6
  subst h4
  have hs := R.sz0
  have e1 : lay (ie.zero ++ []) 0 (cellsOf y) = cellsOf y := by
    unfold lay
    simp [hc, h7]
  simp [evalFA, buildSliceA, h1, h2, h3, fillA, zerosA, ha, hc, h7, hs]
  simp at e1
  exact ⟨h65, e1⟩
theorem store_one {st : Nat} {v : AV} {nm : Nat} {c : AV} {e2 : Nat} (ht : ∃ i, E.ty st = some i ∧ i.size = 1) (ha : gO L V a = .loc nm 0) (hr : H[nm]? = some (.row e2 [c] false)) (hx : gO L V b = v) (hc : (cellsOf v).length = 1) :
    evalFA E L V H (.store st a b) = some (.put nm (.row e2 (cellsOf v) false) (.tup []), ⟨[], [nm], false⟩) := by
  obtain ⟨i, h1, h2⟩ := ht
  subst hx
  have e1 : lay [c] 0 (cellsOf (gO L V b)) = cellsOf (gO L V b) := by
    unfold lay
    simp [hc]
  simp [evalFA, storeA, h1, h2, ha, hr, hc, e1]
end
end Go.Px
namespace Go.Px
open Go Go.ChangeShapes Go.WideShapes Go.RowKit
theorem GrownO.frame {w w' : World} (h : GrownO w w') (p : MemPlace → Prop) : w.keptBut w' p := World.keptBut_mono (fun _ h => h.elim) h.1
theorem GrownO.heap {w w' : World} (h : GrownO w w') (i : Nat) (hi : i < w.heap.size) : w'.heap[i]? = w.heap[i]? := by
  have h1 := h.1.2.2 i hi
  cases ho : w.heap[i]? with
  | none => rw [Array.getElem?_eq_none_iff] at ho; omega
  | some o =>
    cases ho' : w'.heap[i]? with
    | none =>
      have := h.2.2
      rw [Array.getElem?_eq_none_iff] at ho'; omega
    | some o' =>
      rw [ho, ho'] at h1
      cases o with
      | cells c t fr =>
        cases o' with
        | cells c' t' fr' =>
          obtain ⟨rfl, rfl, hs, hj⟩ := h1
          have : c' = c := Array.ext_getElem? (fun j => hj j (fun hf => hf))
          rw [this]
        | _ => cases h1
      | map es ck =>
        cases o' with
        | map es' ck' =>
          rcases h1 with h1 | ⟨rfl, rfl⟩
          · exact h1.elim
          · rfl
        | _ => cases h1
      | _ => rw [h1]
theorem GrownO.cell {w w' : World} (h : GrownO w w') {a : Addr} {v : Value} (hc : w.cell? a = some v) : w'.cell? a = some v := by
  have hb := World.block_lt_of_cell? w _ hc
  unfold World.cell? at hc ⊢
  rw [h.heap _ hb]; exact hc
variable {H : Type} {enc : TypeId × Value → H} {P : Program}
theorem post_of_sameO {f : Func} {s : ChangeSpec} {apart fresh handsOn again : Bool} {W W' : World} {args : Array Value} {v : Value} {ds gs : List (DataW H)} {before pa pv : List MemPlace}
    (hW : DataW.Whole enc P f.params.toList s.vars apart W args.toList ds gs before)
    (hres : ∀ (b : Nat) (sp : Nat → Bool) (hd : Bool), DataW.TrodAll enc P W' b sp hd f.resultTypes.toList (v.resultList f.resultTypes.size) (s.fn H (ds ++ gs)).results [])
    (hargs : ∀ sp : Nat → Bool, (∀ p ∈ before, sp p.block = true) → DataW.TrodAll enc P W' 0 sp true f.params.toList args.toList (s.fn H (ds ++ gs)).args pa)
    (hvars : ∀ sp : Nat → Bool, (∀ p ∈ before, sp p.block = true) → DataW.TrodVars enc P W' sp s.vars (s.fn H (ds ++ gs)).vars pv)
    (hps : before = pa ++ pv) (hk : W.keptBut W' (· ∈ before)) (hfz : ∀ a : Addr, a.block < W.heap.size → W'.frozen? a = W.frozen? a)
    (hok : ∀ (j : Nat) (t : TypeId) (r : Value), f.resultTypes[j]? = some t → (v.resultList f.resultTypes.size)[j]? = some r → Value.okWide P W' .any 0 t r) :
    s.post enc P f apart fresh handsOn again W args v W' := by
  have hold : ∀ p ∈ before, (fun b => decide (b < W.heap.size)) p.block = true := fun p hp => by simpa using hW.lt p hp
  have hlt := hW.lt
  refine ⟨ds, gs, before, [], pa, pv, hW, hres _ _ _, hargs _ hold, hvars _ hold, World.keptBut_mono (fun p hp => ⟨hp, ?_⟩) hk, fun _ => ?_⟩
  · rw [hps, List.mem_append] at hp
    exact Or.inr hp
  · obtain ⟨_, _, _, _, _, hz, hn⟩ := hW
    refine ⟨hok, _, _, ([] ++ pa) ++ pv, ⟨[] ++ pa, pv, trodAll_append (hargs _ (fun _ _ => rfl)) (hres _ _ _), hvars _ (fun _ _ => rfl), rfl, ?_, ?_⟩, ?_⟩
    · intro b off hp
      have hp' : MemPlace.cell b off ∈ before := by rw [hps]; simpa using hp
      rw [hfz _ (hlt _ hp')]
      exact hz b off hp'
    · intro ha
      have := hn ha
      rw [hps] at this
      simpa using this
    · intro p hp _
      rw [hps]
      simpa using hp
end Go.Px
set_option linter.unusedVariables false
namespace Go.Px
open Go Go.ChangeShapes Go.WideShapes Go.RowKit
def SOf (w : World) : Sett := fun b j => (w.cell? ⟨b, j, none⟩).isSome = true
def Opens {H : Type} (enc : TypeId × Value → H) (P : Program) (w : World) (t : TypeId) (sz : Nat) {X : Type} (ok : X → Prop) (mk : X → List AV) : Prop :=
  ∀ (base : Nat) (spare : Nat → Bool) (held : Bool) (fuel : Nat) (cs : List Value) (x : DataW H × List MemPlace), DataW.trod enc P w base spare held fuel t cs = some x →
    ∃ a : X, ok a ∧ RepL m0 (SOf w) w true cs (mk a) ∧ (∀ y ∈ mk a, one y = true) ∧ (mk a).length = sz
section
variable {H : Type} {enc : TypeId × Value → H} {P : Program} {w : World} {t : TypeId}
theorem repL_app {m : Mu} {S : Sett} {w : World} {nf : Bool} : ∀ {vs vs' : List Value} {xs xs' : List AV}, RepL m S w nf vs xs → RepL m S w nf vs' xs' → RepL m S w nf (vs ++ vs') (xs ++ xs')
  | _, _, _, _, .nil _, h => h
  | _, _, _, _, .cons _ _ _ _ _ h t, h' => .cons _ _ _ _ _ h (repL_app t h')
theorem repL_at {m : Mu} {S : Sett} {w : World} {nf : Bool} : ∀ {vs : List Value} {xs : List AV}, RepL m S w nf vs xs → ∀ {j : Nat} {y : AV}, xs[j]? = some y → ∃ v, vs[j]? = some v ∧ Rep m S w nf v y
  | _, _, .nil _, j, y, h => by simp at h
  | _, _, .cons _ v x vs xs h t, 0, y, hy => by simp at hy; subst hy; exact ⟨v, rfl, h⟩
  | _, _, .cons _ v x vs xs h t, j + 1, y, hy => by
    obtain ⟨v', h1, h2⟩ := repL_at t (j := j) (y := y) (by simpa using hy)
    exact ⟨v', by simpa using h1, h2⟩
theorem opens_i64 {k : IntKind} (ht : P.underlying t = some (.int k)) : Opens enc P w t 1 (fun n : Int => (Lit.int k n).wf = true) (fun n => [.int k n]) := by
  intro base spare held fuel cs x h
  obtain ⟨n, rfl, _, hw⟩ := DataW.trod_int ht h
  exact ⟨n, hw, .cons _ _ _ _ _ (.int _ _ _) (.nil _), by simp [one], rfl⟩
theorem opens_u64 {k : IntKind} (ht : P.underlying t = some (.int k)) (hk : k.min = 0) : Opens enc P w t 1 (fun n : Nat => (Lit.int k (n : Int)).wf = true) (fun n => [.int k (n : Int)]) := by
  intro base spare held fuel cs x h
  obtain ⟨n, rfl, _, hw⟩ := DataW.trod_int ht h
  have hn : 0 ≤ n := by simp [Lit.wf, hk] at hw; omega
  obtain ⟨m, rfl⟩ := Int.eq_ofNat_of_zero_le hn
  exact ⟨m, hw, .cons _ _ _ _ _ (.int _ _ _) (.nil _), by simp [one], rfl⟩
theorem opens_str (ht : P.underlying t = some .string) : Opens enc P w t 1 (fun s : List Nat => s.length ≤ maxLen ∧ ∀ c ∈ s, c < 256) (fun s => [.str s]) := by
  intro base spare held fuel cs x h
  obtain ⟨s, rfl, _, hw⟩ := DataW.trod_string ht h
  refine ⟨s.data.toList.map UInt8.toNat, ⟨by rw [List.length_map, Array.length_toList]; exact hw, ?_⟩, .cons _ _ _ _ _ (.str _ _ _ rfl) (.nil _), by simp [one], rfl⟩
  intro c hc
  simp only [List.mem_map] at hc
  obtain ⟨u, _, rfl⟩ := hc
  exact u.toNat_lt
theorem opens_struct2 {f0 f1 : Field} {X0 X1 : Type} {ok0 : X0 → Prop} {ok1 : X1 → Prop} {mk0 : X0 → List AV} {mk1 : X1 → List AV} {s0 s1 : Nat} (ht : P.underlying t = some (.struct #[f0, f1])) (h0 : Opens enc P w f0.type s0 ok0 mk0) (h1 : Opens enc P w f1.type s1 ok1 mk1)
    (c0 : P.cellsOf f0.type = s0) (c1 : P.cellsOf f1.type = s1) (ct : P.cellsOf t = s0 + s1) (e0 : f0.offset = 0) (e1 : f1.offset = s0) :
    Opens enc P w t (s0 + s1) (fun p : X0 × X1 => ok0 p.1 ∧ ok1 p.2) (fun p => mk0 p.1 ++ mk1 p.2) := by
  intro base spare held fuel cs x h
  obtain ⟨y0, y1, n, _, hl, g0, g1⟩ := trod_struct2 ht h
  obtain ⟨a0, k0, r0, o0, l0⟩ := h0 _ _ _ _ _ _ g0
  obtain ⟨a1, k1, r1, o1, l1⟩ := h1 _ _ _ _ _ _ g1
  rw [e0, c0, List.drop_zero] at r0
  rw [e1, c1] at r1
  have e : cs = cs.take s0 ++ (cs.drop s0).take s1 := by
    rw [List.take_of_length_le (l := cs.drop s0) (by simp; omega), List.take_append_drop]
  refine ⟨(a0, a1), ⟨k0, k1⟩, ?_, ?_, by simp [l0, l1]⟩
  · rw [e]; exact repL_app r0 r1
  · intro y hy
    rcases List.mem_append.1 hy with h | h
    · exact o0 y h
    · exact o1 y h
theorem opens_struct3 {f0 f1 f2 : Field} {X0 X1 X2 : Type} {ok0 : X0 → Prop} {ok1 : X1 → Prop} {ok2 : X2 → Prop} {mk0 : X0 → List AV} {mk1 : X1 → List AV} {mk2 : X2 → List AV} {s0 s1 s2 : Nat} (ht : P.underlying t = some (.struct #[f0, f1, f2])) (h0 : Opens enc P w f0.type s0 ok0 mk0) (h1 : Opens enc P w f1.type s1 ok1 mk1) (h2 : Opens enc P w f2.type s2 ok2 mk2)
    (c0 : P.cellsOf f0.type = s0) (c1 : P.cellsOf f1.type = s1) (c2 : P.cellsOf f2.type = s2) (ct : P.cellsOf t = s0 + (s1 + s2)) (e0 : f0.offset = 0) (e1 : f1.offset = s0) (e2 : f2.offset = s0 + s1) :
    Opens enc P w t (s0 + (s1 + s2)) (fun p : X0 × X1 × X2 => ok0 p.1 ∧ ok1 p.2.1 ∧ ok2 p.2.2) (fun p => mk0 p.1 ++ (mk1 p.2.1 ++ mk2 p.2.2)) := by
  intro base spare held fuel cs x h
  obtain ⟨y0, y1, y2, n, _, hl, g0, g1, g2⟩ := Go.Deep.trod_struct3 ht h
  obtain ⟨a0, k0, r0, o0, l0⟩ := h0 _ _ _ _ _ _ g0
  obtain ⟨a1, k1, r1, o1, l1⟩ := h1 _ _ _ _ _ _ g1
  obtain ⟨a2, k2, r2, o2, l2⟩ := h2 _ _ _ _ _ _ g2
  rw [e0, c0, List.drop_zero] at r0
  rw [e1, c1] at r1
  rw [e2, c2] at r2
  have e : cs = cs.take s0 ++ ((cs.drop s0).take s1 ++ (cs.drop (s0 + s1)).take s2) := by
    rw [List.take_of_length_le (l := cs.drop (s0 + s1)) (by simp; omega), ← List.drop_drop, List.take_append_drop, List.take_append_drop]
  refine ⟨(a0, a1, a2), ⟨k0, k1, k2⟩, ?_, ?_, by simp [l0, l1, l2]⟩
  · rw [e]; exact repL_app r0 (repL_app r1 r2)
  · intro y hy
    rcases List.mem_append.1 hy with h | h
    · exact o0 y h
    · rcases List.mem_append.1 h with h | h
      · exact o1 y h
      · exact o2 y h
theorem exists_list {X : Type} {Q : Nat → X → Prop} : ∀ (n : Nat), (∀ i, i < n → ∃ a, Q i a) → ∃ l : List X, l.length = n ∧ ∀ i a, l[i]? = some a → Q i a
  | 0, _ => ⟨[], rfl, fun i a h => by simp at h⟩
  | n + 1, h => by
    obtain ⟨l, hl, hq⟩ := exists_list n fun i hi => h i (by omega)
    obtain ⟨a, ha⟩ := h n (by omega)
    refine ⟨l ++ [a], by simp [hl], fun i b hb => ?_⟩
    by_cases hi : i < n
    · rw [List.getElem?_append_left (by omega)] at hb
      exact hq i b hb
    · rw [List.getElem?_append_right (by omega)] at hb
      have hi2 := (List.getElem?_eq_some_iff.1 hb).1
      simp at hi2
      have : i = n := by omega
      subst this
      simp [hl] at hb
      subst hb; exact ha
theorem flatMap_at {X : Type} {mk : X → List AV} {sz : Nat} : ∀ {l : List X}, (∀ x ∈ l, (mk x).length = sz) → ∀ {k : Nat} {y : AV}, (l.flatMap mk)[k]? = some y → ∃ i j a, k = i * sz + j ∧ j < sz ∧ l[i]? = some a ∧ (mk a)[j]? = some y
  | [], _, k, y, h => by simp at h
  | x :: l, hl, k, y, h => by
    have hx := hl x List.mem_cons_self
    rw [List.flatMap_cons] at h
    by_cases hk : k < sz
    · rw [List.getElem?_append_left (by omega)] at h
      exact ⟨0, k, x, by omega, hk, rfl, h⟩
    · rw [List.getElem?_append_right (by omega), hx] at h
      obtain ⟨i, j, a, e, hj, ha, hy⟩ := flatMap_at (fun z hz => hl z (List.mem_cons_of_mem _ hz)) h
      exact ⟨i + 1, j, a, by rw [Nat.succ_mul]; omega, hj, by simpa using ha, hy⟩
theorem opens_slice {e : TypeId} {X : Type} {ok : X → Prop} {mk : X → List AV} {sz : Nat} (ht : P.underlying t = some (.slice e)) (hc : P.cellsOf e = sz) (hsz : 0 < sz) (h : Opens enc P w e sz ok mk) :
    Opens enc P w t 1 (fun p : List X × Bool => p.1.length ≤ maxLen ∧ ∀ x ∈ p.1, ok x) (fun p => [.sl p.1.length (p.1.flatMap mk) p.2]) := by
  intro base spare held fuel cs x hx
  rcases DataW.trod_slice ht hx with ⟨rfl, _⟩ | ⟨a, len, cap, elems, rest, n, _, rfl, _, hb, hl, hm, hlen, hel, _, _⟩
  · exact ⟨([], true), ⟨by simp, by simp⟩, .cons _ _ _ _ _ (.nilsl _ _) (.nil _), by simp [one], rfl⟩
  rw [hc] at hel
  obtain ⟨l, hll, hq⟩ := exists_list (Q := fun i (x : X) => ok x ∧ (mk x).length = sz ∧ ∀ j y, (mk x)[j]? = some y → ∃ v, w.cell? ((a.add (i * sz)).add j) = some v ∧ Rep m0 (SOf w) w true v y ∧ one y = true) len (fun i hi => by
    have h1 := hel i hi
    rw [List.getElem?_eq_getElem (by omega), Option.bind_eq_some_iff] at h1
    obtain ⟨cs', hcs, hy⟩ := h1
    obtain ⟨_, hcl, hcc⟩ := World.cells?_some hcs
    obtain ⟨b, k0, r0, o0, l0⟩ := h _ _ _ _ _ _ hy
    refine ⟨b, k0, l0, fun j y hj => ?_⟩
    obtain ⟨v, hv, hr⟩ := repL_at r0 hj
    have hjl := (List.getElem?_eq_some_iff.1 hj).1
    exact ⟨v, by rw [hcc j (by omega), hv], hr, o0 y (List.mem_of_getElem? hj)⟩)
  have hok : ∀ x ∈ l, ok x ∧ (mk x).length = sz := fun x hx => by
    obtain ⟨i, hi⟩ := List.getElem?_of_mem hx
    exact ⟨(hq i x hi).1, (hq i x hi).2.1⟩
  refine ⟨(l, false), ⟨by simp only; omega, fun x hx => (hok x hx).1⟩, ?_, by simp [one], rfl⟩
  refine .cons _ _ _ _ _ ?_ (.nil _)
  simp only
  rw [hll]
  refine .sl _ _ _ _ _ _ hl (fun h => by cases h) ?_
  by_cases hz : l = []
  · subst hz; exact .nil _
  · obtain ⟨x0, hx0⟩ : ∃ x0, l[0]? = some x0 := ⟨l[0]'(List.length_pos_iff.2 hz), by simp [List.length_pos_iff.2 hz]⟩
    have h0 := hq 0 x0 hx0
    obtain ⟨y0, hy0⟩ : ∃ y0, (mk x0)[0]? = some y0 := ⟨(mk x0)[0]'(by omega), by simp [show 0 < (mk x0).length by omega]⟩
    obtain ⟨v0, hv0, _⟩ := h0.2.2 0 y0 hy0
    have hsp : a.spot = none := by simpa [Addr.add] using World.cell?_spot hv0
    obtain ⟨b, off, spot⟩ := a
    simp only at hsp; subst hsp
    refine Row.of_get fun i y hy => ?_
    obtain ⟨i1, j, x1, rfl, hj, hx1, hy1⟩ := flatMap_at (fun x hx => (hok x hx).2) hy
    obtain ⟨v, hv, hr, ho⟩ := (hq i1 x1 hx1).2.2 j y hy1
    rw [add_plain, add_plain] at hv
    rw [show off + (i1 * sz + j) = off + i1 * sz + j by omega]
    exact ⟨by unfold SOf; rw [hv]; rfl, v, hv, hr, ho⟩
theorem opens_arg {fs : Array Field} {r : Reach} {W : World} {sz : Nat} {X : Type} {ok : X → Prop} {mk : X → List AV} (ht : P.underlying t = some (.struct fs)) (h : Opens enc P w t sz ok mk) {v : Value} {base base2 : Nat} {sp : Nat → Bool} {held : Bool} {d : DataW H} {ps : List MemPlace}
    (hv : Value.okWide P w r base2 t v) (hT : DataW.Trod enc P w base sp held t v d ps) : ∃ a : X, ok a ∧ Rep m0 (SOf w) w true v (.agg (mk a)) := by
  obtain ⟨n, hn⟩ := hT
  simp only [Value.okWide, ht] at hv
  obtain ⟨cs, rfl, _, _⟩ := hv
  obtain ⟨a, k0, r0, o0, l0⟩ := h _ _ _ _ _ _ hn
  refine ⟨a, k0, ?_⟩
  have := Rep.agg (m := m0) (S := SOf w) (w := w) true cs.toList (mk a) (by simpa [Value.cells] using r0) o0
  simpa using this
end
theorem SOf_cell (w : World) : ∀ b j, SOf w b j → (w.cell? ⟨b, j, none⟩).isSome = true := fun _ _ h => h
theorem trod_grown {H : Type} {enc : TypeId × Value → H} {P : Program} {t : TypeId} (hl : laidOutB P = true) (hr : P.readableRec t = true) (hrow : t < P.types.size) {W W' : World} (hg : GrownO W W') {sp' : Nat → Bool} {v : Value} {d : DataW H} {ps : List MemPlace}
    (h : DataW.Trod enc P W 0 (fun _ => true) true t v d ps) (hlt : ∀ p ∈ ps, p.block < W.heap.size) (hs : ∀ p ∈ ps, sp' p.block = true) : DataW.Trod enc P W' 0 sp' true t v d ps :=
  WideElems.Trod_stays hl hr hrow h (fun p hp => by
    have := hg.heap p.block (hlt p hp)
    cases p <;> simp_all [World.sameAt, World.cell?, MemPlace.block]) hs
end Go.Px
