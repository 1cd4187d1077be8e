/- Code in one breath. -/
import Derived.Test.YtefondfmngjekaaGreatPzB
set_option linter.unusedVariables false
set_option linter.unusedSimpArgs false
namespace Go.Px
open Go

abbrev KB := List AV → List AV → TH → Ans
abbrev SPK := List (Nat × Acc) → KB
abbrev CZ := KB → (Nat → KB) → KB → KB

noncomputable def putZ (d : FD) (x : AV) (L V : List AV) (c : List AV → List AV → Ans) : Ans :=
  @FD.rec (fun _ => Ans) (c L V) (c (x :: L) V) (fun j => setZ V j x fun V => c L V) d
theorem putZ_eq (d : FD) (x : AV) (L V : List AV) (c : List AV → List AV → Ans) : putZ d x L V c = c (putFL d x L) (putFV d x V) := by
  cases d with
  | none => rfl
  | push => rfl
  | var j => exact setZ_eq V j x _

/-! ### one operation -/
noncomputable def zStep (E : Env) (call : CallTT) (fo : FO) (k : KB) : KB := fun L V H =>
  match runFT E call none fo L V H with
  | some (s, _) => k s.L s.V s.T
  | none => none

noncomputable def idleZ (a : Acc) (t e : Ans) : Ans :=
  @Acc.rec (fun _ => Ans) (fun rd wr all => @Bool.rec (fun _ => Ans) (@List.rec Nat (fun _ => Ans) (@List.rec Nat (fun _ => Ans) t (fun _ _ _ => e) wr) (fun _ _ _ => e) rd) e all) a
theorem idleZ_eq (a : Acc) (t e : Ans) : idleZ a t e = if a.idle = true then t else e := by
  obtain ⟨rd, wr, all⟩ := a
  cases all <;> cases rd <;> cases wr <;> rfl

/-- On, if it may stand where it stands. -/
noncomputable def accZ (bef : List Nat) (i : Nat) (acc : Acc) (sp : List (Nat × Acc)) (k : List (Nat × Acc) → Ans) : Ans :=
  idleZ acc (k sp) (ifZ (spOk bef i acc sp) (k ((i, acc) :: sp)) none)

noncomputable def zStepD (E : Env) (call : CallTT) (bef : List Nat) (n0 : Nat) (fo : FO) (k : SPK) : SPK := fun sp L V H =>
  match runFT E call (fo.slot n0) fo L V H with
  | some (s, acc) => accZ bef fo.idx acc sp fun sp => k sp s.L s.V s.T
  | none => none

noncomputable def zDst (d : FD) (v : VZ) (k : KB) : KB := fun L V H => v L V H fun x => putZ d x L V fun L V => k L V H

theorem runFO_pure {E : Env} {call : CallTT} {slot : Option Nat} {fo : FO} {v : VZ} (hg : fo.g = none) (hv : PureZ E fo.fa v) (L V : List AV) (H : TH) :
    ∃ r : Option AV, runFT E call slot fo L V H = r.map (fun x => (⟨putFL fo.dst x L, putFV fo.dst x V, H⟩, Acc.none)) ∧ ∀ c, v L V H c = match r with
      | some x => c x
      | none => none := by
  obtain ⟨r, h1, h2⟩ := hv L V H
  refine ⟨r, ?_, h2⟩
  unfold runFT
  simp only [wantedF, hg, h1]
  cases r with
  | none => rfl
  | some x => cases hl : fo.light <;> simp [primEff, effT, fW_eq, fV_eq, putF_eq]

theorem zDst_ok {E : Env} {call : CallTT} {fo : FO} {v : VZ} (hg : fo.g = none) (hv : PureZ E fo.fa v) (k : KB) : zStep E call fo k = zDst fo.dst v k := by
  funext L V H
  obtain ⟨r, h1, h2⟩ := runFO_pure (call := call) (slot := none) hg hv L V H
  simp only [zStep, zDst, h1, h2]
  cases r with
  | none => rfl
  | some x => simp [putZ_eq]
theorem zDst_okD {E : Env} {call : CallTT} {bef : List Nat} {n0 : Nat} {fo : FO} {v : VZ} (hg : fo.g = none) (hv : PureZ E fo.fa v) (k : SPK) : zStepD E call bef n0 fo k = fun sp => zDst fo.dst v (k sp) := by
  funext sp L V H
  obtain ⟨r, h1, h2⟩ := runFO_pure (call := call) (slot := fo.slot n0) hg hv L V H
  simp only [zStepD, zDst, h1, h2]
  cases r with
  | none => rfl
  | some x => simp [putZ_eq, accZ, idleZ_eq, Acc.idle, Acc.none]

/-! ### loads -/
abbrev WZ := List AV → List AV → TH → (AV → Acc → Ans) → Ans
def ReadZ (E : Env) (fa : FA) (v : WZ) : Prop := ∀ L V H, ∃ r : Option (AV × Acc), evalFT E L V H fa = r.map (fun p => (.val p.1, p.2)) ∧ ∀ c, v L V H c = match r with
  | some p => c p.1 p.2
  | none => none

noncomputable def wLoad (sz : Nat) (agg : Bool) (x : O) : WZ := fun L V H c => gZ x L V fun p =>
  ptrCZ p (fun cs => takeZ sz none cs fun r => mkVZ agg r fun x => c x Acc.none) (fun nm off => rowT none H nm fun cs => dropZ cs off fun l => takeZ sz none l fun r => mkVZ agg r fun x => c x (Acc.read nm)) none
theorem wLoad_ok {E : Env} {t : TypeId} {sz : Nat} {agg : Bool} (h : loadSz E t = some (sz, agg)) (h0 : sz ≠ 0) (x : O) : ReadZ E (.load t x) (wLoad sz agg x) := by
  intro L V H
  unfold loadSz at h
  simp only [Option.map_eq_some_iff] at h
  obtain ⟨i, hi, he⟩ := h
  cases he
  refine ⟨loadG E H.rd t (gO L V x), rfl, fun c => ?_⟩
  simp only [wLoad, gZ_eq, ptrCZ_eq, loadG, rd_eq, hi, Option.bind_eq_bind, Option.bind_some]
  cases gO L V x with
  | ref cs =>
    simp only [takeZ_eq, mkVZ_eq]
    split
    · cases mkV i.desc.isAgg (cs.take i.size) <;> rfl
    · rfl
  | loc nm off =>
    cases hrow : H.get nm with
    | none => simp only [rowT_eq, hrow]
    | some o =>
      cases o with
      | row e cs fr =>
        simp only [rowT_eq, hrow, takeZ_eq, mkVZ_eq, dropZ_eq, List.length_drop]
        by_cases hl : off + i.size ≤ cs.length
        · rw [if_pos (by omega), if_pos hl]
          cases mkV i.desc.isAgg ((cs.drop off).take i.size) <;> rfl
        · rw [if_neg (by omega), if_neg hl]
      | _ => simp only [rowT_eq, hrow]
  | _ => rfl

noncomputable def zDstW (d : FD) (w : WZ) (k : KB) : KB := fun L V H => w L V H fun x _ => putZ d x L V fun L V => k L V H
noncomputable def zDstWD (bef : List Nat) (i : Nat) (d : FD) (w : WZ) (k : SPK) : SPK := fun sp L V H => w L V H fun x acc => putZ d x L V fun L V => accZ bef i acc sp fun sp => k sp L V H

theorem runFO_read {E : Env} {call : CallTT} {slot : Option Nat} {fo : FO} {v : WZ} (hg : fo.g = none) (hv : ReadZ E fo.fa v) (L V : List AV) (H : TH) :
    ∃ r : Option (AV × Acc), runFT E call slot fo L V H = r.map (fun p => (⟨putFL fo.dst p.1 L, putFV fo.dst p.1 V, H⟩, p.2)) ∧ ∀ c, v L V H c = match r with
      | some p => c p.1 p.2
      | none => none := by
  obtain ⟨r, h1, h2⟩ := hv L V H
  refine ⟨r, ?_, h2⟩
  unfold runFT
  simp only [wantedF, hg, h1]
  cases r with
  | none => rfl
  | some x => cases hl : fo.light <;> simp [primEff, effT, fW_eq, fV_eq, putF_eq]
theorem zDstW_ok {E : Env} {call : CallTT} {fo : FO} {v : WZ} (hg : fo.g = none) (hv : ReadZ E fo.fa v) (k : KB) : zStep E call fo k = zDstW fo.dst v k := by
  funext L V H
  obtain ⟨r, h1, h2⟩ := runFO_read (call := call) (slot := none) hg hv L V H
  simp only [zStep, zDstW, h1, h2]
  cases r with
  | none => rfl
  | some x => simp [putZ_eq]
theorem zDstW_okD {E : Env} {call : CallTT} {bef : List Nat} {n0 : Nat} {fo : FO} {v : WZ} (hg : fo.g = none) (hv : ReadZ E fo.fa v) (k : SPK) : zStepD E call bef n0 fo k = zDstWD bef fo.idx fo.dst v k := by
  funext sp L V H
  obtain ⟨r, h1, h2⟩ := runFO_read (call := call) (slot := fo.slot n0) hg hv L V H
  simp only [zStepD, zDstWD, h1, h2]
  cases r with
  | none => rfl
  | some x => simp [putZ_eq]

/-! ### calls -/
noncomputable def ansC (x : Option (AV × TH × Acc)) (s : AV → TH → Acc → Ans) : Ans :=
  @Option.rec _ (fun _ => Ans) none (fun p => @Prod.rec _ _ (fun _ => Ans) (fun r q => @Prod.rec _ _ (fun _ => Ans) (fun H a => s r H a) q) p) x
theorem ansC_eq (x : Option (AV × TH × Acc)) (s : AV → TH → Acc → Ans) : ansC x s = match x with
  | some (r, H, a) => s r H a
  | none => none := by rcases x with _ | ⟨r, H, a⟩ <;> rfl

noncomputable def zCall (call : CallTT) (f : FuncId) (args : List O) (d : FD) (k : KB) : KB := fun L V H =>
  gZs args L V fun as => ansC (call (.func f) as H) fun r H _ => putZ d r L V fun L V => k L V H
noncomputable def zCallD (call : CallTT) (bef : List Nat) (i : Nat) (f : FuncId) (args : List O) (d : FD) (k : SPK) : SPK := fun sp L V H =>
  gZs args L V fun as => ansC (call (.func f) as H) fun r H acc => putZ d r L V fun L V => accZ bef i acc sp fun sp => k sp L V H

theorem runFO_call {E : Env} {call : CallTT} {slot : Option Nat} {fo : FO} {f : FuncId} {args : List O} (hg : fo.g = none) (hf : fo.fa = .call f args) (hp : ∀ as, E.prim f as = none) (L V : List AV) (H : TH) :
    runFT E call slot fo L V H = match call (.func f) (args.map (gO L V)) H with
      | some (r, H, acc) => some (⟨putFL fo.dst r L, putFV fo.dst r V, H⟩, acc)
      | none => none := by
  unfold runFT
  simp only [wantedF, hg, hf, evalFT, evalFA, List.append_nil, primEff, fS_eq, hp, effT, putF_eq]
  rcases call (.func f) (args.map (gO L V)) H with _ | ⟨r, H, a⟩ <;> rfl
theorem zCall_ok {E : Env} {call : CallTT} {fo : FO} {f : FuncId} {args : List O} (hg : fo.g = none) (hf : fo.fa = .call f args) (hp : ∀ as, E.prim f as = none) (k : KB) : zStep E call fo k = zCall call f args fo.dst k := by
  funext L V H
  simp only [zStep, zCall, runFO_call hg hf hp, gZs_eq, ansC_eq, putZ_eq]
  rcases call (.func f) (args.map (gO L V)) H with _ | ⟨r, H, a⟩ <;> rfl
theorem zCall_okD {E : Env} {call : CallTT} {bef : List Nat} {n0 : Nat} {fo : FO} {f : FuncId} {args : List O} (hg : fo.g = none) (hf : fo.fa = .call f args) (hp : ∀ as, E.prim f as = none) (k : SPK) : zStepD E call bef n0 fo k = zCallD call bef fo.idx f args fo.dst k := by
  funext sp L V H
  simp only [zStepD, zCallD, runFO_call hg hf hp, gZs_eq, ansC_eq, putZ_eq]
  rcases call (.func f) (args.map (gO L V)) H with _ | ⟨r, H, a⟩ <;> rfl

/-! ### guards -/
noncomputable def zG (g : O) (want : Bool) (d : FD) (i : KB → KB) (k : KB) : KB := fun L V H =>
  gZ g L V fun x => grdZ x want (i k L V H) (putZ d (.tup []) L V fun L V => k L V H) none
noncomputable def zGD (g : O) (want : Bool) (d : FD) (i : SPK → SPK) (k : SPK) : SPK := fun sp L V H =>
  gZ g L V fun x => grdZ x want (i k sp L V H) (putZ d (.tup []) L V fun L V => k sp L V H) none

def FO.free (fo : FO) : FO := ⟨fo.fa, fo.dst, none, fo.light, fo.idx, fo.sl⟩

theorem runFO_guard {E : Env} {call : CallTT} {slot : Option Nat} {fo : FO} {g : O} {want : Bool} (hg : fo.g = some (g, want)) (L V : List AV) (H : TH) :
    runFT E call slot fo L V H = match gO L V g with
      | .bool b => if (b == want) = true then runFT E call slot fo.free L V H else some (⟨putFL fo.dst (.tup []) L, putFV fo.dst (.tup []) V, H⟩, Acc.none)
      | .tup _ => some (⟨putFL fo.dst (.tup []) L, putFV fo.dst (.tup []) V, H⟩, Acc.none)
      | _ => none := by
  unfold runFT
  simp only [wantedF, hg, FO.free]
  cases gO L V g with
  | bool b => cases b <;> cases want <;> simp [putF_eq]
  | tup l => simp [putF_eq]
  | _ => rfl
theorem zG_ok {E : Env} {call : CallTT} {fo : FO} {g : O} {want : Bool} (hg : fo.g = some (g, want)) {i : KB → KB} (hi : ∀ k, zStep E call fo.free k = i k) (k : KB) : zStep E call fo k = zG g want fo.dst i k := by
  funext L V H
  simp only [zG, ← hi, gZ_eq, grdZ_eq, putZ_eq]
  simp only [zStep, runFO_guard hg]
  cases gO L V g with
  | bool b => by_cases hb : (b == want) = true <;> simp [hb]
  | _ => rfl
theorem zG_okD {E : Env} {call : CallTT} {bef : List Nat} {n0 : Nat} {fo : FO} {g : O} {want : Bool} (hg : fo.g = some (g, want)) {i : SPK → SPK} (hi : ∀ k, zStepD E call bef n0 fo.free k = i k) (k : SPK) : zStepD E call bef n0 fo k = zGD g want fo.dst i k := by
  funext sp L V H
  simp only [zGD, ← hi, gZ_eq, grdZ_eq, putZ_eq]
  simp only [zStepD, runFO_guard hg, FO.free, FO.slot]
  cases gO L V g with
  | bool b => by_cases hb : (b == want) = true <;> simp [hb, accZ, idleZ_eq, Acc.idle, Acc.none]
  | tup l => simp [accZ, idleZ_eq, Acc.idle, Acc.none]
  | _ => rfl

/-! ### the choice -/
noncomputable def zAct (E : Env) (np : Nat → Bool) (call : CallTT) (fo : FO) : KB → KB := match pureZ E fo.fa with
  | some v => zDst fo.dst v
  | none => match fo.fa with
    | .load t x => match loadSz E t with
      | some (sz, agg) => if sz = 0 then zStep E call fo.free else zDstW fo.dst (wLoad sz agg x)
      | none => zStep E call fo.free
    | .call f args => if np f then zCall call f args fo.dst else zStep E call fo.free
    | _ => zStep E call fo.free
noncomputable def zActD (E : Env) (np : Nat → Bool) (call : CallTT) (bef : List Nat) (fo : FO) (n0 : Nat) : SPK → SPK := match pureZ E fo.fa with
  | some v => fun k sp => zDst fo.dst v (k sp)
  | none => match fo.fa with
    | .load t x => match loadSz E t with
      | some (sz, agg) => if sz = 0 then zStepD E call bef n0 fo.free else zDstWD bef fo.idx fo.dst (wLoad sz agg x)
      | none => zStepD E call bef n0 fo.free
    | .call f args => if np f then zCallD call bef fo.idx f args fo.dst else zStepD E call bef n0 fo.free
    | _ => zStepD E call bef n0 fo.free

section
variable {E : Env} {np : Nat → Bool} {call : CallTT}
theorem zAct_ok (hnp : ∀ f, np f = true → ∀ as, E.prim f as = none) (fo : FO) (k : KB) : zStep E call fo.free k = zAct E np call fo k := by
  unfold zAct
  cases hv : pureZ E fo.fa with
  | some v => exact zDst_ok (fo := fo.free) rfl (pureZ_ok hv) k
  | none =>
    simp only
    cases hf : fo.fa with
    | load t x =>
      simp only
      cases hs : loadSz E t with
      | none => rfl
      | some p =>
        obtain ⟨sz, agg⟩ := p
        simp only
        by_cases h0 : sz = 0
        · rw [if_pos h0]
        · rw [if_neg h0]
          exact zDstW_ok (fo := fo.free) rfl (by show ReadZ E fo.fa _; rw [hf]; exact wLoad_ok hs h0 x) k
    | call f args =>
      simp only
      by_cases hn : np f = true
      · rw [if_pos hn]; exact zCall_ok (fo := fo.free) rfl hf (hnp f hn) k
      · rw [if_neg hn]
    | _ => rfl
theorem zActD_ok (hnp : ∀ f, np f = true → ∀ as, E.prim f as = none) {bef : List Nat} {n0 : Nat} (fo : FO) (k : SPK) : zStepD E call bef n0 fo.free k = zActD E np call bef fo n0 k := by
  unfold zActD
  cases hv : pureZ E fo.fa with
  | some v => exact zDst_okD (fo := fo.free) rfl (pureZ_ok hv) k
  | none =>
    simp only
    cases hf : fo.fa with
    | load t x =>
      simp only
      cases hs : loadSz E t with
      | none => rfl
      | some p =>
        obtain ⟨sz, agg⟩ := p
        simp only
        by_cases h0 : sz = 0
        · rw [if_pos h0]
        · rw [if_neg h0]
          exact zDstW_okD (fo := fo.free) rfl (by show ReadZ E fo.fa _; rw [hf]; exact wLoad_ok hs h0 x) k
    | call f args =>
      simp only
      by_cases hn : np f = true
      · rw [if_pos hn]; exact zCall_okD (fo := fo.free) rfl hf (hnp f hn) k
      · rw [if_neg hn]
    | _ => rfl
end

noncomputable def zOp (E : Env) (np : Nat → Bool) (call : CallTT) (fo : FO) : KB → KB := match fo.g with
  | none => zAct E np call fo
  | some (o, w) => zG o w fo.dst (zAct E np call fo)
noncomputable def zOpD (E : Env) (np : Nat → Bool) (call : CallTT) (bef : List Nat) (fo : FO) (n0 : Nat) : SPK → SPK := match fo.g with
  | none => zActD E np call bef fo n0
  | some (o, w) => zGD o w fo.dst (zActD E np call bef fo n0)

noncomputable def zOps (E : Env) (np : Nat → Bool) (call : CallTT) : List FO → KB → KB
  | [], k => k
  | fo :: r, k => zOp E np call fo (zOps E np call r k)
noncomputable def zOpsD (E : Env) (np : Nat → Bool) (call : CallTT) (bef : List Nat) : List FO → Nat → SPK → SPK
  | [], _, k => k
  | fo :: r, n0, k => zOpD E np call bef fo n0 (zOpsD E np call bef r n0 k)

section
variable {E : Env} {np : Nat → Bool} {call : CallTT}
theorem free_of {fo : FO} (h : fo.g = none) : fo.free = fo := by cases fo; simp at h; subst h; rfl
theorem zOp_ok (hnp : ∀ f, np f = true → ∀ as, E.prim f as = none) (fo : FO) (k : KB) : zStep E call fo k = zOp E np call fo k := by
  unfold zOp
  cases hg : fo.g with
  | none =>
    simp only
    rw [← zAct_ok hnp, free_of hg]
  | some p =>
    obtain ⟨o, w⟩ := p
    exact zG_ok hg (fun k => zAct_ok hnp fo k) k
theorem zOpD_ok (hnp : ∀ f, np f = true → ∀ as, E.prim f as = none) {bef : List Nat} {n0 : Nat} (fo : FO) (k : SPK) : zStepD E call bef n0 fo k = zOpD E np call bef fo n0 k := by
  unfold zOpD
  cases hg : fo.g with
  | none =>
    simp only
    rw [← zActD_ok hnp, free_of hg]
  | some p =>
    obtain ⟨o, w⟩ := p
    exact zG_okD hg (fun k => zActD_ok hnp fo k) k

theorem zOps_ok (hnp : ∀ f, np f = true → ∀ as, E.prim f as = none) (k : KB) : ∀ (fos : List FO) (L V : List AV) (H : TH), zOps E np call fos k L V H = match runFTs E call fos ⟨L, V, H⟩ with
    | some s => k s.L s.V s.T
    | none => none
  | [], L, V, H => rfl
  | fo :: r, L, V, H => by
    simp only [zOps, ← zOp_ok hnp, zStep, runFTs]
    cases runFT E call none fo L V H with
    | none => rfl
    | some q => obtain ⟨s, a⟩ := q; exact zOps_ok hnp k r s.L s.V s.T
theorem zOpsD_ok (hnp : ∀ f, np f = true → ∀ as, E.prim f as = none) {bef : List Nat} {n0 : Nat} (k : KB) : ∀ (fos : List FO) (sp : List (Nat × Acc)) (L V : List AV) (H : TH), zOpsD E np call bef fos n0 (fun _ => k) sp L V H = match runFTsD E call n0 bef fos ⟨L, V, H⟩ sp with
    | some s => k s.L s.V s.T
    | none => none
  | [], sp, L, V, H => rfl
  | fo :: r, sp, L, V, H => by
    simp only [zOpsD, ← zOpD_ok hnp, zStepD, runFTsD]
    cases runFT E call (fo.slot n0) fo L V H with
    | none => rfl
    | some q =>
      obtain ⟨s, a⟩ := q
      simp only [accZ, idleZ_eq, ifZ_eq]
      by_cases h1 : a.idle = true
      · simp only [h1, if_true]
        exact zOpsD_ok hnp k r sp s.L s.V s.T
      · simp only [h1, if_false]
        by_cases h2 : spOk bef fo.idx a sp = true
        · simp only [h2, if_true]
          exact zOpsD_ok hnp k r _ s.L s.V s.T
        · simp only [h2, if_false]; rfl
end

/-! ### code -/
noncomputable def zSkip : CZ := fun kn _ _ => kn
noncomputable def zReg (f : KB → KB) : CZ := fun kn _ _ _ V H => f kn [] V H
noncomputable def zDreg (n : Nat) (f : Nat → SPK → SPK) : CZ := fun kn _ _ _ V H => lenT H fun n0 => deadsT n H fun H' => f n0 (fun _ => kn) [] [] V H'
noncomputable def zSeq (a b : CZ) : CZ := fun kn kx kr => a (b kn kx kr) kx kr
noncomputable def zCond (c : O) (a b : CZ) : CZ := fun kn kx kr L V H => gZ c L V fun x => boolCZ x (a kn kx kr L V H) (b kn kx kr L V H) none
noncomputable def zBlock (id : Nat) (b : CZ) : CZ := fun kn kx kr => b kn (fun i L V H => ifZ (Nat.beq i id) (kn L V H) (kx i L V H)) kr
noncomputable def zLoop (fuel : Nat) (b : CZ) : CZ := fun _ kx kr => @Nat.rec (fun _ => KB) (fun _ _ _ => none) (fun _ ih => b ih kx kr) fuel
/-- A loop over a function. -/
noncomputable def gMZ (o : Option O) (L V : List AV) (c : AV → Ans) : Ans := @Option.rec O (fun _ => Ans) (c .undef) (fun o => gZ o L V c) o
theorem gMZ_eq (o : Option O) (L V : List AV) (c : AV → Ans) : gMZ o L V c = c (gM L V o) := by
  cases o with
  | none => rfl
  | some o => exact gZ_eq o L V c
noncomputable def gMsZ (os : List (Option O)) (L V : List AV) : (List AV → Ans) → Ans :=
  @List.rec (Option O) (fun _ => (List AV → Ans) → Ans) (fun c => c []) (fun o _ ih c => gMZ o L V fun v => ih fun l => c (v :: l)) os
theorem gMsZ_eq : ∀ (os : List (Option O)) (L V : List AV) (c : List AV → Ans), gMsZ os L V c = c (os.map (gM L V))
  | [], _, _, _ => rfl
  | o :: os, L, V, c => by
    show gMZ o L V (fun v => gMsZ os L V fun l => c (v :: l)) = _
    rw [gMZ_eq, gMsZ_eq os]; rfl

noncomputable def endZ (kn : KB) (kx : Nat → KB) (kr : KB) (L V : List AV) (l : Nat) (H : TH) : Ans :=
  match H.get l with
  | some (.loop st pend tm ps a b) => if st == .busy then none else match pend with
    | none => setT H l (.loop .exhausted pend tm ps a b) fun H => kn L V H
    | some .ret => setT H l (.loop .exhausted pend tm ps a b) fun H => kr L V H
    | some (.exit i) => setT H l (.loop .exhausted pend tm ps a b) fun H => kx i L V H
    | _ => none
  | _ => none

noncomputable def cloCZ (v : AV) (s : FuncId → List AV → Ans) : Ans := match v with
  | .clo g cs => s g cs
  | _ => none

noncomputable def zRange (cy : CallYT) (Y : YE) (f : O) (id : Nat) (caps mk : List (Option O)) (ps : List Nat) (asg body : Code) : CZ := fun kn kx kr L V H =>
  gZ f L V fun x => cloCZ x fun g cs => lenT H fun l => gMsZ caps L V fun W => pushT H (.loop .ready none (mk.map (gM L V)) ps asg body) fun H' =>
    ansC (cy (⟨l, id, W⟩ :: Y) (.func g) (.yield l :: cs) H') fun _ H _ => endZ kn kx kr L V l H

noncomputable def zExit (id : Nat) : CZ := fun _ kx _ => kx id
noncomputable def zRet : CZ := fun _ _ kr => kr

noncomputable def zOf (E : Env) (np : Nat → Bool) (cy : CallYT) (Y : YE) (fuel : Nat) : FC → CZ
  | .skip => zSkip
  | .reg fos => zReg (zOps E np (cy Y) fos)
  | .dreg n bef fos => zDreg n (zOpsD E np (cy Y) bef fos)
  | .seq a b => zSeq (zOf E np cy Y fuel a) (zOf E np cy Y fuel b)
  | .cond c a b => zCond c (zOf E np cy Y fuel a) (zOf E np cy Y fuel b)
  | .block id b => zBlock id (zOf E np cy Y fuel b)
  | .loop b => zLoop fuel (zOf E np cy Y fuel b)
  | .exit id => zExit id
  | .ret => zRet
  | .range f id caps mk ps asg body => zRange cy Y f id caps mk ps asg body

/-- What comes next, by how it went. -/
def goOn (kn : KB) (kx : Nat → KB) (kr : KB) : Option (AExit × FT) → Ans
  | some (.normal, s) => kn s.L s.V s.T
  | some (.exit i, s) => kx i s.L s.V s.T
  | some (.ret, s) => kr s.L s.V s.T
  | none => none

section
variable {E : Env} {np : Nat → Bool} {cy : CallYT} {Y : YE} {fuel : Nat}
theorem zOf_ok (hnp : ∀ f, np f = true → ∀ as, E.prim f as = none) : ∀ (fc : FC) (kn : KB) (kx : Nat → KB) (kr : KB) (L V : List AV) (H : TH), zOf E np cy Y fuel fc kn kx kr L V H = goOn kn kx kr (evalT E cy Y fuel fc ⟨L, V, H⟩)
  | .skip, kn, kx, kr, L, V, H => rfl
  | .reg fos, kn, kx, kr, L, V, H => by
    simp only [zOf, zReg, zOps_ok hnp, evalT]
    cases runFTs E (cy Y) fos ⟨[], V, H⟩ <;> rfl
  | .dreg n bef fos, kn, kx, kr, L, V, H => by
    simp only [zOf, zDreg, evalT, lenT_eq, deadsT_eq, zOpsD_ok hnp]
    cases runFTsD E (cy Y) H.n bef fos ⟨[], V, TH.deads n H⟩ [] <;> rfl
  | .seq a b, kn, kx, kr, L, V, H => by
    simp only [zOf, zSeq, evalT]
    rw [zOf_ok hnp a]
    rcases evalT E cy Y fuel a ⟨L, V, H⟩ with _ | ⟨_ | i | _, s⟩ <;> try rfl
    exact zOf_ok hnp b kn kx kr s.L s.V s.T
  | .cond c a b, kn, kx, kr, L, V, H => by
    simp only [zOf, zCond, evalT, gZ_eq, boolCZ_eq]
    cases gO L V c with
    | bool b' =>
      cases b' with
      | true => exact zOf_ok hnp a kn kx kr L V H
      | false => exact zOf_ok hnp b kn kx kr L V H
    | _ => rfl
  | .block id b, kn, kx, kr, L, V, H => by
    simp only [zOf, zBlock, evalT]
    rw [zOf_ok hnp b]
    rcases evalT E cy Y fuel b ⟨L, V, H⟩ with _ | ⟨_ | i | _, s⟩ <;> try rfl
    simp only [goOn, ifZ_eq]
    by_cases h : i = id
    · subst h; simp [goOn]
    · have : Nat.beq i id = false := by
        cases hb : Nat.beq i id with
        | false => rfl
        | true => exact absurd (Nat.eq_of_beq_eq_true hb) h
      simp [this, h, goOn]
  | .loop b, kn, kx, kr, L, V, H => by
    simp only [zOf, evalT]
    have : ∀ (n : Nat) (L V : List AV) (H : TH), (@Nat.rec (fun _ => KB) (fun _ _ _ => none) (fun _ ih => zOf E np cy Y fuel b ih kx kr) n : KB) L V H = goOn kn kx kr (loopT (evalT E cy Y fuel b) n ⟨L, V, H⟩) := by
      intro n
      induction n with
      | zero => intro L V H; rfl
      | succ n ih =>
        intro L V H
        show zOf E np cy Y fuel b _ kx kr L V H = _
        rw [zOf_ok hnp b]
        simp only [loopT]
        rcases evalT E cy Y fuel b ⟨L, V, H⟩ with _ | ⟨_ | i | _, s⟩ <;> try rfl
        exact ih s.L s.V s.T
    exact this fuel L V H
  | .exit id, kn, kx, kr, L, V, H => rfl
  | .ret, kn, kx, kr, L, V, H => rfl
  | .range f id caps mk ps asg body, kn, kx, kr, L, V, H => by
    simp only [zOf, zRange, evalT, gZ_eq, lenT_eq, gMsZ_eq, pushT_eq, ansC_eq]
    cases gO L V f with
    | clo g cs =>
      simp only [cloCZ]
      generalize cy _ (.func g) _ _ = q
      cases q with
      | none => rfl
      | some q =>
        obtain ⟨r, H1, ac⟩ := q
        simp only [endZ, endT, setT_eq]
        cases hl : H1.get H.n with
        | none => rfl
        | some o =>
          cases o with
          | loop st pend tm ps1 a b =>
            simp only
            split
            · rfl
            · cases pend with
              | none => rfl
              | some c => cases c <;> rfl
          | _ => rfl
    | _ => rfl
end
end Go.Px
