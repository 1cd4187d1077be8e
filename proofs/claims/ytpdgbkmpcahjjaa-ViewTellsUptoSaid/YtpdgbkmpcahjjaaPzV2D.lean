/- Views: merge (printed by gmerge.py). -/
import Derived.Test.YtpdgbkmpcahjjaaPzV2C
set_option linter.unusedVariables false
set_option linter.unusedSimpArgs false
set_option maxRecDepth 100000
namespace Go.Px
open Go
section
variable {E : Env} {L V : List AV} {H : Heap} {K : KB} {x : AV} {call : CallTT} {fo : FO} {a : Acc}
theorem zStep_toldN {f : Nat} {ar9 : List AV} {p : Heap → Option (Eff × Acc)} {o : AO} {a2 : Acc} {mk : Nat → AV} (hg : wantedF fo.g L V = some true) (he : evalFA E L V H fo.fa = some (.call (.func f) ar9, a)) (hp : E.prim f ar9 = some p) (hq : p H = some (.new o mk, a2)) :
  zStep E call fo K L V (rep H) = K (putFL fo.dst (mk H.length) L) (putFV fo.dst (mk H.length) V) (rep (H ++ [o])) := by
 have he' : evalFT E L V (rep H) fo.fa = some (.call (.func f) ar9, a) := by rw [evalFT_ok, he]
 simp [zStep, runFT, hg, he', primEff, fS_eq, hp, hq, tl_rep, effT, putF_eq, fV_eq, fO_eq, setT_eq, layT_eq, rep_lay, layNew]
theorem zStep_toldA {f nm n sz : Nat} {ar9 : List AV} {p : Heap → Option (Eff × Acc)} {o : AO} {a2 : Acc} (hg : wantedF fo.g L V = some true) (he : evalFA E L V H fo.fa = some (.call (.func f) ar9, a)) (hp : E.prim f ar9 = some p) (hq : p H = some (.app nm o n sz, a2)) :
  zStep E call fo K L V (rep H) = K (putFL fo.dst (.own H.length 0 n sz) L) (putFV fo.dst (.own H.length 0 n sz) V) (rep (H.set nm .dead ++ [o])) := by
 have he' : evalFT E L V (rep H) fo.fa = some (.call (.func f) ar9, a) := by rw [evalFT_ok, he]
 simp [zStep, runFT, hg, he', primEff, fS_eq, hp, hq, tl_rep, effT, putF_eq, fV_eq, fO_eq, setT_eq, layT_eq, rep_set, rep_lay, layNew]
theorem store_at {st nm off e2 : Nat} {cs vs : List AV} {p v : O} (ht : ∃ i, E.ty st = some i ∧ i.size = vs.length) (hv : vs.length ≠ 0) (ha : gO L V p = .loc nm off) (hr : H[nm]? = some (.row e2 cs false)) (hx : gO L V v = .agg vs) (hl : off + vs.length ≤ cs.length) :
  evalFA E L V H (.store st p v) = some (.put nm (.row e2 (lay cs off vs) false) (.tup []), ⟨[], [nm], false⟩) := by
 obtain ⟨i, h1, h2⟩ := ht
 simp [evalFA, storeA, h1, h2, ha, hr, hx, cellsOf, hl, hv]
end
end Go.Px
namespace Go.Proofs.PxV2
open Go Go.Px Go.Proofs
def Apart2 (v : AV) (nm : Nat) : Prop := ∀ b off n sz, v = .own b off n sz → b ≠ nm
theorem copC_app : ∀ (a b : List Cop), copC (a ++ b) = copC a ++ copC b
 | [], _ => rfl
 | (s, n, m) :: l, b => by simp [copC, copC_app l b]
theorem copC_take : ∀ (C : List Cop) (p : Nat), (copC C).take (p * 3) = copC (C.take p)
 | [], p => by simp [copC]
 | (s, n, m) :: l, 0 => by simp [copC]
 | (s, n, m) :: l, p + 1 => by
  rw [show (p + 1) * 3 = p * 3 + 1 + 1 + 1 by omega]
  simp [copC, copC_take l p]
theorem copC_drop : ∀ (C : List Cop) (p : Nat), (copC C).drop (p * 3) = copC (C.drop p)
 | [], p => by simp [copC]
 | (s, n, m) :: l, 0 => by simp [copC]
 | (s, n, m) :: l, p + 1 => by
  rw [show (p + 1) * 3 = p * 3 + 1 + 1 + 1 by omega]
  simp [copC, copC_drop l p]
theorem copC_set {C : List Cop} {p : Nat} {c x : Cop} (hp : C[p]? = some c) : lay (copC C) (p * 3) [.str x.1, .int .u64 (x.2.1 : Int), .int .u64 (x.2.2 : Int)] = copC (C.set p x) := by
 have hl := (List.getElem?_eq_some_iff.1 hp).1
 have e : C.set p x = C.take p ++ x :: C.drop (p + 1) := by
  rw [List.set_eq_take_append_cons_drop, if_pos hl]
 unfold lay
 rw [e, copC_app, copC_take, show p * 3 + List.length ([.str x.1, .int .u64 (x.2.1 : Int), .int .u64 (x.2.2 : Int)] : List AV) = (p + 1) * 3 by simp; omega, copC_drop]
 obtain ⟨s, n, m⟩ := x
 simp [copC]
def OwnC (H : Heap) (v : AV) (C : List Cop) : Prop := (C = [] ∧ v = .sl 0 [] true) ∨ (C ≠ [] ∧ ∃ nm, v = .own nm 0 C.length 3 ∧ H[nm]? = some (.row 59 (copC C) false))
theorem OwnC.app {H : Heap} {v : AV} {C : List Cop} (h : OwnC H v C) (Z : Heap) : OwnC (H ++ Z) v C := by
 rcases h with h | ⟨hne, nm, e, hr⟩
 ·exact .inl h
 ·exact .inr ⟨hne, nm, e, get_app hr⟩
theorem fzL_copC (g : Nat → Option AO) (k : Nat) : ∀ (l : List Cop), fzL (fzG E1 g (k + 1)) (copC l) = some (copC l, [])
 | [] => rfl
 | (s, n, m) :: l => by
  have ih := fzL_copC g k l
  simp only [copC, fzL, Option.bind_eq_bind, ih]
  rfl
theorem fzC {H : Heap} {v : AV} {C : List Cop} (h : OwnC H v C) : ∃ f ns, fzG E1 (rep H).get fzDeep v = some (.sl C.length (copC C) f, ns) := by
 rw [show (rep H).get = fun i => H[i]? from funext (rep_get _)]
 rcases h with ⟨rfl, rfl⟩ | ⟨hne, nm, rfl, hr⟩
 ·exact ⟨true, [], rfl⟩
 ·exact ⟨false, [nm], fzG_own (E := E1) (g := fun i => H[i]?) (k := 59) (n := C.length) (sz := 3) hr (copC_len C) (fzL_copC _ 58 C)⟩
theorem row23 : RowT E1 23 59 3 32 := ⟨⟨_, rfl, rfl⟩, ⟨_, rfl, rfl, rfl⟩, by decide, by decide⟩
theorem row230 : RowT E0 23 59 3 32 := ⟨⟨_, rfl, rfl⟩, ⟨_, rfl, rfl, rfl⟩, by decide, by decide⟩
def insC (g : Cop → Cop → Cop) (x : Cop) : List Cop → List Cop
 | [] => [x]
 | c :: l => if c.1 == x.1 then g c x :: l else if lessN x.1 c.1 then x :: c :: l else c :: insC g x l
theorem insC_hit (g : Cop → Cop → Cop) : ∀ {C : List Cop} {c x : Cop}, C[posC x.1 C]? = some c → c.1 = x.1 → insC g x C = C.set (posC x.1 C) (g c x)
 | [], c, x, h, _ => by simp at h
 | d :: l, c, x, h, he => by
  unfold posC at h ⊢
  split at h
  ·rename_i hl
   have hne : ¬ d.1 = x.1 := fun e => by rw [e, less_irrefl] at hl; cases hl
   have hn : lessN x.1 d.1 = false := by
    cases hh : lessN x.1 d.1 with
    | false => rfl
    | true => have := less_trans hl hh; rw [less_irrefl] at this; cases this
   simp [insC, hne, hn, hl, insC_hit g (C := l) (by simpa using h) he]
  ·rename_i hl
   simp at h; subst h
   simp [insC, he, less_irrefl]
theorem insC_miss (g : Cop → Cop → Cop) : ∀ {C : List Cop} {x : Cop}, hitC x.1 C = false → insC g x C = C.take (posC x.1 C) ++ x :: C.drop (posC x.1 C)
 | [], x, h => by simp [insC]
 | d :: l, x, h => by
  unfold hitC posC at h
  unfold posC
  by_cases hl : lessN d.1 x.1 = true
  ·rw [if_pos hl] at h ⊢
   have hne : ¬ d.1 = x.1 := fun e => by rw [e, less_irrefl] at hl; cases hl
   have hn : lessN x.1 d.1 = false := by
    cases hh : lessN x.1 d.1 with
    | false => rfl
    | true => have := less_trans hl hh; rw [less_irrefl] at this; cases this
   have ih := insC_miss g (C := l) (x := x) (by unfold hitC; simpa using h)
   simp [insC, hne, hn, ih]
  ·rw [if_neg hl] at h ⊢
   have hne : ¬ d.1 = x.1 := by simpa using h
   have hn : lessN x.1 d.1 = true := less_tri (by simpa using hl) hne
   simp [insC, hne, hn]
theorem insC_sorted (g : Cop → Cop → Cop) (hg : ∀ c d, c.1 = d.1 → (g c d).1 = c.1) (x : Cop) : ∀ {C : List Cop}, SortedC C → SortedC (insC g x C) ∧ ∀ y ∈ insC g x C, y.1 = x.1 ∨ ∃ c ∈ C, y.1 = c.1
 | [], _ => ⟨by simp [insC, SortedC], by simp [insC]⟩
 | d :: l, hC => by
  have hC' := List.pairwise_cons.1 hC
  obtain ⟨ih1, ih2⟩ := insC_sorted g hg x (C := l) hC'.2
  unfold insC
  by_cases he : d.1 = x.1
  ·rw [if_pos (by simpa using he)]
   have hk := hg d x he
   refine ⟨List.pairwise_cons.2 ⟨fun y hy => by rw [hk]; exact hC'.1 y hy, hC'.2⟩, fun y hy => ?_⟩
   rcases List.mem_cons.1 hy with rfl | hy
   ·exact .inl (hk.trans he)
   ·exact .inr ⟨y, List.mem_cons_of_mem _ hy, rfl⟩
  ·rw [if_neg (by simpa using he)]
   by_cases hl : lessN x.1 d.1 = true
   ·rw [if_pos hl]
    refine ⟨List.pairwise_cons.2 ⟨fun y hy => ?_, hC⟩, fun y hy => ?_⟩
    ·rcases List.mem_cons.1 hy with rfl | hy
     ·exact hl
     ·exact less_trans hl (hC'.1 y hy)
    ·rcases List.mem_cons.1 hy with rfl | hy
     ·exact .inl rfl
     ·exact .inr ⟨y, hy, rfl⟩
   ·rw [if_neg hl]
    refine ⟨List.pairwise_cons.2 ⟨fun y hy => ?_, ih1⟩, fun y hy => ?_⟩
    ·rcases ih2 y hy with h | ⟨c, hc, h⟩
     ·rw [h]; exact less_tri (by simpa using hl) (fun e => he e.symm)
     ·rw [h]; exact hC'.1 c hc
    ·rcases List.mem_cons.1 hy with rfl | hy
     ·exact .inr ⟨_, List.mem_cons_self, rfl⟩
     ·rcases ih2 y hy with h | ⟨c, hc, h⟩
      ·exact .inl h
      ·exact .inr ⟨c, List.mem_cons_of_mem _ hc, h⟩
theorem insC_len (g : Cop → Cop → Cop) (x : Cop) : ∀ (C : List Cop), (insC g x C).length ≤ C.length + 1
 | [] => by simp [insC]
 | d :: l => by
  have := insC_len g x l
  unfold insC
  split
  ·simp
  ·split <;> simp <;> omega
theorem c75J {k : Nat} (Y : YE) (H : Heap) (v : AV) (C : List Cop) (hv : OwnC H v C) (x : Cop) (hC : SortedC C) (hl : C.length < 100000) (hk : C.length < k) :
  ∃ a, CY (k + 4) Y (.func 75) [v, copA x, .clo 50 []] (rep H) = some (.tup [iV (posC x.1 C : Nat), .bool (hitC x.1 C)], rep H, a) := by
 obtain ⟨f, ns, hz⟩ := fzC hv
 have hb := search75 k ⟨[], C, false, f⟩ x.1 (x.2.1 : Int) (x.2.2 : Int) hC hl hk
 obtain ⟨H', hb⟩ := hb
 have hz2 : fzL (fzG E1 (rep H).get fzDeep) [v, copA x, .clo 50 []] = some ([.sl C.length (copC C) f, copA x, .clo 50 []], ns ++ []) := by
  simp only [fzL, Option.bind_eq_bind, hz, Option.bind_some]
  rfl
 have h := call_pure (E := E1) (GE := GE E1) (LZ := LZ E1) (k := k + 3) (Y := Y) (f := 75) (zf := G75 E1) (ns2 := []) (r' := .tup [iV (posC x.1 C : Nat), .bool (hitC x.1 C)]) rfl rfl hz2 hb rfl
 exact ⟨_, h⟩
theorem told76 (call : CallTT) (H : Heap) (v : AV) (C : List Cop) (hv : OwnC H v C) (x : Cop) (p xn : Nat) (hp : p ≤ C.length) (hx : H[xn]? = some (.row 59 [.str x.1, .int .u64 (x.2.1 : Int), .int .u64 (x.2.2 : Int)] false)) (hxv : Apart2 v xn) (hl : C.length < 100000) (L V : List AV) (o1 o2 o3 : O) (h1 : gO L V o1 = v) (h2 : gO L V o2 = iV (p : Nat)) (h3 : gO L V o3 = .own xn 0 1 3) (idx : Nat) (sl : Option Nat) :
  ∃ H' v', (∀ K, (zStep E1 call ⟨.call 76 [o1, o2, o3], .push, none, false, idx, sl⟩) K L V (rep H) = K (v' :: L) V (rep H')) ∧ OwnC H' v' (C.take p ++ x :: C.drop p) := by
 have hcl := copC_len C
 have ev : evalFA E1 L V H (.call 76 [o1, o2, o3]) = some (.call (.func 76) [v, iV (p : Nat), .own xn 0 1 3], Acc.none) := by
  rw [← h1, ← h2, ← h3]; rfl
 rcases hv with ⟨rfl, rfl⟩ | ⟨hne, nm, rfl, hr⟩
 ·have : p = 0 := by simpa using hp
  subst this
  have ha := append_firstG (L := [.sl 0 [] true, .own xn 0 1 3]) (V := []) (a := .l 0) (b := .l 1) row230 rfl rfl hx rfl (by decide) (by decide)
  have hq : (fun H => if (0 : Int) = (lenOf (.sl 0 [] true) : Int) then appendA E0 H 23 (.sl 0 [] true) (.own xn 0 1 3) else insOwn E0 59 H (.sl 0 [] true) 0 (.own xn 0 1 3)) H = some (.new (.row 59 [.str x.1, .int .u64 (x.2.1 : Int), .int .u64 (x.2.2 : Int)] false) (fun nm => .own nm 0 1 3), Acc.read xn) := ha
  refine ⟨H ++ [AO.row 59 [.str x.1, .int .u64 (x.2.1 : Int), .int .u64 (x.2.2 : Int)] false], .own H.length 0 1 3, fun K => (zStep_toldN rfl ev rfl hq).trans rfl, .inr ⟨by simp, H.length, by simp, ?_⟩⟩
  obtain ⟨s, n, m⟩ := x
  exact get_last
 ·have hpos : C.length ≠ 0 := fun h => hne (List.eq_nil_of_length_eq_zero h)
  by_cases hlen : p = C.length
  ·subst hlen
   have ha := append_nextG (L := [.own nm 0 C.length 3, .own xn 0 1 3]) (V := []) (a := .l 0) (b := .l 1) row230 rfl hr hcl rfl hx rfl (by decide) (by omega)
   have hq : (fun H => if (C.length : Int) = (lenOf (.own nm 0 C.length 3) : Int) then appendA E0 H 23 (.own nm 0 C.length 3) (.own xn 0 1 3) else insOwn E0 59 H (.own nm 0 C.length 3) (C.length : Int) (.own xn 0 1 3)) H = some (.app nm (.row 59 (copC C ++ [.str x.1, .int .u64 (x.2.1 : Int), .int .u64 (x.2.2 : Int)]) false) (C.length + 1) 3, ⟨[xn], [nm], false⟩) := by
    rw [show (lenOf (AV.own nm 0 C.length 3) : Int) = C.length from rfl]
    simp only [if_true]
    exact ha
   refine ⟨H.set nm .dead ++ [AO.row 59 (copC C ++ [.str x.1, .int .u64 (x.2.1 : Int), .int .u64 (x.2.2 : Int)]) false], .own H.length 0 (C.length + 1) 3, fun K => (zStep_toldA rfl ev rfl hq).trans rfl, .inr ⟨by simp, H.length, by simp, ?_⟩⟩
   have := get_last (H := H.set nm .dead) (o := AO.row 59 (copC C ++ [.str x.1, .int .u64 (x.2.1 : Int), .int .u64 (x.2.2 : Int)]) false)
   rw [List.length_set] at this
   rw [this]
   obtain ⟨s, n, m⟩ := x
   rw [List.take_length, List.drop_length, copC_app]
   rfl
  ·have hlt : p < C.length := by omega
   have hq : (fun H => if ((p : Nat) : Int) = (lenOf (.own nm 0 C.length 3) : Int) then appendA E0 H 23 (.own nm 0 C.length 3) (.own xn 0 1 3) else insOwn E0 59 H (.own nm 0 C.length 3) (p : Int) (.own xn 0 1 3)) H = some (.app nm (.row 59 (copC (C.take p) ++ [.str x.1, .int .u64 (x.2.1 : Int), .int .u64 (x.2.2 : Int)] ++ copC (C.drop p)) false) (C.length + 1) 3, ⟨[], [nm, xn], false⟩) := by
    have h0 : ¬ ((p : Nat) : Int) = (lenOf (AV.own nm 0 C.length 3) : Int) := by
     show ¬ ((p : Nat) : Int) = (C.length : Int); omega
    have hty : E0.ty 59 = some ⟨.struct [(0, 9), (1, 40), (2, 40)], 3, 32, [.str [], .int .u64 0, .int .u64 0]⟩ := rfl
    have hm : (C.length + 1) * 32 ≤ mostBytes ∧ C.length + 1 ≤ mostBytes := ⟨Nat.le_trans (Nat.mul_le_mul (show C.length + 1 ≤ 1000000 by omega) (show 32 ≤ 1000 by decide)) (by decide), Nat.le_trans (show C.length + 1 ≤ 1000000 by omega) (by decide)⟩
    simp only [if_neg h0]
    have hxn : xn ≠ nm := fun e => hxv _ _ _ _ rfl e.symm
    simp only [insOwn, hty, hr, hx]
    rw [if_pos ⟨trivial, trivial, by decide, by simpa using hcl.symm, by omega, by simpa using hlt, hm.1, hm.2, hxn, by decide, trivial, trivial, by simp⟩]
    rw [show ((p : Nat) : Int).toNat = p from rfl, List.drop_zero, copC_take, copC_drop]
    rfl
   refine ⟨H.set nm .dead ++ [AO.row 59 (copC (C.take p) ++ [.str x.1, .int .u64 (x.2.1 : Int), .int .u64 (x.2.2 : Int)] ++ copC (C.drop p)) false], .own H.length 0 (C.length + 1) 3, fun K => (zStep_toldA rfl ev rfl hq).trans rfl, .inr ⟨by simp, H.length, by simp; omega, ?_⟩⟩
   have := get_last (H := H.set nm .dead) (o := AO.row 59 (copC (C.take p) ++ [.str x.1, .int .u64 (x.2.1 : Int), .int .u64 (x.2.2 : Int)] ++ copC (C.drop p)) false)
   rw [List.length_set] at this
   rw [this]
   obtain ⟨s, n, m⟩ := x
   rw [copC_app]
   simp [copC]
noncomputable def body49 (call : CallTT) : CZ := (zSeq (zReg fun k => (zP (vInt E1 fLss .lss 3 false false (.v 2) (.v 3))) k)
 (zSeq (zCond (.l 0) zSkip (zExit 0))
 (zSeq (zBlock 1 (zSeq (zReg fun k => (zP (vIndexAddr 3 (.v 4) (.v 2))) ((zL 3 true (.l 0)) ((zStep E1 call ⟨.alloc 59, (.var 6), none, false, 2, (some 0)⟩) ((zStep E1 call ⟨.store 59 (.v 6) (.l 0), .none, none, false, 3, none⟩) k))))
 (zSeq (zReg fun k => (zL 3 true (.v 6)) ((zCall call 75 [(.v 5), (.l 0), (.v 7)] .push) ((zP (vExtract 0 (.l 0))) ((zP (vExtract 1 (.l 1))) ((zV 9 (vMv (.l 1))) ((zV 8 (vMv (.l 0))) k))))))
 (zSeq (zReg fun k => k)
 (zCond (.v 8) (zDreg 1 fun n0 k => (zPD (vIndexAddr 3 (.v 5) (.v 9))) ((zLD B15 6 3 true (.l 0)) ((zLD B15 7 3 true (.v 6)) ((zStepD E1 call B15 n0 ⟨.callv (.v 10) [(.l 1), (.l 0)], .push, none, false, 8, (some 0)⟩) ((zPD (vIndexAddr 3 (.v 5) (.v 9))) ((zStepD E1 call B15 n0 ⟨.store 59 (.l 0) (.l 1), .none, none, false, 10, none⟩) k)))))) (zReg fun k => (zP (vMv (.v 5))) ((zL 3 true (.v 6)) ((zStep E1 call ⟨.buildSlice 23 1 [(0, (.l 0))], .push, none, false, 3, (some 0)⟩) ((zStep E1 call ⟨.call 76 [(.l 2), (.v 9), (.l 0)], .push, none, false, 4, (some 1)⟩) ((zV 5 (vMv (.l 0))) k))))))))))
 (zReg fun k => (zP (vInt E1 fAdd .add 3 false true (.v 2) (.k (.int .i64 1)))) ((zV 2 (vMv (.l 0))) k)))))
def V49 (a : AV) (B : List Cop) (fb : Bool) (i out v6 v8 v9 : AV) (f : Nat) : List AV := [a, .sl B.length (copC B) fb, i, iV B.length, .sl B.length (copC B) fb, out, v6, .clo 50 [], v8, v9, .clo f [], .sl 0 [] true]
theorem loop49 (k : Nat) (Y : YE) (f : Nat) (g : Cop → Cop → Cop) (hnp : E1.prim f = fun _ => none) (hg : ∀ T c d, CY (k + 4) Y (.func f) [copA c, copA d] T = some (copA (g c d), T, ⟨[], [], false⟩)) (hgk : ∀ c d, c.1 = d.1 → (g c d).1 = c.1) (a : AV) (B : List Cop) (fb : Bool) (hB0 : B.length < 9223372036854775807) :
  ∀ (d i q : Nat) (H : Heap) (out : AV) (C : List Cop) (v6 v8 v9 : AV) (L : List AV), i + d = B.length → d < q → OwnC H out C → SortedC C → C.length + d < 50000 → C.length + d < k →
  ∃ L' H' out' v6' v8' v9', (∀ kn kx kr, zLoop q (body49 (CY (k + 4) Y)) kn kx kr L (V49 a B fb (iV i) out v6 v8 v9 f) (rep H) = kx 0 L' (V49 a B fb (iV B.length) out' v6' v8' v9' f) (rep H')) ∧ OwnC H' out' ((B.drop i).foldl (fun C x => insC g x C) C) ∧ SortedC ((B.drop i).foldl (fun C x => insC g x C) C)
 | 0, i, q, H, out, C, v6, v8, v9, L, hi, hq, ho, hC, hl1, hl2 => by
  obtain ⟨q', rfl⟩ : ∃ q', q = q' + 1 := ⟨q - 1, by omega⟩
  have hil : i = B.length := by omega
  subst hil
  refine ⟨[.bool false], H, out, v6, v8, v9, fun kn kx kr => ?_, by simpa using ho, by simpa using hC⟩
  rw [zLoop_succ]
  unfold body49
  refine zqR <| (zP_v (vInt_eq fLss_ok rfl rfl (lss_nat 0 E1))).trans ?_
  rw [show decide (B.length < B.length) = false by simp]
  refine zqA <| (zCond_eq (p := false) rfl).trans ?_
  rw [if_neg (by decide)]
  exact zExit_app
 | d + 1, i, q, H, out, C, v6, v8, v9, L, hi, hq, ho, hC, hl1, hl2 => by
  obtain ⟨q', rfl⟩ : ∃ q', q = q' + 1 := ⟨q - 1, by omega⟩
  have hlt : i < B.length := by omega
  obtain ⟨x, hs⟩ : ∃ x, B[i]? = some x := ⟨B[i], by simp [hlt]⟩
  have hB1 : B.length < 9223372036854775807 := hB0
  have hcl := copC_len B
  have hcC := copC_len C
  have hd : (copC B).drop (i * 3) = .str x.1 :: .int .u64 (x.2.1 : Int) :: .int .u64 (x.2.2 : Int) :: (copC B).drop (i * 3 + 3) := by
   obtain ⟨s, n, m⟩ := x
   exact cop_drop B i s n m hs
  obtain ⟨H1, eH1⟩ : ∃ H1, H1 = H ++ [AO.row 59 [.str x.1, .int .u64 (x.2.1 : Int), .int .u64 (x.2.2 : Int)] false] := ⟨_, rfl⟩
  have hr1 : H1[H.length]? = some (.row 59 [.str x.1, .int .u64 (x.2.1 : Int), .int .u64 (x.2.2 : Int)] false) := by rw [eH1]; exact get_last
  have ho1 : OwnC H1 out C := by rw [eH1]; exact ho.app _
  have hap : Apart2 out H.length := by
   rcases ho with ⟨_, rfl⟩ | ⟨_, nm, rfl, hr⟩
   ·intro b off n sz e; cases e
   ·intro b off n sz e; cases e; exact Nat.ne_of_lt (len_of hr)
  obtain ⟨ac, hcS⟩ := c75J (k := k) Y H1 out C ho1 x hC (by omega) (by omega)
  rw [drop_at hs, List.foldl_cons]
  obtain ⟨hsort, _⟩ := insC_sorted g hgk x hC
  have hlen := insC_len g x C
  have front : ∃ Lf, ∀ kn kx kr, zLoop (q' + 1) (body49 (CY (k + 4) Y)) kn kx kr L (V49 a B fb (iV i) out v6 v8 v9 f) (rep H) = (zCond (.v 8) (zDreg 1 fun n0 k0 => (zPD (vIndexAddr 3 (.v 5) (.v 9))) ((zLD B15 6 3 true (.l 0)) ((zLD B15 7 3 true (.v 6)) ((zStepD E1 (CY (k + 4) Y) B15 n0 ⟨.callv (.v 10) [(.l 1), (.l 0)], .push, none, false, 8, (some 0)⟩) ((zPD (vIndexAddr 3 (.v 5) (.v 9))) ((zStepD E1 (CY (k + 4) Y) B15 n0 ⟨.store 59 (.l 0) (.l 1), .none, none, false, 10, none⟩) k0)))))) (zReg fun k0 => (zP (vMv (.v 5))) ((zL 3 true (.v 6)) ((zStep E1 (CY (k + 4) Y) ⟨.buildSlice 23 1 [(0, (.l 0))], .push, none, false, 3, (some 0)⟩) ((zStep E1 (CY (k + 4) Y) ⟨.call 76 [(.l 2), (.v 9), (.l 0)], .push, none, false, 4, (some 1)⟩) ((zV 5 (vMv (.l 0))) k0)))))) ((zReg fun k0 => (zP (vInt E1 fAdd .add 3 false true (.v 2) (.k (.int .i64 1)))) ((zV 2 (vMv (.l 0))) k0)) (zLoop q' (body49 (CY (k + 4) Y)) kn kx kr) kx kr) (fun j L V H => ifZ (Nat.beq j 1) ((zReg fun k0 => (zP (vInt E1 fAdd .add 3 false true (.v 2) (.k (.int .i64 1)))) ((zV 2 (vMv (.l 0))) k0)) (zLoop q' (body49 (CY (k + 4) Y)) kn kx kr) kx kr L V H) (kx j L V H)) kr Lf (V49 a B fb (iV i) out (.loc H.length 0) (.bool (hitC x.1 C)) (iV (posC x.1 C : Nat)) f) (rep H1) := by
   refine ⟨[], fun kn kx kr => ?_⟩
   rw [zLoop_succ]
   conv => lhs; unfold body49
   refine zqR <| (zP_v (vInt_eq fLss_ok rfl rfl (lss_nat 0 E1))).trans ?_
   rw [show decide (i < B.length) = true by simp [hlt]]
   refine zqA <| (zCond_eq (p := true) rfl).trans ?_
   rw [if_pos rfl]
   refine zqK <| zqA <| zBlock_app.trans <| zqR <| (zP_v (vIndexAddr_sl rfl rfl hlt (by omega))).trans ?_
   rw [hd]
   refine (zL_v (wLoad_ref rfl (by simp) rfl)).trans ?_
   refine (zStep_newH rfl alloc59).trans ?_
   refine (zStep_putH rfl (store59 (nm := H.length) rfl get_last rfl)).trans ?_
   rw [set_app_last, ← eH1]
   refine zqR <| (zL_v (wLoad_loc (nm := H.length) (off := 0) rfl hr1 (by simp) rfl)).trans <| (zCall_eq hcS).trans <| (zP_v (vExtract_eq rfl rfl)).trans <| (zP_v (vExtract_eq rfl rfl)).trans <| zqV <| zqV <| zqR ?_
   rfl
  obtain ⟨Lf, front⟩ := front
  have next : ∀ (Ha : Heap) (oa : AV) (L : List AV), OwnC Ha oa (insC g x C) → ∃ L' H' out' v6' v8' v9', (∀ kn kx kr, ((zReg fun k0 => (zP (vInt E1 fAdd .add 3 false true (.v 2) (.k (.int .i64 1)))) ((zV 2 (vMv (.l 0))) k0)) (zLoop q' (body49 (CY (k + 4) Y)) kn kx kr) kx kr) L (V49 a B fb (iV i) oa (.loc H.length 0) (.bool (hitC x.1 C)) (iV (posC x.1 C : Nat)) f) (rep Ha) = kx 0 L' (V49 a B fb (iV B.length) out' v6' v8' v9' f) (rep H')) ∧ OwnC H' out' ((B.drop (i + 1)).foldl (fun C x => insC g x C) (insC g x C)) ∧ SortedC ((B.drop (i + 1)).foldl (fun C x => insC g x C) (insC g x C)) := fun Ha oa L hoa => by
   obtain ⟨L2, H2, out2, a6, a8, a9, e2, g2⟩ := loop49 k Y f g hnp hg hgk a B fb hB0 d (i + 1) q' Ha oa (insC g x C) (.loc H.length 0) (.bool (hitC x.1 C)) (iV (posC x.1 C : Nat)) [.int .i64 ((i + 1 : Nat) : Int)] (by omega) (by omega) hoa hsort (by omega) (by omega)
   refine ⟨L2, H2, out2, a6, a8, a9, fun kn kx kr => ?_, g2⟩
   refine zReg_eq.trans <| (zP_v (vInt_eq fAdd_ok rfl rfl rfl)).trans ?_
   rw [show IntKind.i64.wrap ((i : Int) + 1) = ((i + 1 : Nat) : Int) by rw [IntKind.wrap_i64]; have := hB1; omega]
   refine zqV ?_
   exact e2 kn kx kr
  cases hh : hitC x.1 C with
  | true =>
   rw [hh] at front next
   obtain ⟨c, hc, hck⟩ : ∃ c, C[posC x.1 C]? = some c ∧ c.1 = x.1 := by
    unfold hitC at hh
    split at hh
    ·rename_i c hc; exact ⟨c, hc, by simpa using hh⟩
    ·cases hh
   have hpl := (List.getElem?_eq_some_iff.1 hc).1
   rcases ho1 with ⟨rfl, _⟩ | ⟨hne, nm, rfl, hr⟩
   ·simp at hpl
   have hnm : nm ≠ H.length := hap _ _ _ _ rfl
   have hdc : (copC C).drop (0 + posC x.1 C * 3) = .str c.1 :: .int .u64 (c.2.1 : Int) :: .int .u64 (c.2.2 : Int) :: (copC C).drop (posC x.1 C * 3 + 3) := by
    rw [Nat.zero_add]
    obtain ⟨cs, cn, cm⟩ := c
    exact cop_drop C _ cs cn cm hc
   have hset := copC_set (x := g c x) hc
   obtain ⟨L2, H2, out2, a6, a8, a9, e2, g2⟩ := next ((H1 ++ List.replicate 1 AO.dead).set nm (.row 59 (copC (C.set (posC x.1 C) (g c x))) false)) (.own nm 0 C.length 3) [.loc nm (0 + posC x.1 C * 3), .agg [.str (g c x).1, .int .u64 ((g c x).2.1 : Int), .int .u64 ((g c x).2.2 : Int)], .agg [.str x.1, .int .u64 (x.2.1 : Int), .int .u64 (x.2.2 : Int)], .agg [.str c.1, .int .u64 (c.2.1 : Int), .int .u64 (c.2.2 : Int)], .loc nm (0 + posC x.1 C * 3)] (.inr ⟨by rw [insC_hit g hc hck]; simpa using hne, nm, by rw [insC_hit g hc hck]; simp, by rw [insC_hit g hc hck]; exact get_self (get_app hr)⟩)
   refine ⟨L2, H2, out2, a6, a8, a9, fun kn kx kr => ?_, g2⟩
   refine (front kn kx kr).trans <| (zCond_eq (p := true) rfl).trans ?_
   rw [if_pos rfl]
   refine zDreg_eq.trans <| (zPD_v (vIndexAddr_own rfl rfl hpl)).trans <| (zLD_v (wLoad_loc (off := 0 + posC x.1 C * 3) rfl (get_app hr) (by omega) (by rw [hdc]; rfl)) rfl spOk_nil).trans <| (zLD_v (wLoad_loc (nm := H.length) (off := 0) rfl (get_app hr1) (by simp) rfl) rfl (spOk_apart rfl spOk_nil)).trans <| (zStepD_callI (f := f) (ar9 := [copA c, copA x]) (a := Acc.none) rfl rfl (by rw [hnp]) (hg _ c x) rfl).trans <| (zPD_v (vIndexAddr_own rfl rfl hpl)).trans <| (zStepD_put rfl (store_at (vs := [.str (g c x).1, .int .u64 ((g c x).2.1 : Int), .int .u64 ((g c x).2.2 : Int)]) ⟨_, rfl, rfl⟩ (by simp) rfl (get_app hr) rfl (by simp; omega)) rfl (spOk_bef (by kernel_rfl) (spOk_bef (by kernel_rfl) spOk_nil))).trans ?_
   rw [show (0 + posC x.1 C * 3) = posC x.1 C * 3 by omega, hset]
   exact e2 kn kx kr
  | false =>
   rw [hh] at front next
   obtain ⟨H3, v3, e3, ho3⟩ := told76 (CY (k + 4) Y) (H1 ++ [AO.row 59 [.str x.1, .int .u64 (x.2.1 : Int), .int .u64 (x.2.2 : Int)] false]) out C (ho1.app _) x (posC x.1 C) H1.length (pos_le x.1 C) get_last (by
    rcases ho1 with ⟨_, rfl⟩ | ⟨_, nm, rfl, hr⟩
    ·intro b off n sz e; cases e
    ·intro b off n sz e; cases e; exact Nat.ne_of_lt (len_of hr)) (by omega) [.own H1.length 0 1 3, .agg [.str x.1, .int .u64 (x.2.1 : Int), .int .u64 (x.2.2 : Int)], out] (V49 a B fb (iV i) out (.loc H.length 0) (.bool false) (iV (posC x.1 C : Nat)) f) (.l 2) (.v 9) (.l 0) rfl rfl rfl 4 (some 1)
   obtain ⟨L2, H2, out2, a6, a8, a9, e2, g2⟩ := next H3 v3 [v3, .own H1.length 0 1 3, .agg [.str x.1, .int .u64 (x.2.1 : Int), .int .u64 (x.2.2 : Int)], out] (by rw [insC_miss g hh]; exact ho3)
   refine ⟨L2, H2, out2, a6, a8, a9, fun kn kx kr => ?_, g2⟩
   refine (front kn kx kr).trans <| (zCond_eq (p := false) rfl).trans ?_
   rw [if_neg (by decide)]
   refine zReg_eq.trans <| (zP_v vMv_eq).trans <| (zL_v (wLoad_loc (nm := H.length) (off := 0) rfl hr1 (by simp) rfl)).trans ?_
   refine (zStep_newH rfl (buildOne row23 rfl (by rfl) ⟨_, rfl, rfl⟩ (by decide))).trans ?_
   refine (e3 _).trans <| zqV ?_
   exact e2 kn kx kr
theorem lessI_irrefl (a : Int) : lessI a a = false := by simp [lessI]
theorem lessI_tri {a b : Int} (h : lessI a b = false) (hne : a ≠ b) : lessI b a = true := by simp [lessI] at *; omega
abbrev memB (c : Mem) : AV := .agg [iV c.1, .int .u64 (c.2 : Int)]
theorem memC_app : ∀ (a b : List Mem), memC (a ++ b) = memC a ++ memC b
 | [], _ => rfl
 | (s, n) :: l, b => by simp [memC, memC_app l b]
theorem memC_take : ∀ (C : List Mem) (p : Nat), (memC C).take (p * 2) = memC (C.take p)
 | [], p => by simp [memC]
 | (s, n) :: l, 0 => by simp [memC]
 | (s, n) :: l, p + 1 => by
  rw [show (p + 1) * 2 = p * 2 + 1 + 1 by omega]
  simp [memC, memC_take l p]
theorem memC_drop : ∀ (C : List Mem) (p : Nat), (memC C).drop (p * 2) = memC (C.drop p)
 | [], p => by simp [memC]
 | (s, n) :: l, 0 => by simp [memC]
 | (s, n) :: l, p + 1 => by
  rw [show (p + 1) * 2 = p * 2 + 1 + 1 by omega]
  simp [memC, memC_drop l p]
theorem memC_set {C : List Mem} {p : Nat} {c x : Mem} (hp : C[p]? = some c) : lay (memC C) (p * 2) [iV x.1, .int .u64 (x.2 : Int)] = memC (C.set p x) := by
 have hl := (List.getElem?_eq_some_iff.1 hp).1
 have e : C.set p x = C.take p ++ x :: C.drop (p + 1) := by
  rw [List.set_eq_take_append_cons_drop, if_pos hl]
 unfold lay
 rw [e, memC_app, memC_take, show p * 2 + List.length ([iV x.1, .int .u64 (x.2 : Int)] : List AV) = (p + 1) * 2 by simp; omega, memC_drop]
 obtain ⟨s, n⟩ := x
 simp [memC]
def OwnM (H : Heap) (v : AV) (C : List Mem) : Prop := (C = [] ∧ v = .sl 0 [] true) ∨ (C ≠ [] ∧ ∃ nm, v = .own nm 0 C.length 2 ∧ H[nm]? = some (.row 55 (memC C) false))
theorem OwnM.app {H : Heap} {v : AV} {C : List Mem} (h : OwnM H v C) (Z : Heap) : OwnM (H ++ Z) v C := by
 rcases h with h | ⟨hne, nm, e, hr⟩
 ·exact .inl h
 ·exact .inr ⟨hne, nm, e, get_app hr⟩
theorem fzL_memC (g : Nat → Option AO) (k : Nat) : ∀ (l : List Mem), fzL (fzG E1 g (k + 1)) (memC l) = some (memC l, [])
 | [] => rfl
 | (s, n) :: l => by
  have ih := fzL_memC g k l
  simp only [memC, fzL, Option.bind_eq_bind, ih]
  rfl
theorem fzM {H : Heap} {v : AV} {C : List Mem} (h : OwnM H v C) : ∃ f ns, fzG E1 (rep H).get fzDeep v = some (.sl C.length (memC C) f, ns) := by
 rw [show (rep H).get = fun i => H[i]? from funext (rep_get _)]
 rcases h with ⟨rfl, rfl⟩ | ⟨hne, nm, rfl, hr⟩
 ·exact ⟨true, [], rfl⟩
 ·exact ⟨false, [nm], fzG_own (E := E1) (g := fun i => H[i]?) (k := 59) (n := C.length) (sz := 2) hr (memC_len C) (fzL_memC _ 58 C)⟩
theorem row22 : RowT E1 22 55 2 16 := ⟨⟨_, rfl, rfl⟩, ⟨_, rfl, rfl, rfl⟩, by decide, by decide⟩
theorem row220 : RowT E0 22 55 2 16 := ⟨⟨_, rfl, rfl⟩, ⟨_, rfl, rfl, rfl⟩, by decide, by decide⟩
def insM (g : Mem → Mem → Mem) (x : Mem) : List Mem → List Mem
 | [] => [x]
 | c :: l => if c.1 == x.1 then g c x :: l else if lessI x.1 c.1 then x :: c :: l else c :: insM g x l
theorem insM_hit (g : Mem → Mem → Mem) : ∀ {C : List Mem} {c x : Mem}, C[posM x.1 C]? = some c → c.1 = x.1 → insM g x C = C.set (posM x.1 C) (g c x)
 | [], c, x, h, _ => by simp at h
 | d :: l, c, x, h, he => by
  unfold posM at h ⊢
  split at h
  ·rename_i hl
   have hne : ¬ d.1 = x.1 := fun e => by rw [e, lessI_irrefl] at hl; cases hl
   have hn : lessI x.1 d.1 = false := by
    cases hh : lessI x.1 d.1 with
    | false => rfl
    | true => have := lessI_trans hl hh; rw [lessI_irrefl] at this; cases this
   simp [insM, hne, hn, hl, insM_hit g (C := l) (by simpa using h) he]
  ·rename_i hl
   simp at h; subst h
   simp [insM, he, lessI_irrefl]
theorem insM_miss (g : Mem → Mem → Mem) : ∀ {C : List Mem} {x : Mem}, hitM x.1 C = false → insM g x C = C.take (posM x.1 C) ++ x :: C.drop (posM x.1 C)
 | [], x, h => by simp [insM]
 | d :: l, x, h => by
  unfold hitM posM at h
  unfold posM
  by_cases hl : lessI d.1 x.1 = true
  ·rw [if_pos hl] at h ⊢
   have hne : ¬ d.1 = x.1 := fun e => by rw [e, lessI_irrefl] at hl; cases hl
   have hn : lessI x.1 d.1 = false := by
    cases hh : lessI x.1 d.1 with
    | false => rfl
    | true => have := lessI_trans hl hh; rw [lessI_irrefl] at this; cases this
   have ih := insM_miss g (C := l) (x := x) (by unfold hitM; simpa using h)
   simp [insM, hne, hn, ih]
  ·rw [if_neg hl] at h ⊢
   have hne : ¬ d.1 = x.1 := by simpa using h
   have hn : lessI x.1 d.1 = true := lessI_tri (by simpa using hl) hne
   simp [insM, hne, hn]
theorem insM_sorted (g : Mem → Mem → Mem) (hg : ∀ c d, c.1 = d.1 → (g c d).1 = c.1) (x : Mem) : ∀ {C : List Mem}, SortedM C → SortedM (insM g x C) ∧ ∀ y ∈ insM g x C, y.1 = x.1 ∨ ∃ c ∈ C, y.1 = c.1
 | [], _ => ⟨by simp [insM, SortedM], by simp [insM]⟩
 | d :: l, hC => by
  have hC' := List.pairwise_cons.1 hC
  obtain ⟨ih1, ih2⟩ := insM_sorted g hg x (C := l) hC'.2
  unfold insM
  by_cases he : d.1 = x.1
  ·rw [if_pos (by simpa using he)]
   have hk := hg d x he
   refine ⟨List.pairwise_cons.2 ⟨fun y hy => by rw [hk]; exact hC'.1 y hy, hC'.2⟩, fun y hy => ?_⟩
   rcases List.mem_cons.1 hy with rfl | hy
   ·exact .inl (hk.trans he)
   ·exact .inr ⟨y, List.mem_cons_of_mem _ hy, rfl⟩
  ·rw [if_neg (by simpa using he)]
   by_cases hl : lessI x.1 d.1 = true
   ·rw [if_pos hl]
    refine ⟨List.pairwise_cons.2 ⟨fun y hy => ?_, hC⟩, fun y hy => ?_⟩
    ·rcases List.mem_cons.1 hy with rfl | hy
     ·exact hl
     ·exact lessI_trans hl (hC'.1 y hy)
    ·rcases List.mem_cons.1 hy with rfl | hy
     ·exact .inl rfl
     ·exact .inr ⟨y, hy, rfl⟩
   ·rw [if_neg hl]
    refine ⟨List.pairwise_cons.2 ⟨fun y hy => ?_, ih1⟩, fun y hy => ?_⟩
    ·rcases ih2 y hy with h | ⟨c, hc, h⟩
     ·rw [h]; exact lessI_tri (by simpa using hl) (fun e => he e.symm)
     ·rw [h]; exact hC'.1 c hc
    ·rcases List.mem_cons.1 hy with rfl | hy
     ·exact .inr ⟨_, List.mem_cons_self, rfl⟩
     ·rcases ih2 y hy with h | ⟨c, hc, h⟩
      ·exact .inl h
      ·exact .inr ⟨c, List.mem_cons_of_mem _ hc, h⟩
theorem insM_len (g : Mem → Mem → Mem) (x : Mem) : ∀ (C : List Mem), (insM g x C).length ≤ C.length + 1
 | [] => by simp [insM]
 | d :: l => by
  have := insM_len g x l
  unfold insM
  split
  ·simp
  ·split <;> simp <;> omega
theorem c79J {k : Nat} (Y : YE) (H : Heap) (v : AV) (C : List Mem) (hv : OwnM H v C) (x : Mem) (hC : SortedM C) (hl : C.length < 100000) (hk : C.length < k) :
  ∃ a, CY (k + 4) Y (.func 79) [v, memB x, .clo 45 []] (rep H) = some (.tup [iV (posM x.1 C : Nat), .bool (hitM x.1 C)], rep H, a) := by
 obtain ⟨f, ns, hz⟩ := fzM hv
 have hb := search79 k ⟨C, [], f, false⟩ x.1 (x.2 : Int) hC hl hk
 obtain ⟨H', hb⟩ := hb
 have hz2 : fzL (fzG E1 (rep H).get fzDeep) [v, memB x, .clo 45 []] = some ([.sl C.length (memC C) f, memB x, .clo 45 []], ns ++ []) := by
  simp only [fzL, Option.bind_eq_bind, hz, Option.bind_some]
  rfl
 have h := call_pure (E := E1) (GE := GE E1) (LZ := LZ E1) (k := k + 3) (Y := Y) (f := 79) (zf := G79 E1) (ns2 := []) (r' := .tup [iV (posM x.1 C : Nat), .bool (hitM x.1 C)]) rfl rfl hz2 hb rfl
 exact ⟨_, h⟩
theorem told80 (call : CallTT) (H : Heap) (v : AV) (C : List Mem) (hv : OwnM H v C) (x : Mem) (p xn : Nat) (hp : p ≤ C.length) (hx : H[xn]? = some (.row 55 [iV x.1, .int .u64 (x.2 : Int)] false)) (hxv : Apart2 v xn) (hl : C.length < 100000) (L V : List AV) (o1 o2 o3 : O) (h1 : gO L V o1 = v) (h2 : gO L V o2 = iV (p : Nat)) (h3 : gO L V o3 = .own xn 0 1 2) (idx : Nat) (sl : Option Nat) :
  ∃ H' v', (∀ K, (zStep E1 call ⟨.call 80 [o1, o2, o3], .push, none, false, idx, sl⟩) K L V (rep H) = K (v' :: L) V (rep H')) ∧ OwnM H' v' (C.take p ++ x :: C.drop p) := by
 have hcl := memC_len C
 have ev : evalFA E1 L V H (.call 80 [o1, o2, o3]) = some (.call (.func 80) [v, iV (p : Nat), .own xn 0 1 2], Acc.none) := by
  rw [← h1, ← h2, ← h3]; rfl
 rcases hv with ⟨rfl, rfl⟩ | ⟨hne, nm, rfl, hr⟩
 ·have : p = 0 := by simpa using hp
  subst this
  have ha := append_firstG (L := [.sl 0 [] true, .own xn 0 1 2]) (V := []) (a := .l 0) (b := .l 1) row220 rfl rfl hx rfl (by decide) (by decide)
  have hq : (fun H => if (0 : Int) = (lenOf (.sl 0 [] true) : Int) then appendA E0 H 22 (.sl 0 [] true) (.own xn 0 1 2) else insOwn E0 55 H (.sl 0 [] true) 0 (.own xn 0 1 2)) H = some (.new (.row 55 [iV x.1, .int .u64 (x.2 : Int)] false) (fun nm => .own nm 0 1 2), Acc.read xn) := ha
  refine ⟨H ++ [AO.row 55 [iV x.1, .int .u64 (x.2 : Int)] false], .own H.length 0 1 2, fun K => (zStep_toldN rfl ev rfl hq).trans rfl, .inr ⟨by simp, H.length, by simp, ?_⟩⟩
  obtain ⟨s, n⟩ := x
  exact get_last
 ·have hpos : C.length ≠ 0 := fun h => hne (List.eq_nil_of_length_eq_zero h)
  by_cases hlen : p = C.length
  ·subst hlen
   have ha := append_nextG (L := [.own nm 0 C.length 2, .own xn 0 1 2]) (V := []) (a := .l 0) (b := .l 1) row220 rfl hr hcl rfl hx rfl (by decide) (by omega)
   have hq : (fun H => if (C.length : Int) = (lenOf (.own nm 0 C.length 2) : Int) then appendA E0 H 22 (.own nm 0 C.length 2) (.own xn 0 1 2) else insOwn E0 55 H (.own nm 0 C.length 2) (C.length : Int) (.own xn 0 1 2)) H = some (.app nm (.row 55 (memC C ++ [iV x.1, .int .u64 (x.2 : Int)]) false) (C.length + 1) 2, ⟨[xn], [nm], false⟩) := by
    rw [show (lenOf (AV.own nm 0 C.length 2) : Int) = C.length from rfl]
    simp only [if_true]
    exact ha
   refine ⟨H.set nm .dead ++ [AO.row 55 (memC C ++ [iV x.1, .int .u64 (x.2 : Int)]) false], .own H.length 0 (C.length + 1) 2, fun K => (zStep_toldA rfl ev rfl hq).trans rfl, .inr ⟨by simp, H.length, by simp, ?_⟩⟩
   have := get_last (H := H.set nm .dead) (o := AO.row 55 (memC C ++ [iV x.1, .int .u64 (x.2 : Int)]) false)
   rw [List.length_set] at this
   rw [this]
   obtain ⟨s, n⟩ := x
   rw [List.take_length, List.drop_length, memC_app]
   rfl
  ·have hlt : p < C.length := by omega
   have hq : (fun H => if ((p : Nat) : Int) = (lenOf (.own nm 0 C.length 2) : Int) then appendA E0 H 22 (.own nm 0 C.length 2) (.own xn 0 1 2) else insOwn E0 55 H (.own nm 0 C.length 2) (p : Int) (.own xn 0 1 2)) H = some (.app nm (.row 55 (memC (C.take p) ++ [iV x.1, .int .u64 (x.2 : Int)] ++ memC (C.drop p)) false) (C.length + 1) 2, ⟨[], [nm, xn], false⟩) := by
    have h0 : ¬ ((p : Nat) : Int) = (lenOf (AV.own nm 0 C.length 2) : Int) := by
     show ¬ ((p : Nat) : Int) = (C.length : Int); omega
    have hty : E0.ty 55 = some ⟨.struct [(0, 3), (1, 40)], 2, 16, [.int .i64 0, .int .u64 0]⟩ := rfl
    have hm : (C.length + 1) * 16 ≤ mostBytes ∧ C.length + 1 ≤ mostBytes := ⟨Nat.le_trans (Nat.mul_le_mul (show C.length + 1 ≤ 1000000 by omega) (show 16 ≤ 1000 by decide)) (by decide), Nat.le_trans (show C.length + 1 ≤ 1000000 by omega) (by decide)⟩
    simp only [if_neg h0]
    have hxn : xn ≠ nm := fun e => hxv _ _ _ _ rfl e.symm
    simp only [insOwn, hty, hr, hx]
    rw [if_pos ⟨trivial, trivial, by decide, by simpa using hcl.symm, by omega, by simpa using hlt, hm.1, hm.2, hxn, by decide, trivial, trivial, by simp⟩]
    rw [show ((p : Nat) : Int).toNat = p from rfl, List.drop_zero, memC_take, memC_drop]
    rfl
   refine ⟨H.set nm .dead ++ [AO.row 55 (memC (C.take p) ++ [iV x.1, .int .u64 (x.2 : Int)] ++ memC (C.drop p)) false], .own H.length 0 (C.length + 1) 2, fun K => (zStep_toldA rfl ev rfl hq).trans rfl, .inr ⟨by simp, H.length, by simp; omega, ?_⟩⟩
   have := get_last (H := H.set nm .dead) (o := AO.row 55 (memC (C.take p) ++ [iV x.1, .int .u64 (x.2 : Int)] ++ memC (C.drop p)) false)
   rw [List.length_set] at this
   rw [this]
   obtain ⟨s, n⟩ := x
   rw [memC_app]
   simp [memC]
noncomputable def body54 (call : CallTT) : CZ := (zSeq (zReg fun k => (zP (vInt E1 fLss .lss 3 false false (.v 2) (.v 3))) k)
 (zSeq (zCond (.l 0) zSkip (zExit 0))
 (zSeq (zBlock 1 (zSeq (zReg fun k => (zP (vIndexAddr 2 (.v 4) (.v 2))) ((zL 2 true (.l 0)) ((zStep E1 call ⟨.alloc 55, (.var 6), none, false, 2, (some 0)⟩) ((zStep E1 call ⟨.store 55 (.v 6) (.l 0), .none, none, false, 3, none⟩) k))))
 (zSeq (zReg fun k => (zL 2 true (.v 6)) ((zCall call 79 [(.v 5), (.l 0), (.v 7)] .push) ((zP (vExtract 0 (.l 0))) ((zP (vExtract 1 (.l 1))) ((zV 9 (vMv (.l 1))) ((zV 8 (vMv (.l 0))) k))))))
 (zSeq (zReg fun k => k)
 (zCond (.v 8) (zDreg 1 fun n0 k => (zPD (vIndexAddr 2 (.v 5) (.v 9))) ((zLD B15 6 2 true (.l 0)) ((zLD B15 7 2 true (.v 6)) ((zStepD E1 call B15 n0 ⟨.callv (.v 10) [(.l 1), (.l 0)], .push, none, false, 8, (some 0)⟩) ((zPD (vIndexAddr 2 (.v 5) (.v 9))) ((zStepD E1 call B15 n0 ⟨.store 55 (.l 0) (.l 1), .none, none, false, 10, none⟩) k)))))) (zReg fun k => (zP (vMv (.v 5))) ((zL 2 true (.v 6)) ((zStep E1 call ⟨.buildSlice 22 1 [(0, (.l 0))], .push, none, false, 3, (some 0)⟩) ((zStep E1 call ⟨.call 80 [(.l 2), (.v 9), (.l 0)], .push, none, false, 4, (some 1)⟩) ((zV 5 (vMv (.l 0))) k))))))))))
 (zReg fun k => (zP (vInt E1 fAdd .add 3 false true (.v 2) (.k (.int .i64 1)))) ((zV 2 (vMv (.l 0))) k)))))
def V54 (a : AV) (B : List Mem) (fb : Bool) (i out v6 v8 v9 : AV) (f : Nat) : List AV := [a, .sl B.length (memC B) fb, i, iV B.length, .sl B.length (memC B) fb, out, v6, .clo 45 [], v8, v9, .clo f [], .sl 0 [] true]
theorem loop54 (k : Nat) (Y : YE) (f : Nat) (g : Mem → Mem → Mem) (hnp : E1.prim f = fun _ => none) (hg : ∀ T c d, CY (k + 4) Y (.func f) [memB c, memB d] T = some (memB (g c d), T, ⟨[], [], false⟩)) (hgk : ∀ c d, c.1 = d.1 → (g c d).1 = c.1) (a : AV) (B : List Mem) (fb : Bool) (hB0 : B.length < 9223372036854775807) :
  ∀ (d i q : Nat) (H : Heap) (out : AV) (C : List Mem) (v6 v8 v9 : AV) (L : List AV), i + d = B.length → d < q → OwnM H out C → SortedM C → C.length + d < 50000 → C.length + d < k →
  ∃ L' H' out' v6' v8' v9', (∀ kn kx kr, zLoop q (body54 (CY (k + 4) Y)) kn kx kr L (V54 a B fb (iV i) out v6 v8 v9 f) (rep H) = kx 0 L' (V54 a B fb (iV B.length) out' v6' v8' v9' f) (rep H')) ∧ OwnM H' out' ((B.drop i).foldl (fun C x => insM g x C) C) ∧ SortedM ((B.drop i).foldl (fun C x => insM g x C) C)
 | 0, i, q, H, out, C, v6, v8, v9, L, hi, hq, ho, hC, hl1, hl2 => by
  obtain ⟨q', rfl⟩ : ∃ q', q = q' + 1 := ⟨q - 1, by omega⟩
  have hil : i = B.length := by omega
  subst hil
  refine ⟨[.bool false], H, out, v6, v8, v9, fun kn kx kr => ?_, by simpa using ho, by simpa using hC⟩
  rw [zLoop_succ]
  unfold body54
  refine zqR <| (zP_v (vInt_eq fLss_ok rfl rfl (lss_nat 0 E1))).trans ?_
  rw [show decide (B.length < B.length) = false by simp]
  refine zqA <| (zCond_eq (p := false) rfl).trans ?_
  rw [if_neg (by decide)]
  exact zExit_app
 | d + 1, i, q, H, out, C, v6, v8, v9, L, hi, hq, ho, hC, hl1, hl2 => by
  obtain ⟨q', rfl⟩ : ∃ q', q = q' + 1 := ⟨q - 1, by omega⟩
  have hlt : i < B.length := by omega
  obtain ⟨x, hs⟩ : ∃ x, B[i]? = some x := ⟨B[i], by simp [hlt]⟩
  have hB1 : B.length < 9223372036854775807 := hB0
  have hcl := memC_len B
  have hcC := memC_len C
  have hd : (memC B).drop (i * 2) = iV x.1 :: .int .u64 (x.2 : Int) :: (memC B).drop (i * 2 + 2) := by
   obtain ⟨s, n⟩ := x
   exact mem_drop B i s n hs
  obtain ⟨H1, eH1⟩ : ∃ H1, H1 = H ++ [AO.row 55 [iV x.1, .int .u64 (x.2 : Int)] false] := ⟨_, rfl⟩
  have hr1 : H1[H.length]? = some (.row 55 [iV x.1, .int .u64 (x.2 : Int)] false) := by rw [eH1]; exact get_last
  have ho1 : OwnM H1 out C := by rw [eH1]; exact ho.app _
  have hap : Apart2 out H.length := by
   rcases ho with ⟨_, rfl⟩ | ⟨_, nm, rfl, hr⟩
   ·intro b off n sz e; cases e
   ·intro b off n sz e; cases e; exact Nat.ne_of_lt (len_of hr)
  obtain ⟨ac, hcS⟩ := c79J (k := k) Y H1 out C ho1 x hC (by omega) (by omega)
  rw [drop_at hs, List.foldl_cons]
  obtain ⟨hsort, _⟩ := insM_sorted g hgk x hC
  have hlen := insM_len g x C
  have front : ∃ Lf, ∀ kn kx kr, zLoop (q' + 1) (body54 (CY (k + 4) Y)) kn kx kr L (V54 a B fb (iV i) out v6 v8 v9 f) (rep H) = (zCond (.v 8) (zDreg 1 fun n0 k0 => (zPD (vIndexAddr 2 (.v 5) (.v 9))) ((zLD B15 6 2 true (.l 0)) ((zLD B15 7 2 true (.v 6)) ((zStepD E1 (CY (k + 4) Y) B15 n0 ⟨.callv (.v 10) [(.l 1), (.l 0)], .push, none, false, 8, (some 0)⟩) ((zPD (vIndexAddr 2 (.v 5) (.v 9))) ((zStepD E1 (CY (k + 4) Y) B15 n0 ⟨.store 55 (.l 0) (.l 1), .none, none, false, 10, none⟩) k0)))))) (zReg fun k0 => (zP (vMv (.v 5))) ((zL 2 true (.v 6)) ((zStep E1 (CY (k + 4) Y) ⟨.buildSlice 22 1 [(0, (.l 0))], .push, none, false, 3, (some 0)⟩) ((zStep E1 (CY (k + 4) Y) ⟨.call 80 [(.l 2), (.v 9), (.l 0)], .push, none, false, 4, (some 1)⟩) ((zV 5 (vMv (.l 0))) k0)))))) ((zReg fun k0 => (zP (vInt E1 fAdd .add 3 false true (.v 2) (.k (.int .i64 1)))) ((zV 2 (vMv (.l 0))) k0)) (zLoop q' (body54 (CY (k + 4) Y)) kn kx kr) kx kr) (fun j L V H => ifZ (Nat.beq j 1) ((zReg fun k0 => (zP (vInt E1 fAdd .add 3 false true (.v 2) (.k (.int .i64 1)))) ((zV 2 (vMv (.l 0))) k0)) (zLoop q' (body54 (CY (k + 4) Y)) kn kx kr) kx kr L V H) (kx j L V H)) kr Lf (V54 a B fb (iV i) out (.loc H.length 0) (.bool (hitM x.1 C)) (iV (posM x.1 C : Nat)) f) (rep H1) := by
   refine ⟨[], fun kn kx kr => ?_⟩
   rw [zLoop_succ]
   conv => lhs; unfold body54
   refine zqR <| (zP_v (vInt_eq fLss_ok rfl rfl (lss_nat 0 E1))).trans ?_
   rw [show decide (i < B.length) = true by simp [hlt]]
   refine zqA <| (zCond_eq (p := true) rfl).trans ?_
   rw [if_pos rfl]
   refine zqK <| zqA <| zBlock_app.trans <| zqR <| (zP_v (vIndexAddr_sl rfl rfl hlt (by omega))).trans ?_
   rw [hd]
   refine (zL_v (wLoad_ref rfl (by simp) rfl)).trans ?_
   refine (zStep_newH rfl alloc55).trans ?_
   refine (zStep_putH rfl (store55 (nm := H.length) rfl get_last rfl)).trans ?_
   rw [set_app_last, ← eH1]
   refine zqR <| (zL_v (wLoad_loc (nm := H.length) (off := 0) rfl hr1 (by simp) rfl)).trans <| (zCall_eq hcS).trans <| (zP_v (vExtract_eq rfl rfl)).trans <| (zP_v (vExtract_eq rfl rfl)).trans <| zqV <| zqV <| zqR ?_
   rfl
  obtain ⟨Lf, front⟩ := front
  have next : ∀ (Ha : Heap) (oa : AV) (L : List AV), OwnM Ha oa (insM g x C) → ∃ L' H' out' v6' v8' v9', (∀ kn kx kr, ((zReg fun k0 => (zP (vInt E1 fAdd .add 3 false true (.v 2) (.k (.int .i64 1)))) ((zV 2 (vMv (.l 0))) k0)) (zLoop q' (body54 (CY (k + 4) Y)) kn kx kr) kx kr) L (V54 a B fb (iV i) oa (.loc H.length 0) (.bool (hitM x.1 C)) (iV (posM x.1 C : Nat)) f) (rep Ha) = kx 0 L' (V54 a B fb (iV B.length) out' v6' v8' v9' f) (rep H')) ∧ OwnM H' out' ((B.drop (i + 1)).foldl (fun C x => insM g x C) (insM g x C)) ∧ SortedM ((B.drop (i + 1)).foldl (fun C x => insM g x C) (insM g x C)) := fun Ha oa L hoa => by
   obtain ⟨L2, H2, out2, a6, a8, a9, e2, g2⟩ := loop54 k Y f g hnp hg hgk a B fb hB0 d (i + 1) q' Ha oa (insM g x C) (.loc H.length 0) (.bool (hitM x.1 C)) (iV (posM x.1 C : Nat)) [.int .i64 ((i + 1 : Nat) : Int)] (by omega) (by omega) hoa hsort (by omega) (by omega)
   refine ⟨L2, H2, out2, a6, a8, a9, fun kn kx kr => ?_, g2⟩
   refine zReg_eq.trans <| (zP_v (vInt_eq fAdd_ok rfl rfl rfl)).trans ?_
   rw [show IntKind.i64.wrap ((i : Int) + 1) = ((i + 1 : Nat) : Int) by rw [IntKind.wrap_i64]; have := hB1; omega]
   refine zqV ?_
   exact e2 kn kx kr
  cases hh : hitM x.1 C with
  | true =>
   rw [hh] at front next
   obtain ⟨c, hc, hck⟩ : ∃ c, C[posM x.1 C]? = some c ∧ c.1 = x.1 := by
    unfold hitM at hh
    split at hh
    ·rename_i c hc; exact ⟨c, hc, by simpa using hh⟩
    ·cases hh
   have hpl := (List.getElem?_eq_some_iff.1 hc).1
   rcases ho1 with ⟨rfl, _⟩ | ⟨hne, nm, rfl, hr⟩
   ·simp at hpl
   have hnm : nm ≠ H.length := hap _ _ _ _ rfl
   have hdc : (memC C).drop (0 + posM x.1 C * 2) = iV c.1 :: .int .u64 (c.2 : Int) :: (memC C).drop (posM x.1 C * 2 + 2) := by
    rw [Nat.zero_add]
    obtain ⟨cs, cn⟩ := c
    exact mem_drop C _ cs cn hc
   have hset := memC_set (x := g c x) hc
   obtain ⟨L2, H2, out2, a6, a8, a9, e2, g2⟩ := next ((H1 ++ List.replicate 1 AO.dead).set nm (.row 55 (memC (C.set (posM x.1 C) (g c x))) false)) (.own nm 0 C.length 2) [.loc nm (0 + posM x.1 C * 2), .agg [iV (g c x).1, .int .u64 ((g c x).2 : Int)], .agg [iV x.1, .int .u64 (x.2 : Int)], .agg [iV c.1, .int .u64 (c.2 : Int)], .loc nm (0 + posM x.1 C * 2)] (.inr ⟨by rw [insM_hit g hc hck]; simpa using hne, nm, by rw [insM_hit g hc hck]; simp, by rw [insM_hit g hc hck]; exact get_self (get_app hr)⟩)
   refine ⟨L2, H2, out2, a6, a8, a9, fun kn kx kr => ?_, g2⟩
   refine (front kn kx kr).trans <| (zCond_eq (p := true) rfl).trans ?_
   rw [if_pos rfl]
   refine zDreg_eq.trans <| (zPD_v (vIndexAddr_own rfl rfl hpl)).trans <| (zLD_v (wLoad_loc (off := 0 + posM x.1 C * 2) rfl (get_app hr) (by omega) (by rw [hdc]; rfl)) rfl spOk_nil).trans <| (zLD_v (wLoad_loc (nm := H.length) (off := 0) rfl (get_app hr1) (by simp) rfl) rfl (spOk_apart rfl spOk_nil)).trans <| (zStepD_callI (f := f) (ar9 := [memB c, memB x]) (a := Acc.none) rfl rfl (by rw [hnp]) (hg _ c x) rfl).trans <| (zPD_v (vIndexAddr_own rfl rfl hpl)).trans <| (zStepD_put rfl (store_at (vs := [iV (g c x).1, .int .u64 ((g c x).2 : Int)]) ⟨_, rfl, rfl⟩ (by simp) rfl (get_app hr) rfl (by simp; omega)) rfl (spOk_bef (by kernel_rfl) (spOk_bef (by kernel_rfl) spOk_nil))).trans ?_
   rw [show (0 + posM x.1 C * 2) = posM x.1 C * 2 by omega, hset]
   exact e2 kn kx kr
  | false =>
   rw [hh] at front next
   obtain ⟨H3, v3, e3, ho3⟩ := told80 (CY (k + 4) Y) (H1 ++ [AO.row 55 [iV x.1, .int .u64 (x.2 : Int)] false]) out C (ho1.app _) x (posM x.1 C) H1.length (posM_le x.1 C) get_last (by
    rcases ho1 with ⟨_, rfl⟩ | ⟨_, nm, rfl, hr⟩
    ·intro b off n sz e; cases e
    ·intro b off n sz e; cases e; exact Nat.ne_of_lt (len_of hr)) (by omega) [.own H1.length 0 1 2, .agg [iV x.1, .int .u64 (x.2 : Int)], out] (V54 a B fb (iV i) out (.loc H.length 0) (.bool false) (iV (posM x.1 C : Nat)) f) (.l 2) (.v 9) (.l 0) rfl rfl rfl 4 (some 1)
   obtain ⟨L2, H2, out2, a6, a8, a9, e2, g2⟩ := next H3 v3 [v3, .own H1.length 0 1 2, .agg [iV x.1, .int .u64 (x.2 : Int)], out] (by rw [insM_miss g hh]; exact ho3)
   refine ⟨L2, H2, out2, a6, a8, a9, fun kn kx kr => ?_, g2⟩
   refine (front kn kx kr).trans <| (zCond_eq (p := false) rfl).trans ?_
   rw [if_neg (by decide)]
   refine zReg_eq.trans <| (zP_v vMv_eq).trans <| (zL_v (wLoad_loc (nm := H.length) (off := 0) rfl hr1 (by simp) rfl)).trans ?_
   refine (zStep_newH rfl (buildOne row22 rfl (by rfl) ⟨_, rfl, rfl⟩ (by decide))).trans ?_
   refine (e3 _).trans <| zqV ?_
   exact e2 kn kx kr
end Go.Proofs.PxV2
