/- Views: the search for a key. -/
import Derived.Test.YtpdgbkmpcahjjaaPzV2Z2
set_option linter.unusedVariables false
set_option linter.unusedSimpArgs false
set_option maxRecDepth 100000
namespace Go.Px
open Go
section
variable {E : Env} {L V : List AV} {T T' : TH} {H : Heap} {K : KB} {x : AV} {call : CallTT} {fo : FO} {a a2 : Acc}
theorem zStep_toldV {f : Nat} {ar9 : List AV} {p : Heap → Option (Eff × Acc)} (hg : wantedF fo.g L V = some true) (he : evalFT E L V T fo.fa = some (.call (.func f) ar9, a)) (hp : E.prim f ar9 = some p) (hq : p T.tl = some (.val x, a2)) :
  zStep E call fo K L V T = K (putFL fo.dst x L) (putFV fo.dst x V) T := by
 cases hl : fo.light <;> simp [zStep, runFT, hg, he, primEff, fS_eq, hp, hq, effT, putF_eq, fV_eq, fW_eq, hl]
theorem zStepD_callI {KD : SPK} {sp : List (Nat × Acc)} {bef : List Nat} {n0 f : Nat} {ar9 : List AV} (hg : wantedF fo.g L V = some true) (he : evalFA E L V H fo.fa = some (.call (.func f) ar9, a)) (hp : E.prim f ar9 = none) (hc : call (.func f) ar9 (rep H) = some (x, T', a2)) (hi : a2.idle = true) :
  zStepD E call bef n0 fo KD sp L V (rep H) = KD sp (putFL fo.dst x L) (putFV fo.dst x V) T' := by
 have he' : evalFT E L V (rep H) fo.fa = some (.call (.func f) ar9, a) := by rw [evalFT_ok, he]
 simp [zStepD, runFT, hg, he', primEff, fS_eq, hp, hc, effT, putF_eq, accZ_idle hi]
theorem vExtract_eq {i : Nat} {o : O} {vs : List AV} (ho : gO L V o = .tup vs) (hi : vs[i]? = some x) (c : AV → Ans) : vExtract i o L V T c = c x := by
 simp only [vExtract, gZ_eq, ho, tupCZ_eq, dropZ_eq]
 have hl := (List.getElem?_eq_some_iff.1 hi).1
 rw [List.drop_eq_getElem_cons hl, (List.getElem?_eq_some_iff.1 hi).2]
end
end Go.Px
namespace Go.Proofs.PxV2
open Go Go.Px Go.Proofs
theorem blt_self (a : Nat) : Nat.blt a a = false := by
 cases h : Nat.blt a a with
 | false => rfl
 | true => rw [Nat.blt_eq] at h; omega
theorem less_irrefl : ∀ (a : List Nat), lessN a a = false
 | [] => rfl
 | a :: x => by simp [lessN, less_irrefl x, blt_self]
theorem less_trans : ∀ {a b c : List Nat}, lessN a b = true → lessN b c = true → lessN a c = true
 | _, [], _, h, _ => by simp [lessN] at h
 | _, _ :: _, [], _, h => by simp [lessN] at h
 | [], _ :: _, _ :: _, _, _ => rfl
 | a :: x, b :: y, c :: z, h1, h2 => by
  simp only [lessN, Bool.or_eq_true, Bool.and_eq_true, Nat.blt_eq, Nat.beq_eq] at *
  rcases h1 with h1 | ⟨rfl, h1⟩
  ·rcases h2 with h2 | ⟨rfl, h2⟩
   ·exact .inl (by omega)
   ·exact .inl h1
  ·rcases h2 with h2 | ⟨rfl, h2⟩
   ·exact .inl h2
   ·exact .inr ⟨rfl, less_trans h1 h2⟩
theorem less_tri : ∀ {a b : List Nat}, lessN a b = false → a ≠ b → lessN b a = true
 | [], [], _, h => absurd rfl h
 | _ :: _, [], _, _ => rfl
 | [], _ :: _, h, _ => by simp [lessN] at h
 | a :: x, b :: y, h, hne => by
  simp only [lessN, Bool.or_eq_false_iff, Bool.and_eq_false_iff] at h
  simp only [lessN, Bool.or_eq_true, Bool.and_eq_true, Nat.blt_eq, Nat.beq_eq]
  have h1 : ¬ a < b := fun e => by have := h.1; rw [show Nat.blt a b = true by rw [Nat.blt_eq]; exact e] at this; cases this
  by_cases hab : a = b
  ·subst hab
   refine .inr ⟨rfl, less_tri ?_ (fun e => hne (by rw [e]))⟩
   rcases h.2 with h2 | h2
   ·simp at h2
   ·exact h2
  ·exact .inl (by omega)
theorem cmpN_lt (a b : List Nat) : (cmpN a b < 0) ↔ lessN a b = true := by
 unfold cmpN
 by_cases h : (a == b) = true
 ·rw [if_pos h]
  have : a = b := by simpa using h
  subst this
  simp [less_irrefl]
 ·rw [if_neg h]
  by_cases h2 : lessN a b = true
  ·rw [if_pos h2]; simp [h2]
  ·rw [if_neg h2]; simp [h2]
theorem cmpN_eq (a b : List Nat) : (cmpN a b = 0) ↔ a = b := by
 unfold cmpN
 by_cases h : (a == b) = true
 ·rw [if_pos h]; simpa using h
 ·rw [if_neg h]
  have : a ≠ b := by simpa using h
  split <;> simp [this]
theorem flat_str2 (a b : List Nat) (g : Nat → Option AO) : fzL (fzG E1 g fzDeep) [.str a, .str b] = some ([.str a, .str b], []) := rfl
theorem c91 {k : Nat} (Y : YE) (T : TH) (a b : List Nat) : CY (k + 1) Y (.func 91) [.str a, .str b] T = some (iV (cmpN a b), T, ⟨[], [], false⟩) := by
 have hb : bodyZ E1 (CY k) [] k (G91 E1) [.str a, .str b] (rep []) = some (iV (cmpN a b), rep []) := by
  have e0 : bodyZ E1 (CY k) [] k (G91 E1) [.str a, .str b] (rep []) = (G91 E1).z (CY k) [] k (finZ E1 [.tmp (.v 2)]) (fun _ _ _ _ => none) (finZ E1 [.tmp (.v 2)]) [] [.str a, .str b, .undef] (rep []) := by kernel_rfl
  refine e0.trans ?_
  unfold G91
  dsimp only
  refine zqR <| zqV <| zqR ?_
  have ev : evalFT E1 [] [.str a, .str b, .int .i64 0] (rep []) (.call 97 [(.v 0), (.v 1)]) = some (.call (.func 97) [.str a, .str b], Acc.none) := rfl
  have hp : E1.prim 97 [.str a, .str b] = some fun _ => some (.val (iV (cmpN a b)), Acc.none) := rfl
  refine (zStep_toldV rfl ev hp rfl).trans ?_
  refine zqV <| zRet_app.trans ?_
  rfl
 exact call_flat (zf := G91 E1) rfl rfl (flat_str2 a b) hb (fun _ => rfl) rfl
theorem c77 {k : Nat} (Y : YE) (T : TH) (a b : List Nat) : CY (k + 2) Y (.func 77) [.str a, .str b] T = some (iV (cmpN a b), T, ⟨[], [], false⟩) := by
 have hb : bodyZ E1 (CY (k + 1)) [] (k + 1) (G77 E1) [.str a, .str b] (rep []) = some (iV (cmpN a b), rep []) := by
  have e0 : bodyZ E1 (CY (k + 1)) [] (k + 1) (G77 E1) [.str a, .str b] (rep []) = (G77 E1).z (CY (k + 1)) [] (k + 1) (finZ E1 [.tmp (.v 2)]) (fun _ _ _ _ => none) (finZ E1 [.tmp (.v 2)]) [] [.str a, .str b, .undef] (rep []) := by kernel_rfl
  refine e0.trans ?_
  unfold G77
  dsimp only
  refine zqR <| zqV <| zqR <| (zCall_eq (c91 [] (rep []) a b)).trans <| zqV <| zRet_app.trans ?_
  rfl
 exact call_flat (k := k + 1) (zf := G77 E1) rfl rfl (flat_str2 a b) hb (fun _ => rfl) rfl
theorem box59 {L V : List AV} {H : Heap} {a : O} {x y z : AV} (ha : gO L V a = .agg [x, y, z]) : evalFA E1 L V H (.box 59 a) = some (.new (.row 59 [x, y, z] false) (fun nm => .loc nm 0), Acc.none) := by
 have h1 : E1.ty 59 = some ⟨.struct [(0, 9), (1, 40), (2, 40)], 3, 32, [.str [], .int .u64 0, .int .u64 0]⟩ := rfl
 simp [evalFA, h1, ha, cellsOf]
theorem c50 {k : Nat} (Y : YE) (T : TH) (a b : List Nat) (n m p q : Int) : CY (k + 3) Y (.func 50) [.agg [.str a, .int .u64 n, .int .u64 m], .agg [.str b, .int .u64 p, .int .u64 q]] T = some (iV (cmpN a b), T, ⟨[], [], false⟩) := by
 have hb : bodyZ E1 (CY (k + 2)) [] (k + 2) (G50 E1) [.agg [.str a, .int .u64 n, .int .u64 m], .agg [.str b, .int .u64 p, .int .u64 q]] (rep []) = some (iV (cmpN a b), rep [.row 59 [.str a, .int .u64 n, .int .u64 m] false, .row 59 [.str b, .int .u64 p, .int .u64 q] false]) := by
  have e0 : bodyZ E1 (CY (k + 2)) [] (k + 2) (G50 E1) [.agg [.str a, .int .u64 n, .int .u64 m], .agg [.str b, .int .u64 p, .int .u64 q]] (rep []) = (G50 E1).z (CY (k + 2)) [] (k + 2) (finZ E1 [.tmp (.v 4)]) (fun _ _ _ _ => none) (finZ E1 [.tmp (.v 4)]) [] [.agg [.str a, .int .u64 n, .int .u64 m], .agg [.str b, .int .u64 p, .int .u64 q], .undef, .undef, .undef] (rep []) := by kernel_rfl
  refine e0.trans ?_
  unfold G50
  dsimp only
  refine zqR ?_
  refine (zStep_newH rfl (box59 (x := .str a) (y := .int .u64 n) (z := .int .u64 m) rfl)).trans ?_
  refine (zStep_newH rfl (box59 (x := .str b) (y := .int .u64 p) (z := .int .u64 q) rfl)).trans ?_
  refine zqV <| zqR <| (zP_v (vFieldAddr_loc rfl)).trans <| (zL_v (wLoad_loc (nm := 0) (off := 0 + 0) (cs := [.str a, .int .u64 n, .int .u64 m]) rfl rfl (by simp) rfl)).trans <| (zP_v (vFieldAddr_loc rfl)).trans <| (zL_v (wLoad_loc (nm := 1) (off := 0 + 0) (cs := [.str b, .int .u64 p, .int .u64 q]) rfl rfl (by simp) rfl)).trans <| (zCall_eq (c77 [] _ a b)).trans <| zqV <| zRet_app.trans ?_
  rfl
 exact call_flat (k := k + 2) (zf := G50 E1) (T2 := rep [.row 59 [.str a, .int .u64 n, .int .u64 m] false, .row 59 [.str b, .int .u64 p, .int .u64 q] false]) rfl rfl (fun _ => rfl) hb (fun _ => rfl) rfl
end Go.Proofs.PxV2
