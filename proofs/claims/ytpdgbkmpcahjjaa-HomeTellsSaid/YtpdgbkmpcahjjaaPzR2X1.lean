/- The reference's way round the ring: where a mark belongs. -/
import Derived.Test.YtpdgbkmpcahjjaaPzR2N
set_option linter.unusedVariables false
set_option linter.unusedSimpArgs false
set_option maxRecDepth 100000
namespace Go.Proofs.PxR2
open Go Go.Px Go.Proofs
def VR (key : List Nat) (i nodes k atv j l s i2 out : AV) : List AV := [.str key, i, nodes, k, atv, j, l, s, i2, out, .sl 0 [] true]
def OwnF (e : Nat) (H : Heap) (v : AV) (l : List Spot) : Prop := (l = [] ∧ v = .sl 0 [] true) ∨ (l ≠ [] ∧ ∃ nm, v = .own nm 0 l.length 2 ∧ H[nm]? = some (.row e (spotCells l) false))
noncomputable def cond34 : CZ := (zDreg 0 fun n0 k => (zPD (vLenL (.v 6))) ((zPD (vInt E1 fLss .lss 3 false false (.v 5) (.l 0))) ((zGD (.l 0) true .push (zPD (vMv (.v 6)))) ((zGD (.l 1) true .push (zPD (vMv (.v 5)))) ((zGD (.l 2) true .push (zPD (vIndexAddr 2 (.l 1) (.l 0)))) ((zGD (.l 3) true .push (zPD (vFieldAddr 0 (.l 0)))) ((zGD (.l 4) true .push (zLD B6 9 1 false (.l 0))) ((zGD (.l 5) true .push (zPD (vFieldAddr 0 (.v 7)))) ((zGD (.l 6) true .push (zLD B6 11 1 false (.l 0))) ((zGD (.l 7) true .push (zPD (vInt E1 fLss .lss 40 false false (.l 2) (.l 0)))) ((zGD (.l 8) true .push (zPD (vMv (.l 0)))) ((zGD (.l 0) false .push (zPD (vMv (.v 6)))) ((zGD (.l 1) false .push (zPD (vMv (.v 5)))) ((zGD (.l 2) false .push (zPD (vIndexAddr 2 (.l 1) (.l 0)))) ((zGD (.l 3) false .push (zPD (vFieldAddr 0 (.l 0)))) ((zGD (.l 4) false .push (zLD B6 18 1 false (.l 0))) ((zGD (.l 5) false .push (zPD (vFieldAddr 0 (.v 7)))) ((zGD (.l 6) false .push (zLD B6 20 1 false (.l 0))) ((zGD (.l 7) false .push (zPD (vInt E1 fEql .eql 40 false false (.l 2) (.l 0)))) ((zGD (.l 8) false .push (zPD (vMv (.l 0)))) ((zGD (.l 0) true .push (zPD (vMv (.v 6)))) ((zGD (.l 1) true .push (zPD (vMv (.v 5)))) ((zGD (.l 2) true .push (zPD (vIndexAddr 2 (.l 1) (.l 0)))) ((zGD (.l 3) true .push (zPD (vFieldAddr 1 (.l 0)))) ((zGD (.l 4) true .push (zLD B6 27 1 false (.l 0))) ((zGD (.l 5) true .push (zPD (vFieldAddr 1 (.v 7)))) ((zGD (.l 6) true .push (zLD B6 29 1 false (.l 0))) ((zGD (.l 7) true .push (zPD (vInt E1 (fGen .leq) .leq 3 false false (.l 2) (.l 0)))) ((zGD (.l 17) false .push (zPD (vPick (.l 8) (.l 0) (.k (.bool false))))) ((zGD (.l 27) true .push (zPD (vPick (.l 18) (.k (.bool true)) (.l 0)))) ((zPD (vPick (.l 28) (.l 0) (.k (.bool false)))) k)))))))))))))))))))))))))))))))
theorem cond_none (key : List Nat) (i nodes k atv v6 s i2 out : AV) (T : TH) (j : Nat) (l : List Spot) (hlen : ∀ L, ∀ c, vLenL (.v 6) L (VR key i nodes k atv (iV j) v6 s i2 out) T c = c (.int .i64 l.length)) (hj : ¬ j < l.length) (L0 : List AV) :
    ∃ L', ∀ kn kx kr, cond34 kn kx kr L0 (VR key i nodes k atv (iV j) v6 s i2 out) T = kn (.bool false :: L') (VR key i nodes k atv (iV j) v6 s i2 out) T := by
  refine ⟨?_, fun kn kx kr => ?_⟩
  rotate_left
  · unfold cond34
    refine zDreg0.trans ?_
    refine (zPD_v (hlen _)).trans ?_
    refine (zPD_v (vInt_eq fLss_ok rfl rfl (lss_nat 0 E1))).trans ?_
    rw [show decide (j < l.length) = false by simp [hj]]
    refine (zGD_miss rfl).trans ?_
    refine (zGD_miss rfl).trans ?_
    refine (zGD_miss rfl).trans ?_
    refine (zGD_miss rfl).trans ?_
    refine (zGD_miss rfl).trans ?_
    refine (zGD_miss rfl).trans ?_
    refine (zGD_miss rfl).trans ?_
    refine (zGD_miss rfl).trans ?_
    refine (zGD_miss rfl).trans ?_
    refine (zGD_skip rfl).trans ?_
    refine (zGD_skip rfl).trans ?_
    refine (zGD_skip rfl).trans ?_
    refine (zGD_skip rfl).trans ?_
    refine (zGD_skip rfl).trans ?_
    refine (zGD_skip rfl).trans ?_
    refine (zGD_skip rfl).trans ?_
    refine (zGD_skip rfl).trans ?_
    refine (zGD_skip rfl).trans ?_
    refine (zGD_skip rfl).trans ?_
    refine (zGD_skip rfl).trans ?_
    refine (zGD_skip rfl).trans ?_
    refine (zGD_skip rfl).trans ?_
    refine (zGD_skip rfl).trans ?_
    refine (zGD_skip rfl).trans ?_
    refine (zGD_skip rfl).trans ?_
    refine (zGD_skip rfl).trans ?_
    refine (zGD_skip rfl).trans ?_
    refine (zGD_miss rfl).trans ?_
    refine (zPD_v (vPick_eq (q := false) rfl)).trans ?_
    rfl
section
variable (key : List Nat) (i nodes k atv i2 out : AV) (H : Heap) (j nm sn fj fs : Nat) (nj n : Int) (l : List Spot) (rest : List AV) (hrow : H[nm]? = some (.row 85 (spotCells l) false)) (hs : H[sn]? = some (.row 85 [.int .u64 (fs : Int), iV n] false)) (hj : j < l.length) (hlj : l[j]? = some (fj, nj)) (L0 : List AV)
include hrow hs hj hlj
theorem cond_lt (hb1 : fj < fs) : ∃ L', ∀ kn kx kr, cond34 kn kx kr L0 (VR key i nodes k atv (iV j) (.own nm 0 l.length 2) (.loc sn 0) i2 out) (rep H) = kn (.bool true :: L') (VR key i nodes k atv (iV j) (.own nm 0 l.length 2) (.loc sn 0) i2 out) (rep H) := by
  have hlen : ∀ L, ∀ c, vLenL (.v 6) L (VR key i nodes k atv (iV j) (.own nm 0 l.length 2) (.loc sn 0) i2 out) (rep H) c = c (.int .i64 l.length) := fun L c => vLenL_own rfl c
  have hcl := spotCells_length l
  have hd0 : (spotCells l).drop (0 + j * 2 + 0) = .int .u64 (fj : Int) :: iV nj :: (spotCells l).drop (j * 2 + 2) := by rw [show 0 + j * 2 + 0 = j * 2 by omega]; exact spot_drop l j fj nj hlj
  have hd1 : (spotCells l).drop (0 + j * 2 + 1) = iV nj :: (spotCells l).drop (j * 2 + 2) := by
    rw [show 0 + j * 2 + 1 = j * 2 + 1 by omega, ← List.drop_drop, spot_drop l j fj nj hlj]; rfl
  refine ⟨?_, fun kn kx kr => ?_⟩
  rotate_left
  · unfold cond34
    refine zDreg0.trans ?_
    refine (zPD_v (hlen _)).trans ?_
    refine (zPD_v (vInt_eq fLss_ok rfl rfl (lss_nat 0 E1))).trans ?_
    rw [show decide (j < l.length) = true by simp [hj]]
    refine (zGD_hit rfl).trans ?_
    refine (zPD_v vMv_eq).trans ?_
    refine (zGD_hit rfl).trans ?_
    refine (zPD_v vMv_eq).trans ?_
    refine (zGD_hit rfl).trans ?_
    refine (zPD_v (vIndexAddr_own rfl rfl hj)).trans ?_
    refine (zGD_hit rfl).trans ?_
    refine (zPD_v (vFieldAddr_loc rfl)).trans ?_
    refine (zGD_hit rfl).trans ?_
    refine (zLD_v (wLoad_loc rfl hrow (by rw [hcl]; omega) (by rw [hd0]; rfl)) rfl spOk_nil).trans ?_
    refine (zGD_hit rfl).trans ?_
    refine (zPD_v (vFieldAddr_loc rfl)).trans ?_
    refine (zGD_hit rfl).trans ?_
    refine (zLD_v (wLoad_loc rfl hs (by simp) rfl) rfl (spOk_apart rfl spOk_nil)).trans ?_
    refine (zGD_hit rfl).trans ?_
    refine (zPD_v (vInt_eq fLss_ok rfl rfl (lss_nat 0 E1))).trans ?_
    rw [show decide (fj < fs) = true by simp [hb1]]
    refine (zGD_hit rfl).trans ?_
    refine (zPD_v vMv_eq).trans ?_
    refine (zGD_miss rfl).trans ?_
    refine (zGD_miss rfl).trans ?_
    refine (zGD_miss rfl).trans ?_
    refine (zGD_miss rfl).trans ?_
    refine (zGD_miss rfl).trans ?_
    refine (zGD_miss rfl).trans ?_
    refine (zGD_miss rfl).trans ?_
    refine (zGD_miss rfl).trans ?_
    refine (zGD_miss rfl).trans ?_
    refine (zGD_skip rfl).trans ?_
    refine (zGD_skip rfl).trans ?_
    refine (zGD_skip rfl).trans ?_
    refine (zGD_skip rfl).trans ?_
    refine (zGD_skip rfl).trans ?_
    refine (zGD_skip rfl).trans ?_
    refine (zGD_skip rfl).trans ?_
    refine (zGD_skip rfl).trans ?_
    refine (zGD_miss rfl).trans ?_
    refine (zGD_hit rfl).trans ?_
    refine (zPD_v (vPick_eq (q := true) rfl)).trans ?_
    refine (zPD_v (vPick_eq (q := true) rfl)).trans ?_
    rfl
theorem cond_gt (hb1 : ¬ fj < fs) (hb2 : ¬ fj = fs) : ∃ L', ∀ kn kx kr, cond34 kn kx kr L0 (VR key i nodes k atv (iV j) (.own nm 0 l.length 2) (.loc sn 0) i2 out) (rep H) = kn (.bool false :: L') (VR key i nodes k atv (iV j) (.own nm 0 l.length 2) (.loc sn 0) i2 out) (rep H) := by
  have hlen : ∀ L, ∀ c, vLenL (.v 6) L (VR key i nodes k atv (iV j) (.own nm 0 l.length 2) (.loc sn 0) i2 out) (rep H) c = c (.int .i64 l.length) := fun L c => vLenL_own rfl c
  have hcl := spotCells_length l
  have hd0 : (spotCells l).drop (0 + j * 2 + 0) = .int .u64 (fj : Int) :: iV nj :: (spotCells l).drop (j * 2 + 2) := by rw [show 0 + j * 2 + 0 = j * 2 by omega]; exact spot_drop l j fj nj hlj
  have hd1 : (spotCells l).drop (0 + j * 2 + 1) = iV nj :: (spotCells l).drop (j * 2 + 2) := by
    rw [show 0 + j * 2 + 1 = j * 2 + 1 by omega, ← List.drop_drop, spot_drop l j fj nj hlj]; rfl
  refine ⟨?_, fun kn kx kr => ?_⟩
  rotate_left
  · unfold cond34
    refine zDreg0.trans ?_
    refine (zPD_v (hlen _)).trans ?_
    refine (zPD_v (vInt_eq fLss_ok rfl rfl (lss_nat 0 E1))).trans ?_
    rw [show decide (j < l.length) = true by simp [hj]]
    refine (zGD_hit rfl).trans ?_
    refine (zPD_v vMv_eq).trans ?_
    refine (zGD_hit rfl).trans ?_
    refine (zPD_v vMv_eq).trans ?_
    refine (zGD_hit rfl).trans ?_
    refine (zPD_v (vIndexAddr_own rfl rfl hj)).trans ?_
    refine (zGD_hit rfl).trans ?_
    refine (zPD_v (vFieldAddr_loc rfl)).trans ?_
    refine (zGD_hit rfl).trans ?_
    refine (zLD_v (wLoad_loc rfl hrow (by rw [hcl]; omega) (by rw [hd0]; rfl)) rfl spOk_nil).trans ?_
    refine (zGD_hit rfl).trans ?_
    refine (zPD_v (vFieldAddr_loc rfl)).trans ?_
    refine (zGD_hit rfl).trans ?_
    refine (zLD_v (wLoad_loc rfl hs (by simp) rfl) rfl (spOk_apart rfl spOk_nil)).trans ?_
    refine (zGD_hit rfl).trans ?_
    refine (zPD_v (vInt_eq fLss_ok rfl rfl (lss_nat 0 E1))).trans ?_
    rw [show decide (fj < fs) = false by simp [hb1]]
    refine (zGD_hit rfl).trans ?_
    refine (zPD_v vMv_eq).trans ?_
    refine (zGD_hit rfl).trans ?_
    refine (zPD_v vMv_eq).trans ?_
    refine (zGD_hit rfl).trans ?_
    refine (zPD_v vMv_eq).trans ?_
    refine (zGD_hit rfl).trans ?_
    refine (zPD_v (vIndexAddr_own rfl rfl hj)).trans ?_
    refine (zGD_hit rfl).trans ?_
    refine (zPD_v (vFieldAddr_loc rfl)).trans ?_
    refine (zGD_hit rfl).trans ?_
    refine (zLD_v (wLoad_loc rfl hrow (by rw [hcl]; omega) (by rw [hd0]; rfl)) rfl (spOk_apart rfl (spOk_apart rfl spOk_nil))).trans ?_
    refine (zGD_hit rfl).trans ?_
    refine (zPD_v (vFieldAddr_loc rfl)).trans ?_
    refine (zGD_hit rfl).trans ?_
    refine (zLD_v (wLoad_loc rfl hs (by simp) rfl) rfl (spOk_apart rfl (spOk_apart rfl (spOk_apart rfl spOk_nil)))).trans ?_
    refine (zGD_hit rfl).trans ?_
    refine (zPD_v (vInt_eq fEql_ok rfl rfl (r := .bool false) (by simp [intBin]; omega))).trans ?_
    refine (zGD_hit rfl).trans ?_
    refine (zPD_v vMv_eq).trans ?_
    refine (zGD_miss rfl).trans ?_
    refine (zGD_miss rfl).trans ?_
    refine (zGD_miss rfl).trans ?_
    refine (zGD_miss rfl).trans ?_
    refine (zGD_miss rfl).trans ?_
    refine (zGD_miss rfl).trans ?_
    refine (zGD_miss rfl).trans ?_
    refine (zGD_miss rfl).trans ?_
    refine (zGD_hit rfl).trans ?_
    refine (zPD_v (vPick_eq (q := false) rfl)).trans ?_
    refine (zGD_hit rfl).trans ?_
    refine (zPD_v (vPick_eq (q := false) rfl)).trans ?_
    refine (zPD_v (vPick_eq (q := true) rfl)).trans ?_
    rfl
theorem cond_eq (hb1 : ¬ fj < fs) (hb2 : fj = fs) : ∃ L', ∀ kn kx kr, cond34 kn kx kr L0 (VR key i nodes k atv (iV j) (.own nm 0 l.length 2) (.loc sn 0) i2 out) (rep H) = kn (.bool (decide (nj ≤ n)) :: L') (VR key i nodes k atv (iV j) (.own nm 0 l.length 2) (.loc sn 0) i2 out) (rep H) := by
  have hlen : ∀ L, ∀ c, vLenL (.v 6) L (VR key i nodes k atv (iV j) (.own nm 0 l.length 2) (.loc sn 0) i2 out) (rep H) c = c (.int .i64 l.length) := fun L c => vLenL_own rfl c
  have hcl := spotCells_length l
  have hd0 : (spotCells l).drop (0 + j * 2 + 0) = .int .u64 (fj : Int) :: iV nj :: (spotCells l).drop (j * 2 + 2) := by rw [show 0 + j * 2 + 0 = j * 2 by omega]; exact spot_drop l j fj nj hlj
  have hd1 : (spotCells l).drop (0 + j * 2 + 1) = iV nj :: (spotCells l).drop (j * 2 + 2) := by
    rw [show 0 + j * 2 + 1 = j * 2 + 1 by omega, ← List.drop_drop, spot_drop l j fj nj hlj]; rfl
  refine ⟨?_, fun kn kx kr => ?_⟩
  rotate_left
  · unfold cond34
    refine zDreg0.trans ?_
    refine (zPD_v (hlen _)).trans ?_
    refine (zPD_v (vInt_eq fLss_ok rfl rfl (lss_nat 0 E1))).trans ?_
    rw [show decide (j < l.length) = true by simp [hj]]
    refine (zGD_hit rfl).trans ?_
    refine (zPD_v vMv_eq).trans ?_
    refine (zGD_hit rfl).trans ?_
    refine (zPD_v vMv_eq).trans ?_
    refine (zGD_hit rfl).trans ?_
    refine (zPD_v (vIndexAddr_own rfl rfl hj)).trans ?_
    refine (zGD_hit rfl).trans ?_
    refine (zPD_v (vFieldAddr_loc rfl)).trans ?_
    refine (zGD_hit rfl).trans ?_
    refine (zLD_v (wLoad_loc rfl hrow (by rw [hcl]; omega) (by rw [hd0]; rfl)) rfl spOk_nil).trans ?_
    refine (zGD_hit rfl).trans ?_
    refine (zPD_v (vFieldAddr_loc rfl)).trans ?_
    refine (zGD_hit rfl).trans ?_
    refine (zLD_v (wLoad_loc rfl hs (by simp) rfl) rfl (spOk_apart rfl spOk_nil)).trans ?_
    refine (zGD_hit rfl).trans ?_
    refine (zPD_v (vInt_eq fLss_ok rfl rfl (lss_nat 0 E1))).trans ?_
    rw [show decide (fj < fs) = false by simp [hb1]]
    refine (zGD_hit rfl).trans ?_
    refine (zPD_v vMv_eq).trans ?_
    refine (zGD_hit rfl).trans ?_
    refine (zPD_v vMv_eq).trans ?_
    refine (zGD_hit rfl).trans ?_
    refine (zPD_v vMv_eq).trans ?_
    refine (zGD_hit rfl).trans ?_
    refine (zPD_v (vIndexAddr_own rfl rfl hj)).trans ?_
    refine (zGD_hit rfl).trans ?_
    refine (zPD_v (vFieldAddr_loc rfl)).trans ?_
    refine (zGD_hit rfl).trans ?_
    refine (zLD_v (wLoad_loc rfl hrow (by rw [hcl]; omega) (by rw [hd0]; rfl)) rfl (spOk_apart rfl (spOk_apart rfl spOk_nil))).trans ?_
    refine (zGD_hit rfl).trans ?_
    refine (zPD_v (vFieldAddr_loc rfl)).trans ?_
    refine (zGD_hit rfl).trans ?_
    refine (zLD_v (wLoad_loc rfl hs (by simp) rfl) rfl (spOk_apart rfl (spOk_apart rfl (spOk_apart rfl spOk_nil)))).trans ?_
    refine (zGD_hit rfl).trans ?_
    refine (zPD_v (vInt_eq fEql_ok rfl rfl (r := .bool true) (by simp [intBin]; omega))).trans ?_
    refine (zGD_hit rfl).trans ?_
    refine (zPD_v vMv_eq).trans ?_
    refine (zGD_hit rfl).trans ?_
    refine (zPD_v vMv_eq).trans ?_
    refine (zGD_hit rfl).trans ?_
    refine (zPD_v vMv_eq).trans ?_
    refine (zGD_hit rfl).trans ?_
    refine (zPD_v (vIndexAddr_own rfl rfl hj)).trans ?_
    refine (zGD_hit rfl).trans ?_
    refine (zPD_v (vFieldAddr_loc rfl)).trans ?_
    refine (zGD_hit rfl).trans ?_
    refine (zLD_v (wLoad_loc rfl hrow (by rw [hcl]; omega) (by rw [hd1]; rfl)) rfl (spOk_apart rfl (spOk_apart rfl (spOk_apart rfl (spOk_apart rfl spOk_nil))))).trans ?_
    refine (zGD_hit rfl).trans ?_
    refine (zPD_v (vFieldAddr_loc rfl)).trans ?_
    refine (zGD_hit rfl).trans ?_
    refine (zLD_v (wLoad_loc rfl hs (by simp) rfl) rfl (spOk_apart rfl (spOk_apart rfl (spOk_apart rfl (spOk_apart rfl (spOk_apart rfl spOk_nil)))))).trans ?_
    refine (zGD_hit rfl).trans ?_
    refine (zPD_v (vInt_eq (fGen_ok (by simp) (by simp)) rfl rfl (r := .bool (decide (nj ≤ n))) rfl)).trans ?_
    refine (zGD_hit rfl).trans ?_
    refine (zPD_v (vPick_eq (q := true) rfl)).trans ?_
    refine (zGD_hit rfl).trans ?_
    refine (zPD_v (vPick_eq (q := false) rfl)).trans ?_
    refine (zPD_v (vPick_eq (q := true) rfl)).trans ?_
    rfl
end
end Go.Proofs.PxR2
