/- The tables of the seat for the machine in one breath. -/
import Derived.Test.YtefondfmngjekaaGreatPzC1F0
import Derived.KernelRfl
set_option maxRecDepth 100000
set_option linter.unusedVariables false
set_option linter.unusedSimpArgs false
namespace Go.Proofs.PxC1
open Go Go.Px Go.Proofs
noncomputable def LEL : List (Nat × LFn) := []
noncomputable def LE : Nat → Option LFn := lookT LEL
noncomputable def LT (E : Env) : List (Nat × ZLn × LFn) := []
noncomputable def LZ (E : Env) : Nat → Option ZLn := lookT []
noncomputable def FEL : List (Nat × FFn) := [(3, F3), (4, F4), (5, F5), (6, F6), (8, F8), (9, F9), (10, F10), (11, F11), (12, F12), (15, F15), (17, F17), (18, F18), (19, F19), (20, F20), (21, F21), (22, F22), (23, F23), (24, F24), (25, F25), (26, F26), (28, F28), (33, F33), (34, F34), (35, F35), (36, F36), (37, F37), (38, F38), (39, F39), (40, F40), (41, F41), (42, F42), (44, F44), (46, F46), (47, F47), (54, F54), (55, F55), (58, F58), (59, F59), (74, F74), (80, F80), (84, F84), (103, F103)]
noncomputable def FE : Nat → Option FFn := lookT FEL
noncomputable def FT (E : Env) : List (Nat × ZFn × FFn) := [(3, G3 E, F3), (4, G4 E, F4), (5, G5 E, F5), (6, G6 E, F6), (8, G8 E, F8), (9, G9 E, F9), (10, G10 E, F10), (11, G11 E, F11), (12, G12 E, F12), (15, G15 E, F15), (17, G17 E, F17), (18, G18 E, F18), (19, G19 E, F19), (20, G20 E, F20), (21, G21 E, F21), (22, G22 E, F22), (23, G23 E, F23), (24, G24 E, F24), (25, G25 E, F25), (26, G26 E, F26), (28, G28 E, F28), (33, G33 E, F33), (34, G34 E, F34), (35, G35 E, F35), (36, G36 E, F36), (37, G37 E, F37), (38, G38 E, F38), (39, G39 E, F39), (40, G40 E, F40), (41, G41 E, F41), (42, G42 E, F42), (44, G44 E, F44), (46, G46 E, F46), (47, G47 E, F47), (54, G54 E, F54), (55, G55 E, F55), (58, G58 E, F58), (59, G59 E, F59), (74, G74 E, F74), (80, G80 E, F80), (84, G84 E, F84), (103, G103 E, F103)]
noncomputable def GE (E : Env) : Nat → Option ZFn := lookT [(3, G3 E), (4, G4 E), (5, G5 E), (6, G6 E), (8, G8 E), (9, G9 E), (10, G10 E), (11, G11 E), (12, G12 E), (15, G15 E), (17, G17 E), (18, G18 E), (19, G19 E), (20, G20 E), (21, G21 E), (22, G22 E), (23, G23 E), (24, G24 E), (25, G25 E), (26, G26 E), (28, G28 E), (33, G33 E), (34, G34 E), (35, G35 E), (36, G36 E), (37, G37 E), (38, G38 E), (39, G39 E), (40, G40 E), (41, G41 E), (42, G42 E), (44, G44 E), (46, G46 E), (47, G47 E), (54, G54 E), (55, G55 E), (58, G58 E), (59, G59 E), (74, G74 E), (80, G80 E), (84, G84 E), (103, G103 E)]
theorem tab_le : TabOk LE := fun id lf h => by
  have h0 : ∀ p ∈ LEL, (∀ r ∈ rngs p.2.asg, LEntry LE p.2.n r) ∧ ∀ r ∈ rngs p.2.body, LEntry LE p.2.n r := fun p h => nomatch h
  exact h0 _ (lookT_mem h)
theorem F3_ok : compF (lvOf LE) 0 [7, 0, 5, 6, 1, 8, 10, 4] Tryz.f3 = some F3 := by kernel_rfl
theorem F4_ok : compF (lvOf LE) 0 [1, 3, 2, 5, 7, 6, 9, 0] Tryz.f4 = some F4 := by kernel_rfl
theorem F5_ok : compF (lvOf LE) 0 [0, 1, 4] Tryz.f5 = some F5 := by kernel_rfl
theorem F6_ok : compF (lvOf LE) 0 [0, 1, 2, 3, 4, 5] Tryz.f6 = some F6 := by kernel_rfl
theorem F8_ok : compF (lvOf LE) 0 [0, 17, 16, 15, 6, 4, 2, 3] Tryz.f8 = some F8 := by kernel_rfl
theorem F9_ok : compF (lvOf LE) 0 [0, 1, 5, 4] Tryz.f9 = some F9 := by kernel_rfl
theorem F10_ok : compF (lvOf LE) 0 [0, 1, 2] Tryz.f10 = some F10 := by kernel_rfl
theorem F11_ok : compF (lvOf LE) 0 [0, 1, 3, 5, 2, 27, 26, 25, 6, 7, 4] Tryz.f11 = some F11 := by kernel_rfl
theorem F12_ok : compF (lvOf LE) 0 [0, 1, 2, 8, 3, 6, 4, 5] Tryz.f12 = some F12 := by kernel_rfl
theorem F15_ok : compF (lvOf LE) 0 [0, 2] Tryz.f15 = some F15 := by kernel_rfl
theorem F17_ok : compF (lvOf LE) 0 [0, 1] Tryz.f17 = some F17 := by kernel_rfl
theorem F18_ok : compF (lvOf LE) 0 [0, 1, 2, 3, 4] Tryz.f18 = some F18 := by kernel_rfl
theorem F19_ok : compF (lvOf LE) 0 [0, 8, 7, 6, 5, 3, 2] Tryz.f19 = some F19 := by kernel_rfl
theorem F20_ok : compF (lvOf LE) 0 [0, 1, 5, 6, 4] Tryz.f20 = some F20 := by kernel_rfl
theorem F21_ok : compF (lvOf LE) 0 [0, 1, 5, 6, 4] Tryz.f21 = some F21 := by kernel_rfl
theorem F22_ok : compF (lvOf LE) 0 [0, 1, 3, 2, 4] Tryz.f22 = some F22 := by kernel_rfl
theorem F23_ok : compF (lvOf LE) 0 [0, 1, 4] Tryz.f23 = some F23 := by kernel_rfl
theorem F24_ok : compF (lvOf LE) 0 [0, 2] Tryz.f24 = some F24 := by kernel_rfl
theorem F25_ok : compF (lvOf LE) 0 [1, 5, 3, 0, 27, 6, 7, 4] Tryz.f25 = some F25 := by kernel_rfl
theorem F26_ok : compF (lvOf LE) 0 [0, 1, 4] Tryz.f26 = some F26 := by kernel_rfl
theorem F28_ok : compF (lvOf LE) 0 [0, 2] Tryz.f28 = some F28 := by kernel_rfl
theorem F33_ok : compF (lvOf LE) 0 [0, 1, 4] Tryz.f33 = some F33 := by kernel_rfl
theorem F34_ok : compF (lvOf LE) 0 [0, 1, 2] Tryz.f34 = some F34 := by kernel_rfl
theorem F35_ok : compF (lvOf LE) 0 [6, 8, 1, 0, 7, 2, 9] Tryz.f35 = some F35 := by kernel_rfl
theorem F36_ok : compF (lvOf LE) 0 [0, 2] Tryz.f36 = some F36 := by kernel_rfl
theorem F37_ok : compF (lvOf LE) 0 [0, 2] Tryz.f37 = some F37 := by kernel_rfl
theorem F38_ok : compF (lvOf LE) 0 [0, 3, 4, 10, 2] Tryz.f38 = some F38 := by kernel_rfl
theorem F39_ok : compF (lvOf LE) 0 [0, 9, 8, 7, 1, 6, 4] Tryz.f39 = some F39 := by kernel_rfl
theorem F40_ok : compF (lvOf LE) 0 [0, 2, 1, 3] Tryz.f40 = some F40 := by kernel_rfl
theorem F41_ok : compF (lvOf LE) 0 [0, 8, 7, 1, 5, 4] Tryz.f41 = some F41 := by kernel_rfl
theorem F42_ok : compF (lvOf LE) 0 [0, 1, 2, 6] Tryz.f42 = some F42 := by kernel_rfl
theorem F44_ok : compF (lvOf LE) 0 [0, 8, 7, 1, 5, 4] Tryz.f44 = some F44 := by kernel_rfl
theorem F46_ok : compF (lvOf LE) 0 [0, 2] Tryz.f46 = some F46 := by kernel_rfl
theorem F47_ok : compF (lvOf LE) 0 [0, 3, 5, 4, 2] Tryz.f47 = some F47 := by kernel_rfl
theorem F54_ok : compF (lvOf LE) 0 [0, 8, 7, 1, 5, 4] Tryz.f54 = some F54 := by kernel_rfl
theorem F55_ok : compF (lvOf LE) 0 [1, 8, 2, 9, 3, 0] Tryz.f55 = some F55 := by kernel_rfl
theorem F58_ok : compF (lvOf LE) 0 [2, 1, 10, 0, 3, 8, 12, 11, 9, 13, 15, 14, 16, 17, 18] Tryz.f58 = some F58 := by kernel_rfl
theorem F59_ok : compF (lvOf LE) 0 [0, 2] Tryz.f59 = some F59 := by kernel_rfl
theorem F74_ok : compF (lvOf LE) 0 [1, 6, 2, 7, 0] Tryz.f74 = some F74 := by kernel_rfl
theorem F80_ok : compF (lvOf LE) 0 [0, 1, 4] Tryz.f80 = some F80 := by kernel_rfl
theorem F84_ok : compF (lvOf LE) 0 [0, 2] Tryz.f84 = some F84 := by kernel_rfl
theorem F103_ok : compF (lvOf LE) 0 [0, 2] Tryz.f103 = some F103 := by kernel_rfl
theorem fe_ok {E : Env} (hE : E.fn = Tryz.fnT) : FEOk E FE LE := fun f ff h => by
  have h0 : ∀ p ∈ FEL, ∃ fn m vs, Tryz.fnT p.1 = some fn ∧ compF (lvOf LE) m vs fn = some p.2 ∧ ∀ r ∈ rngs p.2.body, LEntry LE fn.ntmps r := List.forall_mem_cons.2 ⟨⟨Tryz.f3, _, _, rfl, F3_ok, (rngL (l := []) (by kernel_rfl) (fun p h => nomatch h))⟩, List.forall_mem_cons.2 ⟨⟨Tryz.f4, _, _, rfl, F4_ok, (rngL (l := []) (by kernel_rfl) (fun p h => nomatch h))⟩, List.forall_mem_cons.2 ⟨⟨Tryz.f5, _, _, rfl, F5_ok, (rngL (l := []) (by kernel_rfl) (fun p h => nomatch h))⟩, List.forall_mem_cons.2 ⟨⟨Tryz.f6, _, _, rfl, F6_ok, (rngL (l := []) (by kernel_rfl) (fun p h => nomatch h))⟩, List.forall_mem_cons.2 ⟨⟨Tryz.f8, _, _, rfl, F8_ok, (rngL (l := []) (by kernel_rfl) (fun p h => nomatch h))⟩, List.forall_mem_cons.2 ⟨⟨Tryz.f9, _, _, rfl, F9_ok, (rngL (l := []) (by kernel_rfl) (fun p h => nomatch h))⟩, List.forall_mem_cons.2 ⟨⟨Tryz.f10, _, _, rfl, F10_ok, (rngL (l := []) (by kernel_rfl) (fun p h => nomatch h))⟩, List.forall_mem_cons.2 ⟨⟨Tryz.f11, _, _, rfl, F11_ok, (rngL (l := []) (by kernel_rfl) (fun p h => nomatch h))⟩, List.forall_mem_cons.2 ⟨⟨Tryz.f12, _, _, rfl, F12_ok, (rngL (l := []) (by kernel_rfl) (fun p h => nomatch h))⟩, List.forall_mem_cons.2 ⟨⟨Tryz.f15, _, _, rfl, F15_ok, (rngL (l := []) (by kernel_rfl) (fun p h => nomatch h))⟩, List.forall_mem_cons.2 ⟨⟨Tryz.f17, _, _, rfl, F17_ok, (rngL (l := []) (by kernel_rfl) (fun p h => nomatch h))⟩, List.forall_mem_cons.2 ⟨⟨Tryz.f18, _, _, rfl, F18_ok, (rngL (l := []) (by kernel_rfl) (fun p h => nomatch h))⟩, List.forall_mem_cons.2 ⟨⟨Tryz.f19, _, _, rfl, F19_ok, (rngL (l := []) (by kernel_rfl) (fun p h => nomatch h))⟩, List.forall_mem_cons.2 ⟨⟨Tryz.f20, _, _, rfl, F20_ok, (rngL (l := []) (by kernel_rfl) (fun p h => nomatch h))⟩, List.forall_mem_cons.2 ⟨⟨Tryz.f21, _, _, rfl, F21_ok, (rngL (l := []) (by kernel_rfl) (fun p h => nomatch h))⟩, List.forall_mem_cons.2 ⟨⟨Tryz.f22, _, _, rfl, F22_ok, (rngL (l := []) (by kernel_rfl) (fun p h => nomatch h))⟩, List.forall_mem_cons.2 ⟨⟨Tryz.f23, _, _, rfl, F23_ok, (rngL (l := []) (by kernel_rfl) (fun p h => nomatch h))⟩, List.forall_mem_cons.2 ⟨⟨Tryz.f24, _, _, rfl, F24_ok, (rngL (l := []) (by kernel_rfl) (fun p h => nomatch h))⟩, List.forall_mem_cons.2 ⟨⟨Tryz.f25, _, _, rfl, F25_ok, (rngL (l := []) (by kernel_rfl) (fun p h => nomatch h))⟩, List.forall_mem_cons.2 ⟨⟨Tryz.f26, _, _, rfl, F26_ok, (rngL (l := []) (by kernel_rfl) (fun p h => nomatch h))⟩, List.forall_mem_cons.2 ⟨⟨Tryz.f28, _, _, rfl, F28_ok, (rngL (l := []) (by kernel_rfl) (fun p h => nomatch h))⟩, List.forall_mem_cons.2 ⟨⟨Tryz.f33, _, _, rfl, F33_ok, (rngL (l := []) (by kernel_rfl) (fun p h => nomatch h))⟩, List.forall_mem_cons.2 ⟨⟨Tryz.f34, _, _, rfl, F34_ok, (rngL (l := []) (by kernel_rfl) (fun p h => nomatch h))⟩, List.forall_mem_cons.2 ⟨⟨Tryz.f35, _, _, rfl, F35_ok, (rngL (l := []) (by kernel_rfl) (fun p h => nomatch h))⟩, List.forall_mem_cons.2 ⟨⟨Tryz.f36, _, _, rfl, F36_ok, (rngL (l := []) (by kernel_rfl) (fun p h => nomatch h))⟩, List.forall_mem_cons.2 ⟨⟨Tryz.f37, _, _, rfl, F37_ok, (rngL (l := []) (by kernel_rfl) (fun p h => nomatch h))⟩, List.forall_mem_cons.2 ⟨⟨Tryz.f38, _, _, rfl, F38_ok, (rngL (l := []) (by kernel_rfl) (fun p h => nomatch h))⟩, List.forall_mem_cons.2 ⟨⟨Tryz.f39, _, _, rfl, F39_ok, (rngL (l := []) (by kernel_rfl) (fun p h => nomatch h))⟩, List.forall_mem_cons.2 ⟨⟨Tryz.f40, _, _, rfl, F40_ok, (rngL (l := []) (by kernel_rfl) (fun p h => nomatch h))⟩, List.forall_mem_cons.2 ⟨⟨Tryz.f41, _, _, rfl, F41_ok, (rngL (l := []) (by kernel_rfl) (fun p h => nomatch h))⟩, List.forall_mem_cons.2 ⟨⟨Tryz.f42, _, _, rfl, F42_ok, (rngL (l := []) (by kernel_rfl) (fun p h => nomatch h))⟩, List.forall_mem_cons.2 ⟨⟨Tryz.f44, _, _, rfl, F44_ok, (rngL (l := []) (by kernel_rfl) (fun p h => nomatch h))⟩, List.forall_mem_cons.2 ⟨⟨Tryz.f46, _, _, rfl, F46_ok, (rngL (l := []) (by kernel_rfl) (fun p h => nomatch h))⟩, List.forall_mem_cons.2 ⟨⟨Tryz.f47, _, _, rfl, F47_ok, (rngL (l := []) (by kernel_rfl) (fun p h => nomatch h))⟩, List.forall_mem_cons.2 ⟨⟨Tryz.f54, _, _, rfl, F54_ok, (rngL (l := []) (by kernel_rfl) (fun p h => nomatch h))⟩, List.forall_mem_cons.2 ⟨⟨Tryz.f55, _, _, rfl, F55_ok, (rngL (l := []) (by kernel_rfl) (fun p h => nomatch h))⟩, List.forall_mem_cons.2 ⟨⟨Tryz.f58, _, _, rfl, F58_ok, (rngL (l := []) (by kernel_rfl) (fun p h => nomatch h))⟩, List.forall_mem_cons.2 ⟨⟨Tryz.f59, _, _, rfl, F59_ok, (rngL (l := []) (by kernel_rfl) (fun p h => nomatch h))⟩, List.forall_mem_cons.2 ⟨⟨Tryz.f74, _, _, rfl, F74_ok, (rngL (l := []) (by kernel_rfl) (fun p h => nomatch h))⟩, List.forall_mem_cons.2 ⟨⟨Tryz.f80, _, _, rfl, F80_ok, (rngL (l := []) (by kernel_rfl) (fun p h => nomatch h))⟩, List.forall_mem_cons.2 ⟨⟨Tryz.f84, _, _, rfl, F84_ok, (rngL (l := []) (by kernel_rfl) (fun p h => nomatch h))⟩, List.forall_mem_cons.2 ⟨⟨Tryz.f103, _, _, rfl, F103_ok, (rngL (l := []) (by kernel_rfl) (fun p h => nomatch h))⟩, fun p h => nomatch h⟩⟩⟩⟩⟩⟩⟩⟩⟩⟩⟩⟩⟩⟩⟩⟩⟩⟩⟩⟩⟩⟩⟩⟩⟩⟩⟩⟩⟩⟩⟩⟩⟩⟩⟩⟩⟩⟩⟩⟩⟩⟩
  rw [hE]
  exact h0 _ (lookT_mem h)
theorem ze_ok {E : Env} (hT : E.ty = Tryz.tyT) : ZEOk E npT (GE E) FE := by
  obtain ⟨ty, fn, pu, pr⟩ := E
  simp only at hT
  subst hT
  have h0 : ∀ p ∈ FT ⟨Tryz.tyT, fn, pu, pr⟩, ZOk ⟨Tryz.tyT, fn, pu, pr⟩ npT p.2.2 p.2.1 := List.forall_mem_cons.2 ⟨G3_ok fn pu pr, List.forall_mem_cons.2 ⟨G4_ok fn pu pr, List.forall_mem_cons.2 ⟨G5_ok fn pu pr, List.forall_mem_cons.2 ⟨G6_ok fn pu pr, List.forall_mem_cons.2 ⟨G8_ok fn pu pr, List.forall_mem_cons.2 ⟨G9_ok fn pu pr, List.forall_mem_cons.2 ⟨G10_ok fn pu pr, List.forall_mem_cons.2 ⟨G11_ok fn pu pr, List.forall_mem_cons.2 ⟨G12_ok fn pu pr, List.forall_mem_cons.2 ⟨G15_ok fn pu pr, List.forall_mem_cons.2 ⟨G17_ok fn pu pr, List.forall_mem_cons.2 ⟨G18_ok fn pu pr, List.forall_mem_cons.2 ⟨G19_ok fn pu pr, List.forall_mem_cons.2 ⟨G20_ok fn pu pr, List.forall_mem_cons.2 ⟨G21_ok fn pu pr, List.forall_mem_cons.2 ⟨G22_ok fn pu pr, List.forall_mem_cons.2 ⟨G23_ok fn pu pr, List.forall_mem_cons.2 ⟨G24_ok fn pu pr, List.forall_mem_cons.2 ⟨G25_ok fn pu pr, List.forall_mem_cons.2 ⟨G26_ok fn pu pr, List.forall_mem_cons.2 ⟨G28_ok fn pu pr, List.forall_mem_cons.2 ⟨G33_ok fn pu pr, List.forall_mem_cons.2 ⟨G34_ok fn pu pr, List.forall_mem_cons.2 ⟨G35_ok fn pu pr, List.forall_mem_cons.2 ⟨G36_ok fn pu pr, List.forall_mem_cons.2 ⟨G37_ok fn pu pr, List.forall_mem_cons.2 ⟨G38_ok fn pu pr, List.forall_mem_cons.2 ⟨G39_ok fn pu pr, List.forall_mem_cons.2 ⟨G40_ok fn pu pr, List.forall_mem_cons.2 ⟨G41_ok fn pu pr, List.forall_mem_cons.2 ⟨G42_ok fn pu pr, List.forall_mem_cons.2 ⟨G44_ok fn pu pr, List.forall_mem_cons.2 ⟨G46_ok fn pu pr, List.forall_mem_cons.2 ⟨G47_ok fn pu pr, List.forall_mem_cons.2 ⟨G54_ok fn pu pr, List.forall_mem_cons.2 ⟨G55_ok fn pu pr, List.forall_mem_cons.2 ⟨G58_ok fn pu pr, List.forall_mem_cons.2 ⟨G59_ok fn pu pr, List.forall_mem_cons.2 ⟨G74_ok fn pu pr, List.forall_mem_cons.2 ⟨G80_ok fn pu pr, List.forall_mem_cons.2 ⟨G84_ok fn pu pr, List.forall_mem_cons.2 ⟨G103_ok fn pu pr, fun p h => nomatch h⟩⟩⟩⟩⟩⟩⟩⟩⟩⟩⟩⟩⟩⟩⟩⟩⟩⟩⟩⟩⟩⟩⟩⟩⟩⟩⟩⟩⟩⟩⟩⟩⟩⟩⟩⟩⟩⟩⟩⟩⟩⟩
  exact zeok_of (FT ⟨Tryz.tyT, fn, pu, pr⟩) (by kernel_rfl) (by kernel_rfl) h0
theorem zle_ok {E : Env} (hT : E.ty = Tryz.tyT) : ZLEOk E npT (LZ E) LE := by
  obtain ⟨ty, fn, pu, pr⟩ := E
  simp only at hT
  subst hT
  have h0 : ∀ p ∈ LT ⟨Tryz.tyT, fn, pu, pr⟩, ZLOk ⟨Tryz.tyT, fn, pu, pr⟩ npT p.2.2 p.2.1 := fun p h => nomatch h
  exact zleok_of (LT ⟨Tryz.tyT, fn, pu, pr⟩) (by kernel_rfl) (by kernel_rfl) h0
end Go.Proofs.PxC1
