/- The tables of the seat for the machine in one breath. -/
import Derived.Test.YtpdgbkmpcahjjaaPzV2F0
import Derived.KernelRfl
set_option maxRecDepth 100000
set_option linter.unusedVariables false
set_option linter.unusedSimpArgs false
namespace Go.Proofs.PxV2
open Go Go.Px Go.Proofs
noncomputable def LEL : List (Nat × LFn) := [(0, L0)]
noncomputable def LE : Nat → Option LFn := lookT LEL
theorem lv_eq : lvOf LE = LV := lv_of (T := LEL) rfl (by kernel_rfl)
noncomputable def LT (E : Env) : List (Nat × ZLn × LFn) := [(0, M0 E, L0)]
noncomputable def LZ (E : Env) : Nat → Option ZLn := lookT [(0, M0 E)]
noncomputable def FEL : List (Nat × FFn) := [(3, F3), (9, F9), (10, F10), (11, F11), (12, F12), (13, F13), (14, F14), (15, F15), (16, F16), (17, F17), (18, F18), (19, F19), (20, F20), (21, F21), (22, F22), (23, F23), (24, F24), (25, F25), (26, F26), (27, F27), (45, F45), (46, F46), (47, F47), (48, F48), (49, F49), (50, F50), (51, F51), (52, F52), (53, F53), (54, F54), (55, F55), (56, F56), (57, F57), (58, F58), (60, F60), (62, F62), (73, F73), (74, F74), (75, F75), (77, F77), (78, F78), (79, F79), (87, F87), (88, F88), (91, F91)]
noncomputable def FE : Nat → Option FFn := lookT FEL
noncomputable def FT (E : Env) : List (Nat × ZFn × FFn) := [(3, G3 E, F3), (9, G9 E, F9), (10, G10 E, F10), (11, G11 E, F11), (12, G12 E, F12), (13, G13 E, F13), (14, G14 E, F14), (15, G15 E, F15), (16, G16 E, F16), (17, G17 E, F17), (18, G18 E, F18), (19, G19 E, F19), (20, G20 E, F20), (21, G21 E, F21), (22, G22 E, F22), (23, G23 E, F23), (24, G24 E, F24), (25, G25 E, F25), (26, G26 E, F26), (27, G27 E, F27), (45, G45 E, F45), (46, G46 E, F46), (47, G47 E, F47), (48, G48 E, F48), (49, G49 E, F49), (50, G50 E, F50), (51, G51 E, F51), (52, G52 E, F52), (53, G53 E, F53), (54, G54 E, F54), (55, G55 E, F55), (56, G56 E, F56), (57, G57 E, F57), (58, G58 E, F58), (60, G60 E, F60), (62, G62 E, F62), (73, G73 E, F73), (74, G74 E, F74), (75, G75 E, F75), (77, G77 E, F77), (78, G78 E, F78), (79, G79 E, F79), (87, G87 E, F87), (88, G88 E, F88), (91, G91 E, F91)]
noncomputable def GE (E : Env) : Nat → Option ZFn := lookT [(3, G3 E), (9, G9 E), (10, G10 E), (11, G11 E), (12, G12 E), (13, G13 E), (14, G14 E), (15, G15 E), (16, G16 E), (17, G17 E), (18, G18 E), (19, G19 E), (20, G20 E), (21, G21 E), (22, G22 E), (23, G23 E), (24, G24 E), (25, G25 E), (26, G26 E), (27, G27 E), (45, G45 E), (46, G46 E), (47, G47 E), (48, G48 E), (49, G49 E), (50, G50 E), (51, G51 E), (52, G52 E), (53, G53 E), (54, G54 E), (55, G55 E), (56, G56 E), (57, G57 E), (58, G58 E), (60, G60 E), (62, G62 E), (73, G73 E), (74, G74 E), (75, G75 E), (77, G77 E), (78, G78 E), (79, G79 E), (87, G87 E), (88, G88 E), (91, G91 E)]
theorem E0_ok : LEntry LE 12 (0, [7, 8], (codeAt [1, 0, 1, 0, 0] (bodyOf Try.f46)), (codeAt [1, 0, 1, 0, 1] (bodyOf Try.f46))) := lentry (lf := L0) (m1 := 0) (m2 := 0) rfl rfl (by decide +kernel) rfl (by rw [lv_eq]; exact cC_ok (by kernel_rfl)) (by rw [lv_eq]; exact cC_ok (by kernel_rfl))
set_option maxHeartbeats 4000000 in
theorem tab_le : TabOk LE := fun id lf h => by
 have h0 : ∀ p ∈ LEL, (∀ r ∈ rngs p.2.asg, LEntry LE p.2.n r) ∧ ∀ r ∈ rngs p.2.body, LEntry LE p.2.n r := List.forall_mem_cons.2 ⟨⟨(rngL (l := []) (by kernel_rfl) (fun p h => nomatch h)), (rngL (l := []) (by kernel_rfl) (fun p h => nomatch h))⟩, fun p h => nomatch h⟩
 exact h0 _ (lookT_mem h)
theorem F3_ok : compF (lvOf LE) 0 [0, 1, 4, 5, 6, 3, 2, 10] Try.f3 = some F3 := by rw [lv_eq]; exact cF_ok (by kernel_rfl)
theorem F9_ok : compF (lvOf LE) 0 [1, 2, 3, 4, 0] Try.f9 = some F9 := by rw [lv_eq]; exact cF_ok (by kernel_rfl)
theorem F10_ok : compF (lvOf LE) 0 [0, 1, 11, 10, 9, 4, 3, 48, 47, 46, 7, 5, 2] Try.f10 = some F10 := by rw [lv_eq]; exact cF_ok (by kernel_rfl)
theorem F11_ok : compF (lvOf LE) 0 [0, 3, 1, 4, 5, 6, 2] Try.f11 = some F11 := by rw [lv_eq]; exact cF_ok (by kernel_rfl)
theorem F12_ok : compF (lvOf LE) 0 [0, 1, 2, 3, 4] Try.f12 = some F12 := by rw [lv_eq]; exact cF_ok (by kernel_rfl)
theorem F13_ok : compF (lvOf LE) 0 [0, 1, 2, 3, 5, 6, 4] Try.f13 = some F13 := by rw [lv_eq]; exact cF_ok (by kernel_rfl)
theorem F14_ok : compF (lvOf LE) 0 [0, 8, 7, 3, 4, 2] Try.f14 = some F14 := by rw [lv_eq]; exact cF_ok (by kernel_rfl)
theorem F15_ok : compF (lvOf LE) 0 [4, 0, 3, 2] Try.f15 = some F15 := by rw [lv_eq]; exact cF_ok (by kernel_rfl)
theorem F16_ok : compF (lvOf LE) 0 [0, 3, 1, 4, 2] Try.f16 = some F16 := by rw [lv_eq]; exact cF_ok (by kernel_rfl)
theorem F17_ok : compF (lvOf LE) 0 [0, 1, 2, 3, 5, 4] Try.f17 = some F17 := by rw [lv_eq]; exact cF_ok (by kernel_rfl)
theorem F18_ok : compF (lvOf LE) 0 [0, 1, 2, 6, 3, 5, 7, 4] Try.f18 = some F18 := by rw [lv_eq]; exact cF_ok (by kernel_rfl)
theorem F19_ok : compF (lvOf LE) 0 [0, 1, 5, 4] Try.f19 = some F19 := by rw [lv_eq]; exact cF_ok (by kernel_rfl)
theorem F20_ok : compF (lvOf LE) 0 [0, 1, 9, 8, 7, 5, 3, 2] Try.f20 = some F20 := by rw [lv_eq]; exact cF_ok (by kernel_rfl)
theorem F21_ok : compF (lvOf LE) 0 [0, 4, 1, 3, 2] Try.f21 = some F21 := by rw [lv_eq]; exact cF_ok (by kernel_rfl)
theorem F22_ok : compF (lvOf LE) 0 [0, 1, 2, 4, 5] Try.f22 = some F22 := by rw [lv_eq]; exact cF_ok (by kernel_rfl)
theorem F23_ok : compF (lvOf LE) 0 [0, 1, 2, 4, 6, 5] Try.f23 = some F23 := by rw [lv_eq]; exact cF_ok (by kernel_rfl)
theorem F24_ok : compF (lvOf LE) 0 [0, 2, 1, 6, 5, 4] Try.f24 = some F24 := by rw [lv_eq]; exact cF_ok (by kernel_rfl)
theorem F25_ok : compF (lvOf LE) 0 [0, 5, 2, 1, 4] Try.f25 = some F25 := by rw [lv_eq]; exact cF_ok (by kernel_rfl)
theorem F26_ok : compF (lvOf LE) 0 [0, 3, 1, 8, 6, 7, 2, 9] Try.f26 = some F26 := by rw [lv_eq]; exact cF_ok (by kernel_rfl)
theorem F27_ok : compF (lvOf LE) 0 [0, 8, 3, 1, 7, 6, 2] Try.f27 = some F27 := by rw [lv_eq]; exact cF_ok (by kernel_rfl)
theorem F45_ok : compF (lvOf LE) 0 [0, 1, 2, 3, 4] Try.f45 = some F45 := by rw [lv_eq]; exact cF_ok (by kernel_rfl)
theorem F46_ok : compF (lvOf LE) 0 [0, 2] Try.f46 = some F46 := by rw [lv_eq]; exact cF_ok (by kernel_rfl)
theorem F47_ok : compF (lvOf LE) 0 [0, 1, 13, 12, 5, 4] Try.f47 = some F47 := by rw [lv_eq]; exact cF_ok (by kernel_rfl)
theorem F48_ok : compF (lvOf LE) 0 [0, 1, 13, 12, 5, 4] Try.f48 = some F48 := by rw [lv_eq]; exact cF_ok (by kernel_rfl)
theorem F49_ok : compF (lvOf LE) 0 [0, 1, 18, 17, 16, 9, 11, 2, 13, 12, 3, 8] Try.f49 = some F49 := by rw [lv_eq]; exact cF_ok (by kernel_rfl)
theorem F50_ok : compF (lvOf LE) 0 [0, 1, 2, 3, 4] Try.f50 = some F50 := by rw [lv_eq]; exact cF_ok (by kernel_rfl)
theorem F51_ok : compF (lvOf LE) 0 [0, 1, 2, 3, 4] Try.f51 = some F51 := by rw [lv_eq]; exact cF_ok (by kernel_rfl)
theorem F52_ok : compF (lvOf LE) 0 [0, 8, 7, 6, 5, 3, 2] Try.f52 = some F52 := by rw [lv_eq]; exact cF_ok (by kernel_rfl)
theorem F53_ok : compF (lvOf LE) 0 [0, 1, 5, 6, 4] Try.f53 = some F53 := by rw [lv_eq]; exact cF_ok (by kernel_rfl)
theorem F54_ok : compF (lvOf LE) 0 [0, 1, 18, 17, 16, 9, 11, 2, 13, 12, 3, 8] Try.f54 = some F54 := by rw [lv_eq]; exact cF_ok (by kernel_rfl)
theorem F55_ok : compF (lvOf LE) 0 [0, 1, 2, 3, 4] Try.f55 = some F55 := by rw [lv_eq]; exact cF_ok (by kernel_rfl)
theorem F56_ok : compF (lvOf LE) 0 [1, 5, 0, 3, 6, 4] Try.f56 = some F56 := by rw [lv_eq]; exact cF_ok (by kernel_rfl)
theorem F57_ok : compF (lvOf LE) 0 [1, 5, 0, 3, 6, 4] Try.f57 = some F57 := by rw [lv_eq]; exact cF_ok (by kernel_rfl)
theorem F58_ok : compF (lvOf LE) 0 [0, 1, 2, 4] Try.f58 = some F58 := by rw [lv_eq]; exact cF_ok (by kernel_rfl)
theorem F60_ok : compF (lvOf LE) 0 [0, 2, 1, 7, 4, 6, 5] Try.f60 = some F60 := by rw [lv_eq]; exact cF_ok (by kernel_rfl)
theorem F62_ok : compF (lvOf LE) 0 [0, 1, 3, 4] Try.f62 = some F62 := by rw [lv_eq]; exact cF_ok (by kernel_rfl)
theorem F73_ok : compF (lvOf LE) 0 [0, 1, 5, 6, 4] Try.f73 = some F73 := by rw [lv_eq]; exact cF_ok (by kernel_rfl)
theorem F74_ok : compF (lvOf LE) 0 [0, 1, 2] Try.f74 = some F74 := by rw [lv_eq]; exact cF_ok (by kernel_rfl)
theorem F75_ok : compF (lvOf LE) 0 [1, 0, 8, 9, 10, 2, 11, 4, 6, 7] Try.f75 = some F75 := by rw [lv_eq]; exact cF_ok (by kernel_rfl)
theorem F77_ok : compF (lvOf LE) 0 [0, 1, 4] Try.f77 = some F77 := by rw [lv_eq]; exact cF_ok (by kernel_rfl)
theorem F78_ok : compF (lvOf LE) 0 [0, 2] Try.f78 = some F78 := by rw [lv_eq]; exact cF_ok (by kernel_rfl)
theorem F79_ok : compF (lvOf LE) 0 [1, 0, 8, 9, 10, 2, 11, 4, 6, 7] Try.f79 = some F79 := by rw [lv_eq]; exact cF_ok (by kernel_rfl)
theorem F87_ok : compF (lvOf LE) 0 [0, 2] Try.f87 = some F87 := by rw [lv_eq]; exact cF_ok (by kernel_rfl)
theorem F88_ok : compF (lvOf LE) 0 [3, 1, 0] Try.f88 = some F88 := by rw [lv_eq]; exact cF_ok (by kernel_rfl)
theorem F91_ok : compF (lvOf LE) 0 [0, 1, 4] Try.f91 = some F91 := by rw [lv_eq]; exact cF_ok (by kernel_rfl)
set_option maxHeartbeats 4000000 in
theorem fe_ok {E : Env} (hE : E.fn = Try.fnT) : FEOk E FE LE := fun f ff h => by
 have h0 : ∀ p ∈ FEL, ∃ fn m vs, Try.fnT p.1 = some fn ∧ compF (lvOf LE) m vs fn = some p.2 ∧ ∀ r ∈ rngs p.2.body, LEntry LE fn.ntmps r := List.forall_mem_cons.2 ⟨⟨Try.f3, _, _, rfl, F3_ok, (rngL (l := []) (by kernel_rfl) (fun p h => nomatch h))⟩, List.forall_mem_cons.2 ⟨⟨Try.f9, _, _, rfl, F9_ok, (rngL (l := []) (by kernel_rfl) (fun p h => nomatch h))⟩, List.forall_mem_cons.2 ⟨⟨Try.f10, _, _, rfl, F10_ok, (rngL (l := []) (by kernel_rfl) (fun p h => nomatch h))⟩, List.forall_mem_cons.2 ⟨⟨Try.f11, _, _, rfl, F11_ok, (rngL (l := []) (by kernel_rfl) (fun p h => nomatch h))⟩, List.forall_mem_cons.2 ⟨⟨Try.f12, _, _, rfl, F12_ok, (rngL (l := []) (by kernel_rfl) (fun p h => nomatch h))⟩, List.forall_mem_cons.2 ⟨⟨Try.f13, _, _, rfl, F13_ok, (rngL (l := []) (by kernel_rfl) (fun p h => nomatch h))⟩, List.forall_mem_cons.2 ⟨⟨Try.f14, _, _, rfl, F14_ok, (rngL (l := []) (by kernel_rfl) (fun p h => nomatch h))⟩, List.forall_mem_cons.2 ⟨⟨Try.f15, _, _, rfl, F15_ok, (rngL (l := []) (by kernel_rfl) (fun p h => nomatch h))⟩, List.forall_mem_cons.2 ⟨⟨Try.f16, _, _, rfl, F16_ok, (rngL (l := []) (by kernel_rfl) (fun p h => nomatch h))⟩, List.forall_mem_cons.2 ⟨⟨Try.f17, _, _, rfl, F17_ok, (rngL (l := []) (by kernel_rfl) (fun p h => nomatch h))⟩, List.forall_mem_cons.2 ⟨⟨Try.f18, _, _, rfl, F18_ok, (rngL (l := []) (by kernel_rfl) (fun p h => nomatch h))⟩, List.forall_mem_cons.2 ⟨⟨Try.f19, _, _, rfl, F19_ok, (rngL (l := []) (by kernel_rfl) (fun p h => nomatch h))⟩, List.forall_mem_cons.2 ⟨⟨Try.f20, _, _, rfl, F20_ok, (rngL (l := []) (by kernel_rfl) (fun p h => nomatch h))⟩, List.forall_mem_cons.2 ⟨⟨Try.f21, _, _, rfl, F21_ok, (rngL (l := []) (by kernel_rfl) (fun p h => nomatch h))⟩, List.forall_mem_cons.2 ⟨⟨Try.f22, _, _, rfl, F22_ok, (rngL (l := []) (by kernel_rfl) (fun p h => nomatch h))⟩, List.forall_mem_cons.2 ⟨⟨Try.f23, _, _, rfl, F23_ok, (rngL (l := []) (by kernel_rfl) (fun p h => nomatch h))⟩, List.forall_mem_cons.2 ⟨⟨Try.f24, _, _, rfl, F24_ok, (rngL (l := []) (by kernel_rfl) (fun p h => nomatch h))⟩, List.forall_mem_cons.2 ⟨⟨Try.f25, _, _, rfl, F25_ok, (rngL (l := []) (by kernel_rfl) (fun p h => nomatch h))⟩, List.forall_mem_cons.2 ⟨⟨Try.f26, _, _, rfl, F26_ok, (rngL (l := []) (by kernel_rfl) (fun p h => nomatch h))⟩, List.forall_mem_cons.2 ⟨⟨Try.f27, _, _, rfl, F27_ok, (rngL (l := []) (by kernel_rfl) (fun p h => nomatch h))⟩, List.forall_mem_cons.2 ⟨⟨Try.f45, _, _, rfl, F45_ok, (rngL (l := []) (by kernel_rfl) (fun p h => nomatch h))⟩, List.forall_mem_cons.2 ⟨⟨Try.f46, _, _, rfl, F46_ok, (rngL (l := [(0, [7, 8], (codeAt [1, 0, 1, 0, 0] (bodyOf Try.f46)), (codeAt [1, 0, 1, 0, 1] (bodyOf Try.f46)))]) (by kernel_rfl) (List.forall_mem_cons.2 ⟨E0_ok, fun p h => nomatch h⟩))⟩, List.forall_mem_cons.2 ⟨⟨Try.f47, _, _, rfl, F47_ok, (rngL (l := []) (by kernel_rfl) (fun p h => nomatch h))⟩, List.forall_mem_cons.2 ⟨⟨Try.f48, _, _, rfl, F48_ok, (rngL (l := []) (by kernel_rfl) (fun p h => nomatch h))⟩, List.forall_mem_cons.2 ⟨⟨Try.f49, _, _, rfl, F49_ok, (rngL (l := []) (by kernel_rfl) (fun p h => nomatch h))⟩, List.forall_mem_cons.2 ⟨⟨Try.f50, _, _, rfl, F50_ok, (rngL (l := []) (by kernel_rfl) (fun p h => nomatch h))⟩, List.forall_mem_cons.2 ⟨⟨Try.f51, _, _, rfl, F51_ok, (rngL (l := []) (by kernel_rfl) (fun p h => nomatch h))⟩, List.forall_mem_cons.2 ⟨⟨Try.f52, _, _, rfl, F52_ok, (rngL (l := []) (by kernel_rfl) (fun p h => nomatch h))⟩, List.forall_mem_cons.2 ⟨⟨Try.f53, _, _, rfl, F53_ok, (rngL (l := []) (by kernel_rfl) (fun p h => nomatch h))⟩, List.forall_mem_cons.2 ⟨⟨Try.f54, _, _, rfl, F54_ok, (rngL (l := []) (by kernel_rfl) (fun p h => nomatch h))⟩, List.forall_mem_cons.2 ⟨⟨Try.f55, _, _, rfl, F55_ok, (rngL (l := []) (by kernel_rfl) (fun p h => nomatch h))⟩, List.forall_mem_cons.2 ⟨⟨Try.f56, _, _, rfl, F56_ok, (rngL (l := []) (by kernel_rfl) (fun p h => nomatch h))⟩, List.forall_mem_cons.2 ⟨⟨Try.f57, _, _, rfl, F57_ok, (rngL (l := []) (by kernel_rfl) (fun p h => nomatch h))⟩, List.forall_mem_cons.2 ⟨⟨Try.f58, _, _, rfl, F58_ok, (rngL (l := []) (by kernel_rfl) (fun p h => nomatch h))⟩, List.forall_mem_cons.2 ⟨⟨Try.f60, _, _, rfl, F60_ok, (rngL (l := []) (by kernel_rfl) (fun p h => nomatch h))⟩, List.forall_mem_cons.2 ⟨⟨Try.f62, _, _, rfl, F62_ok, (rngL (l := []) (by kernel_rfl) (fun p h => nomatch h))⟩, List.forall_mem_cons.2 ⟨⟨Try.f73, _, _, rfl, F73_ok, (rngL (l := []) (by kernel_rfl) (fun p h => nomatch h))⟩, List.forall_mem_cons.2 ⟨⟨Try.f74, _, _, rfl, F74_ok, (rngL (l := []) (by kernel_rfl) (fun p h => nomatch h))⟩, List.forall_mem_cons.2 ⟨⟨Try.f75, _, _, rfl, F75_ok, (rngL (l := []) (by kernel_rfl) (fun p h => nomatch h))⟩, List.forall_mem_cons.2 ⟨⟨Try.f77, _, _, rfl, F77_ok, (rngL (l := []) (by kernel_rfl) (fun p h => nomatch h))⟩, List.forall_mem_cons.2 ⟨⟨Try.f78, _, _, rfl, F78_ok, (rngL (l := []) (by kernel_rfl) (fun p h => nomatch h))⟩, List.forall_mem_cons.2 ⟨⟨Try.f79, _, _, rfl, F79_ok, (rngL (l := []) (by kernel_rfl) (fun p h => nomatch h))⟩, List.forall_mem_cons.2 ⟨⟨Try.f87, _, _, rfl, F87_ok, (rngL (l := []) (by kernel_rfl) (fun p h => nomatch h))⟩, List.forall_mem_cons.2 ⟨⟨Try.f88, _, _, rfl, F88_ok, (rngL (l := []) (by kernel_rfl) (fun p h => nomatch h))⟩, List.forall_mem_cons.2 ⟨⟨Try.f91, _, _, rfl, F91_ok, (rngL (l := []) (by kernel_rfl) (fun p h => nomatch h))⟩, fun p h => nomatch h⟩⟩⟩⟩⟩⟩⟩⟩⟩⟩⟩⟩⟩⟩⟩⟩⟩⟩⟩⟩⟩⟩⟩⟩⟩⟩⟩⟩⟩⟩⟩⟩⟩⟩⟩⟩⟩⟩⟩⟩⟩⟩⟩⟩⟩
 rw [hE]
 exact h0 _ (lookT_mem h)
set_option maxHeartbeats 4000000 in
theorem ze_ok {E : Env} (hT : E.ty = Try.tyT) : ZEOk E npT (GE E) FE := by
 obtain ⟨ty, fn, pu, pr⟩ := E
 simp only at hT
 subst hT
 have h0 : ∀ p ∈ FT ⟨Try.tyT, fn, pu, pr⟩, ZOk ⟨Try.tyT, fn, pu, pr⟩ npT p.2.2 p.2.1 := List.forall_mem_cons.2 ⟨G3_ok fn pu pr, List.forall_mem_cons.2 ⟨G9_ok fn pu pr, List.forall_mem_cons.2 ⟨G10_ok fn pu pr, List.forall_mem_cons.2 ⟨G11_ok fn pu pr, List.forall_mem_cons.2 ⟨G12_ok fn pu pr, List.forall_mem_cons.2 ⟨G13_ok fn pu pr, List.forall_mem_cons.2 ⟨G14_ok fn pu pr, List.forall_mem_cons.2 ⟨G15_ok fn pu pr, List.forall_mem_cons.2 ⟨G16_ok fn pu pr, List.forall_mem_cons.2 ⟨G17_ok fn pu pr, List.forall_mem_cons.2 ⟨G18_ok fn pu pr, List.forall_mem_cons.2 ⟨G19_ok fn pu pr, List.forall_mem_cons.2 ⟨G20_ok fn pu pr, List.forall_mem_cons.2 ⟨G21_ok fn pu pr, List.forall_mem_cons.2 ⟨G22_ok fn pu pr, List.forall_mem_cons.2 ⟨G23_ok fn pu pr, List.forall_mem_cons.2 ⟨G24_ok fn pu pr, List.forall_mem_cons.2 ⟨G25_ok fn pu pr, List.forall_mem_cons.2 ⟨G26_ok fn pu pr, List.forall_mem_cons.2 ⟨G27_ok fn pu pr, List.forall_mem_cons.2 ⟨G45_ok fn pu pr, List.forall_mem_cons.2 ⟨G46_ok fn pu pr, List.forall_mem_cons.2 ⟨G47_ok fn pu pr, List.forall_mem_cons.2 ⟨G48_ok fn pu pr, List.forall_mem_cons.2 ⟨G49_ok fn pu pr, List.forall_mem_cons.2 ⟨G50_ok fn pu pr, List.forall_mem_cons.2 ⟨G51_ok fn pu pr, List.forall_mem_cons.2 ⟨G52_ok fn pu pr, List.forall_mem_cons.2 ⟨G53_ok fn pu pr, List.forall_mem_cons.2 ⟨G54_ok fn pu pr, List.forall_mem_cons.2 ⟨G55_ok fn pu pr, List.forall_mem_cons.2 ⟨G56_ok fn pu pr, List.forall_mem_cons.2 ⟨G57_ok fn pu pr, List.forall_mem_cons.2 ⟨G58_ok fn pu pr, List.forall_mem_cons.2 ⟨G60_ok fn pu pr, List.forall_mem_cons.2 ⟨G62_ok fn pu pr, List.forall_mem_cons.2 ⟨G73_ok fn pu pr, List.forall_mem_cons.2 ⟨G74_ok fn pu pr, List.forall_mem_cons.2 ⟨G75_ok fn pu pr, List.forall_mem_cons.2 ⟨G77_ok fn pu pr, List.forall_mem_cons.2 ⟨G78_ok fn pu pr, List.forall_mem_cons.2 ⟨G79_ok fn pu pr, List.forall_mem_cons.2 ⟨G87_ok fn pu pr, List.forall_mem_cons.2 ⟨G88_ok fn pu pr, List.forall_mem_cons.2 ⟨G91_ok fn pu pr, fun p h => nomatch h⟩⟩⟩⟩⟩⟩⟩⟩⟩⟩⟩⟩⟩⟩⟩⟩⟩⟩⟩⟩⟩⟩⟩⟩⟩⟩⟩⟩⟩⟩⟩⟩⟩⟩⟩⟩⟩⟩⟩⟩⟩⟩⟩⟩⟩
 exact zeok_of (FT ⟨Try.tyT, fn, pu, pr⟩) (by kernel_rfl) (by kernel_rfl) h0
set_option maxHeartbeats 4000000 in
theorem zle_ok {E : Env} (hT : E.ty = Try.tyT) : ZLEOk E npT (LZ E) LE := by
 obtain ⟨ty, fn, pu, pr⟩ := E
 simp only at hT
 subst hT
 have h0 : ∀ p ∈ LT ⟨Try.tyT, fn, pu, pr⟩, ZLOk ⟨Try.tyT, fn, pu, pr⟩ npT p.2.2 p.2.1 := List.forall_mem_cons.2 ⟨M0_ok fn pu pr, fun p h => nomatch h⟩
 exact zleok_of (LT ⟨Try.tyT, fn, pu, pr⟩) (by kernel_rfl) (by kernel_rfl) h0
end Go.Proofs.PxV2
