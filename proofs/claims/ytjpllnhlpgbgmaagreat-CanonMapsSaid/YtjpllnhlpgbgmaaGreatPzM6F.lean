/- Canon: two maps joined (walks by zauto). -/
import Derived.Test.YtjpllnhlpgbgmaaGreatPzM6E
set_option linter.unusedVariables false
set_option linter.unusedSimpArgs false
set_option maxRecDepth 100000
namespace Go.Proofs.PxM6
open Go Go.Px Go.Proofs
theorem fzL_txt (g : Nat → Option AO) (k : Nat) : ∀ l : Txt, fzL (fzG E1 g (k + 1)) (txtC l) = some (txtC l, [])
 | [] => rfl
 | t :: l => by
  have ih := fzL_txt g k l
  show fzL (fzG E1 g (k + 1)) (.str t :: txtC l) = _
  simp only [fzL, Option.bind_eq_bind, ih]
  rfl
theorem fzL_num (g : Nat → Option AO) (k : Nat) : ∀ l : List Nat, fzL (fzG E1 g (k + 1)) (numC l) = some (numC l, [])
 | [] => rfl
 | n :: l => by
  have ih := fzL_num g k l
  show fzL (fzG E1 g (k + 1)) (.int .u64 n :: .int .u64 0 :: .sl 0 [] true :: .sl 0 [] true :: .sl 0 [] true :: numC l) = _
  simp only [fzL, Option.bind_eq_bind, ih]
  rfl
theorem fz_map {g : Nat → Option AO} {nS nV n : Nat} {s : Txt} {v : List Nat} (h1 : g nS = some (.row 9 (txtC s) false)) (h2 : g nV = some (.row 29 (numC v) false)) (hs : s.length = n) (hv : v.length = n) (k : Nat) :
  fzG E1 g (k + 4) (.tup [.agg [.int .u64 0, .int .u64 0, .own nS 0 n 1, .sl 0 [] true, .own nV 0 n 5], .nilIface]) = some (.tup [.agg (mapV s false v false), .nilIface], [nS, nV]) := by
 have e1 : fzG E1 g (k + 2) (.own nS 0 n 1) = some (.sl n (txtC s) false, [nS]) := fzG_ownX h1 (by rw [txtC_len]; omega) (fzL_txt g k s)
 have e2 : fzG E1 g (k + 2) (.own nV 0 n 5) = some (.sl n (numC v) false, [nV]) := fzG_ownX h2 (by rw [numC_len]; omega) (fzL_num g k v)
 have e3 : fzG E1 g (k + 3) (.agg [.int .u64 0, .int .u64 0, .own nS 0 n 1, .sl 0 [] true, .own nV 0 n 5]) = some (.agg (mapV s false v false), [nS, nV]) := by
  rw [fzG]
  simp only [fzL, e1, e2, Option.bind_eq_bind, Option.bind_some, mapV, hs, hv]
  rfl
 rw [fzG]
 simp only [fzL, e3, Option.bind_eq_bind, Option.bind_some]
 rfl
theorem mergeE_ok : ∀ (a b : List Ent), (∀ x ∈ a, x.2 ≠ []) → (∀ x ∈ b, x.2 ≠ []) → ∀ y ∈ mergeE a b, okM y
 | [], b, _, hb, y, hy => by
  rw [mergeE] at hy
  obtain ⟨x, hx, rfl⟩ := List.mem_map.1 hy
  exact ⟨hb x hx, by simp⟩
 | x :: a, [], ha, hb, y, hy => by
  rw [mergeE] at hy
  rcases List.mem_cons.1 hy with rfl | hy
  ·exact ⟨ha x (by simp), by simp⟩
  ·exact mergeE_ok a [] (fun z hz => ha z (by simp [hz])) hb y hy
 | x :: a, z :: b, ha, hb, y, hy => by
  rw [mergeE] at hy
  split at hy
  ·rcases List.mem_cons.1 hy with rfl | hy
   ·exact ⟨ha x (by simp), by simp⟩
   ·exact mergeE_ok a (z :: b) (fun q hq => ha q (by simp [hq])) hb y hy
  ·split at hy
   ·rcases List.mem_cons.1 hy with rfl | hy
    ·exact ⟨hb z (by simp), by simp⟩
    ·exact mergeE_ok (x :: a) b ha (fun q hq => hb q (by simp [hq])) y hy
   ·rcases List.mem_cons.1 hy with rfl | hy
    ·refine ⟨ha x (by simp), fun e => hb z (by simp) (by simpa using e)⟩
    ·exact mergeE_ok a b (fun q hq => ha q (by simp [hq])) (fun q hq => hb q (by simp [hq])) y hy
 termination_by a b => a.length + b.length
theorem mergeE_len : ∀ (a b : List Ent), (mergeE a b).length ≤ a.length + b.length
 | [], b => by rw [mergeE]; simp
 | x :: a, [] => by rw [mergeE]; have := mergeE_len a []; simp at this ⊢; omega
 | x :: a, z :: b => by
  rw [mergeE]
  split
  ·have := mergeE_len a (z :: b); simp at this ⊢; omega
  ·split
   ·have := mergeE_len (x :: a) b; simp at this ⊢; omega
   ·have := mergeE_len a b; simp at this ⊢; omega
 termination_by a b => a.length + b.length
theorem rowE_ne : ∀ (s : Txt) (v : List Nat), ∀ x ∈ rowE s v, x.2 ≠ []
 | [], v, x, h => by simp [rowE] at h
 | a :: s, [], x, h => by simp [rowE] at h
 | a :: s, n :: v, x, h => by
  simp only [rowE, List.mem_cons] at h
  rcases h with rfl | h
  ·simp
  ·exact rowE_ne s v x h
def mapA (s : Txt) (v : List Nat) : AV := .agg (mapV s (s.length == 0) v (v.length == 0))
set_option maxHeartbeats 4000000 in
theorem c128 {k : Nat} (Y : YE) (T : TH) (sA : Txt) (vA : List Nat) (sB : Txt) (vB : List Nat) (f1 f2 f3 f4 : Bool) (hA : sA.length = vA.length) (hB : sB.length = vB.length) (hlA : sA.length ≤ 100) (hlB : sB.length ≤ 100) (hk : 3000 ≤ k) (all : List Mrg) (hall : mergeE (rowE sA vA) (rowE sB vB) = all) :
  CY (k + 6) Y (.func 128) [sMap, .agg (mapV sA f1 vA f2), .agg (mapV sB f3 vB f4)] T = some (.tup [mapA (all.map (·.1.1)) (all.map mN), .nilIface], T, ⟨[], [], false⟩) := by
 have hok := mergeE_ok _ _ (rowE_ne sA vA) (rowE_ne sB vB)
 have hlen := mergeE_len (rowE sA vA) (rowE sB vB)
 have l1 := rowE_len sA vA hA
 have l2 := rowE_len sB vB hB
 rw [hall] at hok hlen
 refine call_go (zf := G128 E1) rfl rfl (fun _ => rfl) (fun _ => rfl) ?_
 unfold G128 sMap mapV
 dsimp only
 have hH : Has ([] : Heap) [] := has_nil
 refine zpR ?_
 refine qV_new hH (ev_boxQ rfl rfl ⟨_, rfl⟩) (fun _ => rfl) fun n1 Hn1 hH => ?_
 refine qV_new hH (ev_boxQ rfl rfl ⟨_, rfl⟩) (fun _ => rfl) fun n2 Hn2 hH => ?_
 refine qV_new hH (ev_boxQ rfl rfl ⟨_, rfl⟩) (fun _ => rfl) fun n3 Hn3 hH => ?_
 refine qV_new hH (ev_allocQ rfl) (fun _ => rfl) fun n4 Hn4 hH => ?_
 refine qV_new hH (ev_allocQ rfl) (fun _ => rfl) fun n5 Hn5 hH => ?_
 refine zpR ?_
 refine qV_new hH (ev_allocQ rfl) (fun _ => rfl) fun n6 Hn6 hH => ?_
 refine zpA <| zpA ?_
 refine qd3 hH fun n7 Hn7 hH => ?_
 refine st (zPD_v (vFieldAddr_loc rfl)) <| st (zLD_v (wL_loc rfl (has_get hH 7 rfl) rfl rfl) rfl spOk_nil) <| st (zPD_v (vFieldAddr_loc rfl)) <| st (zLD_v (wL_loc rfl (has_get hH 7 rfl) rfl rfl) rfl (spOk_apart rfl spOk_nil)) <| st (cP_idle rfl (c142 _ _ _ _ _ _ hA (by omega) (by omega)) rfl) <| st (zPD_v (vFieldAddr_loc rfl)) <| st (zLD_v (wL_loc rfl (has_get hH 6 rfl) rfl rfl) rfl (spOk_apart rfl (spOk_apart rfl spOk_nil))) <| st (zPD_v (vFieldAddr_loc rfl)) <| st (zLD_v (wL_loc rfl (has_get hH 6 rfl) rfl rfl) rfl (spOk_apart rfl (spOk_apart rfl (spOk_apart rfl spOk_nil)))) <| st (cP_idle rfl (c142 _ _ _ _ _ _ hB (by omega) (by omega)) rfl) ?_
 (obtain ⟨r, H9, ac, fr9, hc, hH, na, nb, nc, rfl, rfl⟩ := c141 (k := k + 4) (Y := Y) _ _ _ _ _ _ _ _ hH; refine st (cP_any rfl hc (by repeat' first | exact spOk_nil | refine spOk_bef rfl ?_ | (refine spOk_apart (mtA rfl rfl ?_) ?_; focus (have q := has_nd hH; simp at q; simp [Acc.add, Acc.none, Acc.read] <;> omega)))) ?_)
 refine st zBlock_app ?_
 refine zRangeQ hH rfl fun l H1 hH => ?_
 obtain ⟨r, H2, ac, fr2, hc, hH2, hj⟩ := c157 (k := k + 1) (Y := d128 l n1 n4 n5 n6 :: []) l na nb nc (fun x fr => ∃ done, all = done ++ x ∧ (∀ y ∈ x, okM y) ∧ Fr128 l n1 n6 [(n4, .row 29 [.int .u64 0, .int .u64 0, .sl 0 [] true, .sl 0 [] true, .sl 0 [] true] false), (n5, .row 32 [.nilIface] false)] done fr) (fun _ => False)
  (fun H x r fr A B C ⟨done, h1, h2, h3⟩ hH => by
   obtain ⟨p, H', ac, fr', hc, hH', rfl, g, rfl, hg⟩ := round128 (k := k) (Y := []) l n1 n4 n5 n6 H x done (by have := congrArg List.length h1; simp at this; omega) (h2 x (by simp)) _ _ _ _ fr h3 hH
   exact ⟨true, H', ac, g, hc, hH', ⟨done ++ [x], by simp [h1], fun y hy => h2 y (by simp [hy]), hg⟩⟩)
  (rowE sA vA) (rowE sB vB) _ _ H1 _ (by omega) (by omega) (by omega) (by rw [hall]; exact ⟨[], rfl, hok, ⟨_, _, _, _, .inl ⟨rfl, rfl⟩⟩⟩) (has_pick hH [3, 2, 1, 0, 12, 7, 9, 8] rfl (by decide))
 refine ⟨r, H2, ac, hc, ?_⟩
 rcases hj with ⟨done, h1, _, tm, ps, ca, cb, ⟨rfl, rfl⟩ | ⟨hne, nS, nV, rfl⟩⟩ | h
 ·obtain rfl : all = [] := by simpa using h1
  refine ⟨_, _, _, _, _, _, _, hH2, rfl, .inl ⟨rfl, fun H3 hH => ?_⟩⟩
  refine zpR <| st (zL_v (wL_loc rfl (has_get hH 1 rfl) rfl rfl)) ?_
  refine qN_put hH 2 rfl rfl rfl rfl ⟨_, rfl, rfl⟩ rfl rfl rfl fun H1 hH => ?_
  refine qN_put hH 3 rfl rfl rfl rfl ⟨_, rfl, rfl⟩ rfl rfl rfl fun H2 hH => ?_
  refine st zRet_app ?_
  exact ends_cc rfl (has_get hH 2 rfl) ⟨_, rfl, rfl, rfl⟩ rfl (has_get hH 3 rfl) ⟨_, rfl, rfl, rfl⟩ rfl
 ·obtain rfl : all = done := by simpa using h1
  have e : mapA (all.map (·.1.1)) (all.map mN) = .agg (mapV (all.map (·.1.1)) false (all.map mN) false) := by
   have hz : (all.length == 0) = false := by cases all with | nil => exact absurd rfl hne | cons _ _ => rfl
   unfold mapA; simp [hz]
  rw [e]
  refine ⟨_, _, _, _, _, _, _, hH2, rfl, .inl ⟨rfl, fun H3 hH => ?_⟩⟩
  refine zpR <| st (zL_v (wL_loc rfl (has_get hH 1 rfl) rfl rfl)) ?_
  refine qN_put hH 4 rfl rfl rfl rfl ⟨_, rfl, rfl⟩ rfl rfl rfl fun H1 hH => ?_
  refine qN_put hH 5 rfl rfl rfl rfl ⟨_, rfl, rfl⟩ rfl rfl rfl fun H2 hH => ?_
  refine st zRet_app ?_
  exact ends_cc rfl (has_get hH 4 rfl) ⟨_, rfl, rfl, rfl⟩ rfl (has_get hH 5 rfl) ⟨_, rfl, rfl, rfl⟩ (fz_map (k := 56) (has_get hH 2 rfl) (has_get hH 3 rfl) (by simp) (by simp))
 ·exact h.elim
end Go.Proofs.PxM6
