/- The ring's marks, of whatever node. -/
import Derived.Test.YtpdgbkmpcahjjaaPzR2A
set_option linter.unusedVariables false
set_option linter.unusedSimpArgs false
set_option maxRecDepth 100000
namespace Go.Proofs.PxR2
open Go Go.Px Go.Proofs
def I64 (n : Int) : Prop := -9223372036854775808 ≤ n ∧ n < 9223372036854775808
theorem max_nat {n : Int} (h : I64 n) : ∃ m : Nat, m < 9223372036854775808 ∧ max n 0 = m := ⟨(max n 0).toNat, by unfold I64 at h; omega, by omega⟩
theorem mark65G (cy : CallYT) (Y : YE) (k : Nat) (n : Int) (hn : I64 n) (H H' : Heap) (s : List Nat)
    (h81 : ∃ a, cy Y (.func 81) [.int .u64 ((max n 0).toNat : Nat)] (rep H) = some (.str s, rep H', a)) :
    bodyZ E1 cy Y k (G65 E1) [.int .i64 n] (rep H) = some (.str s, rep H') := by
  obtain ⟨a, h81⟩ := h81
  obtain ⟨m, hm, e⟩ := max_nat hn
  rw [e] at h81
  have hw : IntKind.u64.wrap (max n 0) = m := by rw [e]; exact u64_wrap (by omega)
  have e0 : bodyZ E1 cy Y k (G65 E1) [.int .i64 n] (rep H) = (G65 E1).z cy Y k (finZ E1 [.tmp (.v 1)]) (fun _ _ _ _ => none) (finZ E1 [.tmp (.v 1)]) [] [.int .i64 n, .undef] (rep H) := by kernel_rfl
  refine e0.trans ?_
  unfold G65
  dsimp only
  refine zSeq_reg.trans ?_
  refine (zV_v vMv_eq).trans ?_
  refine zSeq_reg.trans ?_
  refine (zStep_valH rfl (most_lG rfl rfl)).trans ?_
  refine (zP_v (vConv_eq rfl)).trans ?_
  rw [hw]
  refine (zCall_eq h81).trans ?_
  refine (zV_v vMv_eq).trans ?_
  refine zRet_app.trans ?_
  rfl
theorem c65 {k : Nat} (Y : YE) (T : TH) (n : Int) (hn : I64 n) (hk : 11 ≤ k) : ∃ a, CY (k + 1) Y (.func 65) [.int .i64 n] T = some (.str (numL (max n 0).toNat), T, a) := by
  obtain ⟨j, rfl⟩ := Nat.exists_eq_add_of_le hk
  obtain ⟨m, hm, e⟩ := max_nat hn
  have h1 := c81 (k := 10 + j) [] (rep []) (max n 0).toNat (by omega) (by omega)
  rw [show 11 + j = 10 + j + 1 by omega]
  exact ⟨_, call_flat (zf := G65 E1) rfl rfl (flat_int _ _) (mark65G _ _ _ n hn [] [] _ h1) (fun _ => rfl) rfl⟩
theorem flat_int2 (k1 k2 : IntKind) (n m : Int) (g : Nat → Option AO) : fzL (fzG E1 g fzDeep) [.int k1 n, .int k2 m] = some ([.int k1 n, .int k2 m], []) := rfl
theorem c29 {k : Nat} (Y : YE) (T : TH) (n m : Int) (hn : I64 n) (hm : I64 m) (hk : 202 ≤ k) : CY (k + 1) Y (.func 29) [.int .i64 n, .int .i64 m] T = some (.int .u64 (markN n m), T, ⟨[], [], false⟩) := by
  obtain ⟨j, rfl⟩ := Nat.exists_eq_add_of_le hk
  rw [show 202 + j = 201 + j + 1 by omega]
  have l1 := numL_len (max n 0).toNat
  have l2 := numL_len (max m 0).toNat
  obtain ⟨x, hx, e⟩ := hash_nat (([110, 111, 100, 101] ++ numL (max n 0).toNat) ++ numL (max m 0).toNat)
  have h1 := c65 (k := 201 + j) [] (rep []) n hn (by omega)
  have h2 := c65 (k := 201 + j) [] (rep []) m hm (by omega)
  have h3 := c64 (k := 201 + j) [] (rep []) (([110, 111, 100, 101] ++ numL (max n 0).toNat) ++ numL (max m 0).toNat) (by simp; omega) (by omega)
  rw [e] at h3
  have h4 := c63 (k := 201 + j) [] (rep []) x hx (by omega)
  rw [← e, (spotN_eq _).1, e] at h4
  exact call_flat (zf := G29 E1) rfl rfl (flat_int2 _ _ _ _) (node29 _ _ _ _ _ [] [] [] _ _ _ _ (by omega) h1 h2 h3 h4) (fun _ => rfl) rfl
theorem node30G (cy : CallYT) (Y : YE) (k : Nat) (n m : Int) (hn : I64 n) (hm : I64 m) (H : Heap) (s1 s2 : List Nat) (x y z : Int) (hs : s1.length + s2.length ≤ 1000)
    (h68 : ∃ a, cy Y (.func 68) [.int .u64 ((max n 0).toNat : Nat)] (rep H) = some (.str s1, rep H, a)) (h68' : ∃ a, cy Y (.func 68) [.int .u64 ((max m 0).toNat : Nat)] (rep H) = some (.str s2, rep H, a))
    (h67 : ∃ a, cy Y (.func 67) [.str (([110, 111, 100, 101] ++ s1) ++ s2)] (rep H) = some (.int .u64 x, rep H, a)) (h66 : ∃ a, cy Y (.func 66) [.int .u64 x] (rep H) = some (.int .u64 z, rep H, a)) (h66' : ∃ a, cy Y (.func 66) [.int .u64 z] (rep H) = some (.int .u64 y, rep H, a)) :
    bodyZ E1 cy Y k (G30 E1) [.int .i64 n, .int .i64 m] (rep H) = some (.int .u64 y, rep H) := by
  obtain ⟨a, h68⟩ := h68
  obtain ⟨b, h68'⟩ := h68'
  obtain ⟨c, h67⟩ := h67
  obtain ⟨d, h66⟩ := h66
  obtain ⟨d', h66'⟩ := h66'
  obtain ⟨p, hp, e⟩ := max_nat hn
  obtain ⟨q, hq, e'⟩ := max_nat hm
  rw [e] at h68
  rw [e'] at h68'
  have hw : IntKind.u64.wrap (max n 0) = p := by rw [e]; exact u64_wrap (by omega)
  have hv : IntKind.u64.wrap (max m 0) = q := by rw [e']; exact u64_wrap (by omega)
  have e0 : bodyZ E1 cy Y k (G30 E1) [.int .i64 n, .int .i64 m] (rep H) = (G30 E1).z cy Y k (finZ E1 [.tmp (.v 2)]) (fun _ _ _ _ => none) (finZ E1 [.tmp (.v 2)]) [] [.int .i64 n, .int .i64 m, .undef] (rep H) := by kernel_rfl
  refine e0.trans ?_
  unfold G30
  dsimp only
  refine zSeq_reg.trans ?_
  refine (zV_v vMv_eq).trans ?_
  refine zSeq_reg.trans ?_
  refine (zStep_valH rfl (most_rG rfl rfl)).trans ?_
  refine (zP_v (vConv_eq rfl)).trans ?_
  rw [hw]
  refine (zCall_eq h68).trans ?_
  refine (zP_v (vInt_bin rfl rfl (addS (by simp; omega) _ _))).trans ?_
  refine (zStep_valH rfl (most_rG rfl rfl)).trans ?_
  refine (zP_v (vConv_eq rfl)).trans ?_
  rw [hv]
  refine (zCall_eq h68').trans ?_
  refine (zP_v (vInt_bin rfl rfl (addS (by simp; omega) _ _))).trans ?_
  refine (zCall_eq h67).trans ?_
  refine (zCall_eq h66).trans ?_
  refine (zCall_eq h66').trans ?_
  refine (zV_v vMv_eq).trans ?_
  refine zRet_app.trans ?_
  rfl
theorem c30 {k : Nat} (Y : YE) (T : TH) (n m : Int) (hn : I64 n) (hm : I64 m) (hk : 202 ≤ k) : CY (k + 1) Y (.func 30) [.int .i64 n, .int .i64 m] T = some (.int .u64 (markN n m), T, ⟨[], [], false⟩) := by
  obtain ⟨j, rfl⟩ := Nat.exists_eq_add_of_le hk
  rw [show 202 + j = 201 + j + 1 by omega]
  have l1 := numL_len (max n 0).toNat
  have l2 := numL_len (max m 0).toNat
  obtain ⟨p, hp, ep⟩ := max_nat hn
  obtain ⟨q, hq, eq⟩ := max_nat hm
  have h1 := c68 (k := 201 + j) [] (rep []) (max n 0).toNat (by omega) (by omega)
  have h2 := c68 (k := 201 + j) [] (rep []) (max m 0).toNat (by omega) (by omega)
  have h3 := c67 (k := 201 + j) [] (rep []) (([110, 111, 100, 101] ++ numL (max n 0).toNat) ++ numL (max m 0).toNat) (by simp; omega) (by omega)
  have h4 := c66 (k := 201 + j) [] (rep []) (hashL (([110, 111, 100, 101] ++ numL (max n 0).toNat) ++ numL (max m 0).toNat))
  have h5 := c66 (k := 201 + j) [] (rep []) (onceI (hashL (([110, 111, 100, 101] ++ numL (max n 0).toNat) ++ numL (max m 0).toNat)))
  rw [(spotN_eq _).1] at h5
  exact call_flat (zf := G30 E1) rfl rfl (flat_int2 _ _ _ _) (node30G _ _ _ _ _ hn hm [] _ _ _ _ _ (by omega) h1 h2 h3 h4 h5) (fun _ => rfl) rfl
end Go.Proofs.PxR2
