/- The ring's hashes, numbers, marks, places as calls. -/
import Derived.Test.YtpdgbkmpcahjjaaPb4
import Derived.Test.YtpdgbkmpcahjjaaPzR2G
import Derived.Test.YtpdgbkmpcahjjaaPxR2E
import Derived.Test.YtpdgbkmpcahjjaaPzV1Key
import Derived.Test.YtpdgbkmpcahjjaaPzV1Mark
set_option linter.unusedVariables false
set_option linter.unusedSimpArgs false
set_option maxRecDepth 100000
namespace Go.Proofs.PxR2
open Go Go.Px Go.Proofs
noncomputable abbrev CY (k : Nat) : CallYT := callZ E1 (GE E1) (LZ E1) k
theorem flat_str (s : List Nat) (g : Nat → Option AO) : fzL (fzG E1 g fzDeep) [.str s] = some ([.str s], []) := rfl
theorem flat_int (kd : IntKind) (n : Int) (g : Nat → Option AO) : fzL (fzG E1 g fzDeep) [.int kd n] = some ([.int kd n], []) := rfl
theorem byteB : ByteT E1 38 5 9 ⟨.slice 5, 1, 24, [.sl 0 [] true]⟩ ⟨.int .u8, 1, 1, [.int .u8 0]⟩ ⟨.str, 1, 16, [.str []]⟩ where
  ht := rfl
  dt := rfl
  he := rfl
  de := rfl
  ze := rfl
  oe := ⟨_, rfl⟩
  hs := rfl
  ds := rfl
theorem c64 {k : Nat} (Y : YE) (T : TH) (s : List Nat) (hs : s.length ≤ 200) (hk : 201 ≤ k) : ∃ a, CY (k + 1) Y (.func 64) [.str s] T = some (.int .u64 (hashL s), T, a) :=
  ⟨_, call_flat (zf := G64 E1) rfl rfl (flat_str s) (hash64 (i9 := ⟨.str, 1, 16, [.str []]⟩) rfl rfl _ _ k s _ (by omega) (by omega)) (fun _ => rfl) rfl⟩
theorem c67 {k : Nat} (Y : YE) (T : TH) (s : List Nat) (hs : s.length ≤ 200) (hk : 201 ≤ k) : ∃ a, CY (k + 1) Y (.func 67) [.str s] T = some (.int .u64 (hashL s), T, a) :=
  ⟨_, call_flat (zf := G67 E1) rfl rfl (flat_str s) (hash67 (i9 := ⟨.str, 1, 16, [.str []]⟩) rfl rfl _ _ k s _ (by omega) (by omega)) (fun _ => rfl) rfl⟩
theorem c68 {k : Nat} (Y : YE) (T : TH) (n : Nat) (hn : n < 18446744073709551616) (hk : 10 ≤ k) : ∃ a, CY (k + 1) Y (.func 68) [.int .u64 n] T = some (.str (numL n), T, a) := by
  obtain ⟨X, h⟩ := num68 byteB (CY k) [] k n [] hn (by omega)
  exact ⟨_, call_flat (zf := G68 E1) rfl rfl (flat_int _ _) h (fun _ => rfl) rfl⟩
theorem c81 {k : Nat} (Y : YE) (T : TH) (n : Nat) (hn : n < 18446744073709551616) (hk : 10 ≤ k) : ∃ a, CY (k + 1) Y (.func 81) [.int .u64 n] T = some (.str (numL n), T, a) := by
  obtain ⟨X, h⟩ := num81 byteB rfl (CY k) [] k n [] hn (by omega)
  exact ⟨_, call_flat (zf := G81 E1) rfl rfl (flat_int _ _) h (fun _ => rfl) rfl⟩
theorem c66 {k : Nat} (Y : YE) (T : TH) (x : Int) : ∃ a, CY (k + 1) Y (.func 66) [.int .u64 x] T = some (.int .u64 (onceI x), T, a) :=
  ⟨_, call_flat (zf := G66 E1) rfl rfl (flat_int _ _) (once66 _ _ k x _) (fun _ => rfl) rfl⟩
theorem c63 {k : Nat} (Y : YE) (T : TH) (n : Nat) (hn : n < 18446744073709551616) (hk : 3 ≤ k) : ∃ a, CY (k + 1) Y (.func 63) [.int .u64 n] T = some (.int .u64 (onceI (onceI n)), T, a) := by
  obtain ⟨d, rfl⟩ := Nat.exists_eq_add_of_le hk
  exact ⟨_, call_flat (zf := G63 E1) rfl rfl (flat_int _ _) (by rw [Nat.add_comm 3 d]; exact spread63 _ _ d n _ hn) (fun _ => rfl) rfl⟩
theorem wrap_nat (x : Int) : ∃ n : Nat, n < 18446744073709551616 ∧ IntKind.u64.wrap x = n := by
  refine ⟨(x % 18446744073709551616).toNat, by omega, ?_⟩
  rw [Int.toNat_of_nonneg (by omega)]
  simp [IntKind.wrap, IntKind.bits, IntKind.signed]
theorem hash_nat (s : List Nat) : ∃ n : Nat, n < 18446744073709551616 ∧ hashL s = n := by
  unfold hashL
  suffices h : ∀ (l : List Nat) (x : Int), (∃ n : Nat, n < 18446744073709551616 ∧ x = n) → ∃ n : Nat, n < 18446744073709551616 ∧ l.foldl hashI x = n from h s _ ⟨14695981039346656037, by omega, rfl⟩
  intro l
  induction l with
  | nil => intro x h; exact h
  | cons y l ih =>
    intro x h
    refine ih _ ?_
    unfold hashI
    exact wrap_nat _
noncomputable def spotN (s : List Nat) : Nat := (onceI (onceI (hashL s))).toNat
theorem spotN_eq (s : List Nat) : onceI (onceI (hashL s)) = (spotN s : Int) ∧ spotN s < 18446744073709551616 := by
  obtain ⟨n, hn, e⟩ := onceI_nat (onceI (hashL s))
  unfold spotN
  rw [e]; simp [hn]
noncomputable def placeN (key : List Nat) : Nat := spotN ([107, 101, 121] ++ key)
noncomputable def markN (node i : Int) : Nat := spotN (([110, 111, 100, 101] ++ numL (max node 0).toNat) ++ numL (max i 0).toNat)
theorem numL_len (n : Nat) : (numL n).length ≤ 10 := by
  unfold numL
  have := numI_len 9 n
  simp; omega
theorem c31 {k : Nat} (Y : YE) (T : TH) (s : List Nat) (hs : s.length ≤ 100) (hk : 202 ≤ k) : ∃ a, CY (k + 1) Y (.func 31) [.str s] T = some (.int .u64 (placeN s), T, a) := by
  obtain ⟨j, rfl⟩ := Nat.exists_eq_add_of_le hk
  obtain ⟨n, hn, e⟩ := hash_nat ([107, 101, 121] ++ s)
  have h1 := c64 (k := 201 + j) [] (rep []) ([107, 101, 121] ++ s) (by simp; omega) (by omega)
  rw [e] at h1
  have h2 := c63 (k := 201 + j) [] (rep []) n hn (by omega)
  rw [← e, (spotN_eq _).1] at h2
  rw [show 202 + j = 201 + j + 1 by omega]
  exact ⟨_, call_flat (zf := G31 E1) rfl rfl (flat_str s) (key31 _ _ _ s _ _ _ (by omega) h1 (by rw [e] at h2; exact h2)) (fun _ => rfl) rfl⟩
theorem c32 {k : Nat} (Y : YE) (T : TH) (s : List Nat) (hs : s.length ≤ 100) (hk : 202 ≤ k) : ∃ a, CY (k + 1) Y (.func 32) [.str s] T = some (.int .u64 (placeN s), T, a) := by
  obtain ⟨j, rfl⟩ := Nat.exists_eq_add_of_le hk
  have h1 := c67 (k := 201 + j) [] (rep []) ([107, 101, 121] ++ s) (by simp; omega) (by omega)
  have h2 := c66 (k := 201 + j) [] (rep []) (hashL ([107, 101, 121] ++ s))
  have h3 := c66 (k := 201 + j) [] (rep []) (onceI (hashL ([107, 101, 121] ++ s)))
  rw [(spotN_eq _).1] at h3
  rw [show 202 + j = 201 + j + 1 by omega]
  exact ⟨_, call_flat (zf := G32 E1) rfl rfl (flat_str s) (key32 _ _ _ s _ _ _ _ (by omega) h1 h2 h3) (fun _ => rfl) rfl⟩
theorem most_lG {E : Env} {L V : List AV} {H : Heap} {a b : O} {n : Int} (ha : gO L V a = .int .i64 n) (hb : gO L V b = .int .i64 0) : evalFA E L V H (.most true [a, b]) = some (.val (.int .i64 (max n 0)), Acc.none) := by
  simp [evalFA, mostA, most2, ha, hb]
  try omega
theorem most_rG {E : Env} {L V : List AV} {H : Heap} {a b : O} {n : Int} (ha : gO L V a = .int .i64 0) (hb : gO L V b = .int .i64 n) : evalFA E L V H (.most true [a, b]) = some (.val (.int .i64 (max n 0)), Acc.none) := by
  simp [evalFA, mostA, most2, ha, hb]
  try omega
end Go.Proofs.PxR2
