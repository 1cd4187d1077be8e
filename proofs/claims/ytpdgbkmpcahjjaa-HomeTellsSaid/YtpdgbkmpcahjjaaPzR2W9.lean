/- ring.Walk, ring.Keepers as calls. -/
import Derived.Test.YtpdgbkmpcahjjaaPzR2W8
set_option linter.unusedVariables false
set_option linter.unusedSimpArgs false
set_option maxRecDepth 100000
namespace Go.Proofs.PxR2
open Go Go.Px Go.Proofs
theorem outV_eq (w : List Int) : outV w = .sl w.length (w.map iV) w.isEmpty := by
  unfold outV
  cases w <;> simp
theorem fz_own {H : Heap} {v : AV} {out : List Int} (h : OwnI H v out) : ∃ ns, fzG E1 (rep H).get fzDeep v = some (outV out, ns) := by
  rw [show (rep H).get = fun i => H[i]? from funext (rep_get _)]
  rcases h with ⟨rfl, rfl⟩ | ⟨hne, nm, hnm, rfl, hr⟩
  · exact ⟨[], rfl⟩
  · refine ⟨[nm], ?_⟩
    have h1 := fzG_own (E := E1) (g := fun i => H[i]?) (k := 59) (n := out.length) (sz := 1) hr (by simp) (fzL_ints _ 58 out)
    rw [outV_eq]
    rw [show out.isEmpty = false by cases out; exact absurd rfl hne; rfl]
    exact h1
noncomputable def walkK (key : List Nat) (ns : List Int) : List Int := walkS (ringS (placeN key) ns)
theorem walk33 {k : Nat} (hk : 420 ≤ k) (ns : List Int) (fl : Bool) (key : List Nat) (hns : ∀ n ∈ ns, I64 n) (hlen : ns.length < 50) (hkey : key.length ≤ 100) :
    ∃ v H', bodyZ E1 (CY k) [] k (G33 E1) [.sl ns.length (ns.map iV) fl, .str key] (rep []) = some (v, rep H') ∧ OwnI H' v (walkK key ns) := by
  obtain ⟨j, rfl⟩ : ∃ j, k = j + 1 := ⟨k - 1, by omega⟩
  have hl := ringS_len (placeN key) ns
  obtain ⟨f, a, h70⟩ := c70 (k := j) (by omega) [] (rep [.row 32 [.sl 0 [] true] false]) ns fl (placeN key) (spotN_eq _).2 hns (by omega)
  exact body33 (j + 1) _ key hkey (by omega) (ringS (placeN key) ns) f (by omega) (by omega) ⟨a, h70⟩
theorem c33 {k : Nat} (hk : 420 ≤ k) (Y : YE) (T : TH) (ns : List Int) (fl : Bool) (key : List Nat) (hns : ∀ n ∈ ns, I64 n) (hlen : ns.length < 50) (hkey : key.length ≤ 100) :
    ∃ a, CY (k + 1) Y (.func 33) [.sl ns.length (ns.map iV) fl, .str key] T = some (outV (walkK key ns), T, a) := by
  obtain ⟨v, H', hb, ho⟩ := walk33 hk ns fl key hns hlen hkey
  obtain ⟨nss, hz⟩ := fz_own ho
  have h := call_pure (E := E1) (GE := GE E1) (LZ := LZ E1) (Y := Y) (T := T) (f := 33) (zf := G33 E1) (args := [.sl ns.length (ns.map iV) fl, .str key]) (fargs := [.sl ns.length (ns.map iV) fl, .str key]) (ns := []) (ns2 := nss) rfl rfl rfl hb hz
  rw [show (if flat (outV (walkK key ns)) = true then T else T.marks []) = T by split <;> rfl] at h
  exact ⟨_, h⟩
theorem most_min {E : Env} {L V : List AV} {H : Heap} {a b : O} {p q : Int} (ha : gO L V a = .int .i64 p) (hb : gO L V b = .int .i64 q) : evalFA E L V H (.most false [a, b]) = some (.val (.int .i64 (min p q)), Acc.none) := by
  simp [evalFA, mostA, most2, ha, hb]
  try omega
theorem slice_hi {L V : List AV} {H : Heap} {a b : O} {n h : Nat} {cs : List AV} {f : Bool} (ha : gO L V a = .sl n cs f) (hb : gO L V b = .int .i64 (h : Int)) (hn : cs.length = n) (hh : h ≤ n) :
    evalFA E1 L V H (.slice 32 a none (some b) none) = some (.val (.sl h (cs.take h) (f && h == n)), Acc.none) := by
  have h1 : E1.ty 32 = some ⟨.slice 3, 1, 24, [.sl 0 [] true]⟩ := rfl
  have h2 : E1.ty 3 = some ⟨.int .i64, 1, 8, [.int .i64 0]⟩ := rfl
  simp [evalFA, sliceA, h1, h2, ha, hb, hn, boundA]
  rw [if_pos (by omega)]
  simp
def keepN (n : Int) (w : List Int) : List Int := w.take (min (max n 0) w.length).toNat
theorem keepN_len (n : Int) (w : List Int) : (keepN n w).length = (min (max n 0) w.length).toNat := by
  unfold keepN; simp; omega
theorem keep35 (cy : CallYT) (Y : YE) (k : Nat) (nodes : AV) (key : List Nat) (n : Int) (w : List Int) (H : Heap) (h33 : ∃ a, cy Y (.func 33) [nodes, .str key] (rep H) = some (outV w, rep H, a)) :
    ∃ f, bodyZ E1 cy Y k (G35 E1) [nodes, .str key, iV n] (rep H) = some (.sl (keepN n w).length ((keepN n w).map iV) f, rep H) := by
  obtain ⟨a, h33⟩ := h33
  rw [outV_eq] at h33
  have hmn : min (max n 0) (w.length : Int) = (((keepN n w).length : Nat) : Int) := by rw [keepN_len]; omega
  have hle : (keepN n w).length ≤ w.length := by rw [keepN_len]; omega
  have htk : (w.map iV).take (keepN n w).length = (keepN n w).map iV := by
    rw [keepN_len]; unfold keepN; rw [List.map_take]
  refine ⟨w.isEmpty && (keepN n w).length == w.length, ?_⟩
  have e0 : bodyZ E1 cy Y k (G35 E1) [nodes, .str key, iV n] (rep H) = (G35 E1).z cy Y k (finZ E1 [.tmp (.v 4)]) (fun _ _ _ _ => none) (finZ E1 [.tmp (.v 4)]) [] [nodes, .str key, .undef, iV n, .undef] (rep H) := by kernel_rfl
  refine e0.trans ?_
  unfold G35
  dsimp only
  refine zSeq_reg.trans ?_
  refine (zV_v vMv_eq).trans ?_
  refine zSeq_reg.trans ?_
  refine (zCall_eq h33).trans ?_
  refine (zV_v vMv_eq).trans ?_
  refine zSeq_reg.trans ?_
  refine (zStep_valH rfl (most_lG rfl rfl)).trans ?_
  refine (zP_v (vLenL_sl rfl)).trans ?_
  refine (zStep_valH rfl (most_min rfl rfl)).trans ?_
  rw [hmn]
  refine (zStep_valH rfl (slice_hi rfl rfl (by simp) hle)).trans ?_
  rw [htk]
  refine (zV_v vMv_eq).trans ?_
  refine zRet_app.trans ?_
  rfl
theorem keep36 (cy : CallYT) (Y : YE) (k : Nat) (nodes : AV) (key : List Nat) (n : Int) (w : List Int) (H : Heap) (h34 : ∃ a, cy Y (.func 34) [nodes, .str key] (rep H) = some (outV w, rep H, a)) :
    ∃ f, bodyZ E1 cy Y k (G36 E1) [nodes, .str key, iV n] (rep H) = some (.sl (keepN n w).length ((keepN n w).map iV) f, rep H) := by
  obtain ⟨a, h34⟩ := h34
  rw [outV_eq] at h34
  have hmn : max (min n (w.length : Int)) 0 = (((keepN n w).length : Nat) : Int) := by rw [keepN_len]; omega
  have hle : (keepN n w).length ≤ w.length := by rw [keepN_len]; omega
  have htk : (w.map iV).take (keepN n w).length = (keepN n w).map iV := by
    rw [keepN_len]; unfold keepN; rw [List.map_take]
  refine ⟨w.isEmpty && (keepN n w).length == w.length, ?_⟩
  have e0 : bodyZ E1 cy Y k (G36 E1) [nodes, .str key, iV n] (rep H) = (G36 E1).z cy Y k (finZ E1 [.tmp (.v 4)]) (fun _ _ _ _ => none) (finZ E1 [.tmp (.v 4)]) [] [nodes, .str key, .undef, iV n, .undef] (rep H) := by kernel_rfl
  refine e0.trans ?_
  unfold G36
  dsimp only
  refine zSeq_reg.trans ?_
  refine (zV_v vMv_eq).trans ?_
  refine zSeq_reg.trans ?_
  refine (zCall_eq h34).trans ?_
  refine (zV_v vMv_eq).trans ?_
  refine zSeq_reg.trans ?_
  refine (zP_v (vLenL_sl rfl)).trans ?_
  refine (zStep_valH rfl (most_min rfl rfl)).trans ?_
  refine (zStep_valH rfl (most_rG rfl rfl)).trans ?_
  rw [hmn]
  refine (zStep_valH rfl (slice_hi rfl rfl (by simp) hle)).trans ?_
  rw [htk]
  refine (zV_v vMv_eq).trans ?_
  refine zRet_app.trans ?_
  rfl
end Go.Proofs.PxR2
