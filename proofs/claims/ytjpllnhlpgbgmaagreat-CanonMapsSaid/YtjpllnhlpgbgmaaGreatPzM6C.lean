/- Canon: a map's entries (walks by zauto). -/
import Derived.Test.YtjpllnhlpgbgmaaGreatPzM6B
set_option linter.unusedVariables false
set_option linter.unusedSimpArgs false
set_option maxRecDepth 100000
namespace Go.Proofs.PxM6
open Go Go.Px Go.Proofs
abbrev Ent := List Nat × List Nat
def entC : List Ent → List AV
 | [] => []
 | x :: l => .str x.1 :: .ref (numC x.2) :: .nilptr :: entC l
theorem entC_len : ∀ l, (entC l).length = l.length * 3
 | [] => rfl
 | x :: l => by simp [entC, entC_len l]; omega
theorem entC_app (a b : List Ent) : entC (a ++ b) = entC a ++ entC b := by
 induction a with
 | nil => rfl
 | cons x l ih => simp [entC, ih]
def rowE : List (List Nat) → List Nat → List Ent
 | k :: ks, n :: v => (k, n :: v) :: rowE ks v
 | _, _ => []
def rowI (s : List (List Nat)) (v : List Nat) (i : Nat) : List Ent := (rowE s v).take i
theorem rowE_len : ∀ (s : List (List Nat)) (v : List Nat), s.length = v.length → (rowE s v).length = s.length
 | [], [], _ => rfl
 | _ :: s, _ :: v, h => by simp [rowE, rowE_len s v (by simpa using h)]
theorem rowE_at : ∀ (s : List (List Nat)) (v : List Nat) (i : Nat) (k : List Nat), s.length = v.length → s[i]? = some k → (rowE s v)[i]? = some (k, v.drop i)
 | [], _, i, k, _, h => by simp at h
 | a :: s, [], i, k, h, _ => by simp at h
 | a :: s, n :: v, 0, k, h, h2 => by simp at h2; subst h2; rfl
 | a :: s, n :: v, i + 1, k, h, h2 => by simpa [rowE] using rowE_at s v i k (by simpa using h) (by simpa using h2)
theorem rowI_succ {s : List (List Nat)} {v : List Nat} {i : Nat} {k : List Nat} (h : s.length = v.length) (hk : s[i]? = some k) : rowI s v (i + 1) = rowI s v i ++ [(k, v.drop i)] := by
 unfold rowI
 rw [List.take_add_one, rowE_at s v i k h hk]; rfl
theorem numC_drop : ∀ (v : List Nat) (i : Nat), (numC v).drop (i * 5) = numC (v.drop i)
 | [], i => by simp [numC]
 | n :: v, 0 => rfl
 | n :: v, i + 1 => by rw [show (i + 1) * 5 = i * 5 + 5 by omega]; simpa [numC, numV] using numC_drop v i
theorem row163 : RowT E1 158 163 3 32 := ⟨⟨_, rfl, rfl⟩, ⟨_, rfl, rfl, rfl⟩, by decide, by decide⟩
noncomputable def body142 (call : CallTT) : CZ := xbody142 E1 call
theorem loop142 {P : Ans → Prop} {call : CallTT} {kn : KB} {kx : Nat → KB} {kr : KB} (s : List (List Nat)) (v : List Nat) (fs fv : Bool) (hsv : s.length = v.length) (hl : s.length ≤ 100) : ∀ (d i q : Nat) (L : List AV) (H : Heap) (o v5 v7 : AV), i + d = s.length → d < q → OwnA 163 3 H o (entC (rowI s v i)) i →
  (∀ L H o v1 v5 v7, OwnA 163 3 H o (entC (rowE s v)) s.length → P (kx 0 L [.sl s.length (txtC s) fs, v1, iV s.length, .sl s.length (txtC s) fs, o, v5, .sl v.length (numC v) fv, v7, .sl 0 [] true] (rep H))) →
  P (zLoop q (body142 call) kn kx kr L [.sl s.length (txtC s) fs, iV i, iV s.length, .sl s.length (txtC s) fs, o, v5, .sl v.length (numC v) fv, v7, .sl 0 [] true] (rep H))
 | 0, i, q, L, H, o, v5, v7, hi, hq, ho, hk => by
  obtain ⟨q, rfl⟩ : ∃ q', q = q' + 1 := ⟨q - 1, by omega⟩
  obtain rfl : i = s.length := by omega
  rw [rowI, ← rowE_len s v hsv, List.take_length] at ho
  rw [rowE_len s v hsv] at ho
  refine st zLoop_one ?_
  unfold body142 xbody142
  refine zpR <| st (zP_v (vInt_eq fLss_ok rfl rfl (fLss' (by omega)))) <| zpA <| zpf rfl <| st zExit_app ?_
  exact hk _ _ _ _ _ _ ho
 | d + 1, i, q, L, H, o, v5, v7, hi, hq, ho, hk => by
  obtain ⟨q, rfl⟩ : ∃ q', q = q' + 1 := ⟨q - 1, by omega⟩
  obtain ⟨a, ha⟩ := get_some (l := s) (i := i) (by omega)
  have hn := numC_len v
  have ht := txtC_len s
  refine st zLoop_one ?_
  unfold body142 xbody142
  refine zpR <| st (zP_v (vInt_eq fLss_ok rfl rfl (tLss (by omega)))) <| zpA <| zpt rfl <| zpK <| zpA <| st zBlock_app <| zpR <| st (zP_v (vIndexAddr_sl rfl rfl (by omega) (by omega))) ?_
  rw [txt_at ha]
  refine st (zL_v (wL_ref rfl rfl rfl)) <| zpV <| zpV <| st zReg_eq <| st (zP_v vMv_eq) <| st (zP_v (vIndexAddr_sl rfl rfl (by omega) (by omega))) ?_
  rw [numC_drop]
  refine st (sP_val (a := Acc.none) rfl) <| st (sP_new rfl) ?_
  refine appW row163 rfl rfl get_last (by decide) rfl (ho.app _) (by omega) (fun H2 nm hr2 hf2 hl2 hn2 => ?_)
  refine zpV <| st zReg_eq <| st (zP_v (vInt_eq fAdd_ok rfl rfl (aAdd1 (by omega)))) <| zpV ?_
  exact loop142 s v fs fv hsv hl d (i + 1) q _ _ _ _ _ (by omega) (by omega) (ownA_own (by rw [rowI_succ hsv ha, entC_app]; exact hr2) (by rw [rowI_succ hsv ha, entC_app]; simp [entC_len, rowI, rowE_len s v hsv, entC]; omega) (by omega)) hk
theorem fzL_ent (g : Nat → Option AO) (k : Nat) : ∀ l : List Ent, fzL (fzG E1 g (k + 1)) (entC l) = some (entC l, [])
 | [] => rfl
 | x :: l => by
  have ih := fzL_ent g k l
  simp only [entC, fzL, Option.bind_eq_bind, ih]
  rfl
def entV (l : List Ent) : AV := .sl l.length (entC l) (l.length == 0)
theorem c142 {k : Nat} (Y : YE) (T : TH) (s : List (List Nat)) (v : List Nat) (fs fv : Bool) (hsv : s.length = v.length) (hl : s.length ≤ 100) (hk : 101 ≤ k) : CY (k + 1) Y (.func 142) [.sl s.length (txtC s) fs, .sl v.length (numC v) fv] T = some (entV (rowE s v), T, ⟨[], [], false⟩) := by
 refine call_go (zf := G142 E1) rfl rfl (fun _ => rfl) (fun _ => rfl) ?_
 unfold G142
 dsimp only
 refine zpR <| zpV <| zpR <| zpV <| zpA <| zpR <| zpV <| st (zV_v (vLenL_sl rfl)) <| zpV <| st zBlock_app ?_
 refine loop142 s v fs fv hsv hl s.length 0 k _ _ _ _ _ (by omega) (by omega) ownA_nil (fun L H o v1 v5 v7 ho => ?_)
 obtain ⟨ns, hz⟩ := ho.fz (fun g => fzL_ent g 58 (rowE s v))
 unfold entV
 rw [rowE_len s v hsv]
 refine st (ifZ_pos rfl) <| zpR <| zpV <| st zRet_app ?_
 exact ends_tmp hz
end Go.Proofs.PxM6
