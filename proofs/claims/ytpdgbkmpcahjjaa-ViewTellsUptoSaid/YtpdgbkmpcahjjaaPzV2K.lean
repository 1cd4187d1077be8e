/- Views: whether texts rise (walks by zauto). -/
import Derived.Test.YtpdgbkmpcahjjaaPzV2J
set_option linter.unusedVariables false
set_option linter.unusedSimpArgs false
set_option maxRecDepth 100000
namespace Go.Proofs.PxV2
open Go Go.Px Go.Proofs
def risesT (l : List (List Nat)) : Bool := (pairsT l).all fun p => lessN p.1 p.2
theorem c46 {k : Nat} (Y : YE) (T : TH) (keys : List (List Nat)) (f : Bool) (hk : keys.length ≤ 9223372036854775807) (hk2 : keys.length < k) : CY (k + 3) Y (.func 46) [.sl keys.length (strC keys) f] T = some (.bool (risesT keys), T, ⟨[], [], false⟩) := by
 refine call_go (zf := G46 E1) rfl rfl (fun _ => rfl) (fun _ => rfl) ?_
 unfold G46
 dsimp only
 refine zpR <| st (sV_new (ev_alloc ⟨_, rfl, rfl⟩)) <| zpA <| zpR <| st (cP_call rfl (c74 _ _ _ _)) <| st zBlock_app ?_
 refine zRange_wp rfl ?_
 let J : List (List Nat × List Nat) → Heap → Prop := fun x H => H[0]? = some (.row 4 [.bool false] false) ∧ (∃ tm ps a b, H[1]? = some (.loop .ready none tm ps a b)) ∧ risesT keys = x.all fun p => lessN p.1 p.2
 let D : Heap → Prop := fun H => H[0]? = some (.row 4 [.bool false] false) ∧ (∃ tm ps a b, H[1]? = some (.loop .done (some .ret) tm ps a b)) ∧ risesT keys = false
 have hJ : ∀ x H Z, J x H → J x (H ++ Z) := fun x H Z ⟨h0, ⟨tm, ps, a, b, h1⟩, h2⟩ => ⟨get_app h0, ⟨tm, ps, a, b, get_app h1⟩, h2⟩
 have hr : ∀ H a b r, J ((a, b) :: r) H → ∃ p H' ac, CY (k + 1) (⟨1, 0, [.undef, .undef, .undef, .undef, .loc 0 0]⟩ :: []) (.yield 1) [.str a, .str b] (rep H) = some (.bool p, rep H', ac) ∧ (if p then J r H' else D H') := fun H a b r ⟨h0, ⟨tm, ps, ca, cb, h1⟩, h2⟩ => by
  refine round_go (Q := fun p H' => if p then J r H' else D H') (zl := M0 E1) rfl rfl h1 rfl ?_
  have hw : (H.set 1 (.loop .busy none tm ps ca cb))[0]? = some (.row 4 [.bool false] false) := get_set h0 (by decide)
  have hw1 : (H.set 1 (.loop .busy none tm ps ca cb))[1]? = some (.loop .busy none tm ps ca cb) := get_self h1
  have hw2 : ((H.set 1 (.loop .busy none tm ps ca cb)).set 0 (.row 4 [.bool false] false))[1]? = some (.loop .busy none tm ps ca cb) := get_set hw1 (by decide)
  have hw3 : ((H.set 1 (.loop .busy none tm ps ca cb)).set 0 (.row 4 [.bool false] false))[0]? = some (.row 4 [.bool false] false) := get_self hw
  unfold M0
  dsimp only
  refine zpR <| zpV <| st zReg_eq <| zpV <| st (aft_eq (by assumption)) ?_
  dsimp only
  refine st zBlock_app <| zpR <| st (zP_v (vInt_bin rfl rfl rfl)) ?_
  refine two (b := !lessN a b) (fun b1 => ?_) (fun b1 => ?_)
  ·refine st (zCond_t (bAV b1)) <| zpR <| st (sN_put (ev_store rfl rfl (by assumption) ⟨_, rfl, rfl⟩ rfl rfl)) <| st zRet_app <| st (endR_eq (by assumption)) ?_
   exact endsQ ⟨get_set hw3 (by decide), ⟨_, _, _, _, get_self hw2⟩, by rw [h2]; simp_all⟩
  ·refine st (zCond_f (bAV b1)) <| zpK <| st (endR_eq (by assumption)) ?_
   exact endsQ ⟨get_set hw (by decide), ⟨_, _, _, _, get_self hw1⟩, by rw [h2]; simp_all⟩
 obtain ⟨r, H', ac, hc, hp⟩ := c88 (k := k + 1) (Y := ⟨1, 0, [.undef, .undef, .undef, .undef, .loc 0 0]⟩ :: []) 1 keys f hk (by omega) J D hJ hr [.row 4 [.bool false] false, .loop .ready none [.undef, .undef, .loc 0 0, .undef, .undef, .undef, .undef, .undef, .undef, .undef, .undef, .undef] [7, 8] (codeAt [1, 0, 1, 0, 0] (bodyOf Try.f46)) (codeAt [1, 0, 1, 0, 1] (bodyOf Try.f46))] ⟨rfl, ⟨_, _, _, _, rfl⟩, rfl⟩
 refine ⟨r, H', ac, hc, ?_⟩
 rcases hp with ⟨h0, ⟨tm, ps, a, b, h1⟩, h2⟩ | ⟨h0, ⟨tm, ps, a, b, h1⟩, h2⟩
 ·refine ⟨_, _, _, _, _, _, h1, rfl, .inl ⟨rfl, ?_⟩⟩
  have e0 : (H'.set ([AO.row 4 [.bool false] false]).length (.loop .exhausted none tm ps a b))[0]? = some (.row 4 [.bool false] false) := get_set h0 (by decide)
  have e1 : ((H'.set ([AO.row 4 [.bool false] false]).length (.loop .exhausted none tm ps a b)).set 0 (.row 4 [.bool true] false))[0]? = some (.row 4 [.bool true] false) := get_self e0
  rw [h2]
  refine zpR <| st (sN_put (ev_store rfl rfl (by assumption) ⟨_, rfl, rfl⟩ rfl rfl)) <| st zRet_app ?_
  exact ends_cell rfl e1 ⟨_, rfl, by simp, rfl⟩ rfl
 ·refine ⟨_, _, _, _, _, _, h1, rfl, .inr (.inl ⟨rfl, ?_⟩)⟩
  have e0 : (H'.set ([AO.row 4 [.bool false] false]).length (.loop .exhausted (some .ret) tm ps a b))[0]? = some (.row 4 [.bool false] false) := get_set h0 (by decide)
  rw [h2]
  exact ends_cell rfl e0 ⟨_, rfl, by simp, rfl⟩ rfl
end Go.Proofs.PxV2
