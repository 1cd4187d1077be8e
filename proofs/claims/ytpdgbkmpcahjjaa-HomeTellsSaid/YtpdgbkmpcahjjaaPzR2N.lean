/- Rows of ints handed to calls; a bit of a byte. -/
import Derived.Test.YtpdgbkmpcahjjaaPzR2M
set_option linter.unusedVariables false
set_option linter.unusedSimpArgs false
set_option maxRecDepth 100000
namespace Go.Proofs.PxR2
open Go Go.Px Go.Proofs
theorem app_none {L V : List AV} {H : Heap} {a b : O} (ha : gO L V a = .sl 0 [] true) (hb : gO L V b = .sl 0 [] true) : evalFA E1 L V H (.append 32 32 a b) = some (.val (.sl 0 [] true), Acc.none) := by
  have h1 : E1.ty 32 = some ⟨.slice 3, 1, 24, [.sl 0 [] true]⟩ := rfl
  have h2 : E1.ty 3 = some ⟨.int .i64, 1, 8, [.int .i64 0]⟩ := rfl
  simp [evalFA, h1, h2, appendA, appendA0, contentA, countA, ha, hb]
theorem catJ (call : CallTT) (id1 : Nat) (a b : O) (s1 : Option Nat) (H : Heap) (u v : AV) (o1 o2 : List Int) (fr : Bool) (L V : List AV) (ha : gO L V a = u) (hb : gO L V b = v) (hlen : o1.length + o2.length < 1000) (hu : OwnJ H u o1 false) (hv : OwnJ H v o2 fr) :
    ∃ H' v', (∀ K, (zStep E1 call ⟨.append 32 32 a b, .push, none, false, id1, s1⟩) K L V (rep H) = K (v' :: L) V (rep H')) ∧ OwnJ H' v' (o1 ++ o2) false ∧ (∀ i o, Apart u i → H[i]? = some o → H'[i]? = some o ∧ Apart v' i) := by
  rcases hv with ⟨rfl, rfl⟩ | ⟨hne, nm, rfl, hrow⟩
  · -- nothing is appended
    have h1 : E1.ty 32 = some ⟨.slice 3, 1, 24, [.sl 0 [] true]⟩ := rfl
    have h2 : E1.ty 3 = some ⟨.int .i64, 1, 8, [.int .i64 0]⟩ := rfl
    have he : ∀ x, gO L V a = x → (x = .sl 0 [] true ∨ ∃ nm off n sz, x = .own nm off n sz) → evalFA E1 L V H (.append 32 32 a b) = some (.val x, Acc.none) := by
      rintro x hx (rfl | ⟨nm, off, n, sz, rfl⟩)
      · exact app_none hx hb
      · simp [evalFA, h1, h2, appendA, appendA0, contentA, countA, hx, hb]
    refine ⟨H, u, fun K => (zStep_valH rfl (he u ha ?_)).trans rfl, by simpa using hu, fun i o ha h => ⟨h, ha⟩⟩
    rcases hu with ⟨_, e⟩ | ⟨_, nm, e, _⟩
    · exact .inl e
    · exact .inr ⟨_, _, _, _, e⟩
  · have hpos : o2.length ≠ 0 := fun h => hne (List.eq_nil_of_length_eq_zero h)
    rcases hu with ⟨rfl, rfl⟩ | ⟨hne1, nm1, rfl, hrow1⟩
    · refine ⟨H ++ [AO.row 3 (o2.map iV) false], .own H.length 0 o2.length 1, fun K => (zStep_newH rfl (append_firstG row32 ha hb hrow (by simp) hpos (by omega))).trans rfl, .inr ⟨by simpa using hne, H.length, rfl, get_last⟩, fun i o _ h => ⟨get_app h, fun b off n sz e => by cases e; exact Nat.ne_of_gt (len_of h)⟩⟩
    · refine ⟨H.set nm1 .dead ++ [AO.row 3 (o1.map iV ++ o2.map iV) false], .own H.length 0 (o1.length + o2.length) 1, fun K => (zStep_appH rfl (append_nextG (cs0 := o1.map iV) row32 ha hrow1 (by simp) hb hrow (by simp) hpos (by omega))).trans rfl, .inr ⟨by simp [hne], H.length, by simp, ?_⟩, fun i o ha2 h => ⟨get_app (get_set h (ha2 _ _ _ _ rfl)), fun b off n sz e => by cases e; exact Nat.ne_of_gt (len_of h)⟩⟩
      have := get_last (H := H.set nm1 .dead) (o := AO.row 3 (o1.map iV ++ o2.map iV) false)
      rw [List.length_set] at this
      rwa [List.map_append]
theorem oneJ (call : CallTT) (id1 : Nat) (b : O) (s1 : Option Nat) (H : Heap) (n : Int) (L V : List AV) (hb : gO L V b = iV n) :
    ∃ H' v', (∀ K, (zStep E1 call ⟨.buildSlice 32 1 [(0, b)], .push, none, false, id1, s1⟩) K L V (rep H) = K (v' :: L) V (rep H')) ∧ OwnJ H' v' [n] false ∧ (∀ i o, H[i]? = some o → H'[i]? = some o ∧ Apart v' i) :=
  ⟨H ++ [AO.row 3 [iV n] false], .own H.length 0 1 1, fun K => (zStep_newH rfl (buildOne row32 hb rfl z3 (by decide))).trans rfl, .inr ⟨by simp, H.length, rfl, get_last⟩, fun i o h => ⟨get_app h, fun b off n sz e => by cases e; exact Nat.ne_of_gt (len_of h)⟩⟩
end Go.Proofs.PxR2
