/- CanonMaps: the walk over whatever two slices of bytes. -/
import Derived.Test.YtjpllnhlpgbgmaaGreatPzM6Ql
import Derived.Test.YtjpllnhlpgbgmaaGreatPb4
namespace Go.Proofs.PxM6
open Go Go.Px Go.Proofs Go.ChangeShapes Go.WideShapes Go.RowKit
theorem opens_argS {H : Type} {enc : TypeId × Value → H} {P : Program} {w : World} {t e : TypeId} {r : Reach} {X : Type} {ok : X → Prop} {mk : X → AV} (ht : P.underlying t = some (.slice e)) (h : Opens enc P w t 1 ok (fun a => [mk a])) {v : Value} {base base2 : Nat} {sp : Nat → Bool} {held : Bool} {d : DataW H} {ps : List MemPlace}
    (hv : Value.okWide P w r base2 t v) (hT : DataW.Trod enc P w base sp held t v d ps) : ∃ a : X, ok a ∧ Rep m0 (SOf w) w true v (mk a) := by
  obtain ⟨n, hn⟩ := hT
  obtain ⟨a0, len, cap, rfl⟩ := okWide_slice ht hv
  obtain ⟨a, k0, r0, _, _⟩ := h _ _ _ _ _ _ hn
  refine ⟨a, k0, ?_⟩
  have r1 : RepL m0 (SOf w) w true [.slice a0 len cap] [mk a] := by simpa [Value.cells] using r0
  cases r1 with
  | cons _ _ _ _ _ h _ => exact h
def OkB (p : List Nat × Bool) : Prop := p.1.length ≤ maxLen ∧ ∀ x ∈ p.1, (Lit.int .u8 (x : Int)).wf = true
theorem byC_flat (l : List Nat) : (l.flatMap fun (n : Nat) => [AV.int .u8 (n : Int)]) = byC l := by
  induction l with
  | nil => rfl
  | cons x l ih => rw [List.flatMap_cons, ih]; rfl
theorem opens_bytes {H : Type} {enc : TypeId × Value → H} {w : World} : Opens enc Tryz.prog w 22 1 OkB (fun p => [.sl p.1.length (byC p.1) p.2]) := by
  intro base spare held fuel cs x h
  obtain ⟨p, h1, h2, h3, h4⟩ := opens_slice (enc := enc) (w := w) Tryz.underlying22 (sz := 1) (by kernel_rfl) (by decide) (opens_u64 Tryz.underlying5 rfl) _ _ _ _ _ _ h
  refine ⟨p, h1, ?_, ?_, rfl⟩
  · simpa only [byC_flat] using h2
  · simpa only [byC_flat] using h3
theorem byte_lt {x : Nat} (h : (Lit.int .u8 (x : Int)).wf = true) : x < 256 := by
  have h1 : IntKind.u8.min = 0 := rfl
  have h2 : IntKind.u8.max = 255 := rfl
  simp [Lit.wf] at h
  omega
/-- The walk: over whatever two slices of bytes. -/
theorem walk_maps (a b : Value) (w : World) (va vb : List Nat × Bool) (ha : Rep m0 (SOf w) w true a (.sl va.1.length (byC va.1) va.2)) (hb : Rep m0 (SOf w) w true b (.sl vb.1.length (byC vb.1) vb.2)) (h1 : OkB va) (h2 : OkB vb) :
    Calls Tryz.prog 3 #[a, b] w fun e w' => e = .returned (.bool true) ∧ Go.Px.GrownO w w' := by
  have h := c3 (k := 0) [] .nil va.1 vb.1 va.2 vb.2 (fun x hx => byte_lt (h1.2 x hx)) (fun x hx => byte_lt (h2.2 x hx)) (Nat.lt_of_le_of_lt h1.1 (by decide))
  obtain ⟨H, hc⟩ := z_ok h
  have hl : RepL m0 (SOf w) w true [a, b] [.sl va.1.length (byC va.1) va.2, .sl vb.1.length (byC vb.1) vb.2] := .cons _ _ _ _ _ ha (.cons _ _ _ _ _ hb (.nil _))
  exact pure_grown env1 fr1 ok1 mixed hc (S := SOf w) (SOf_cell w) hl.weak
end Go.Proofs.PxM6
