/- ViewTurns: its walk out of the finite check. -/
import Derived.Test.YtnpphcbfainkbaaPyTryT0
import Derived.Test.YtnpphcbfainkbaaPyTryT1
import Derived.Test.YtnpphcbfainkbaaPyTryT2
import Derived.Test.YtnpphcbfainkbaaPyTryT3
namespace Go.Proofs.PxTry
open Go Go.Px

def TT : Taint := [(0,9),(1,9),(2,4),(16,4),(22,9),(32,9),(44,9),(46,9),(53,9)]

theorem ints_rep {w : World} : ∀ (l : List (IntKind × Int)), RepL m0 (fun _ _ => False) w false (l.map fun p => Value.int p.1 p.2) (l.map fun p => AV.int p.1 p.2)
  | [] => .nil _
  | p :: l => .cons _ _ _ _ _ (.int _ _ _) (ints_rep l)

/-- A residue of a byte. -/
theorem res_of {a : Int} {M : Nat} (hM : M ≠ 0) (h0 : 0 ≤ a) : ∃ r : Nat, r < M ∧ (r : Int) % (M : Int) = a % (M : Int) := by
  refine ⟨(a % (M : Int)).toNat, ?_, ?_⟩
  · have h1 := Int.emod_lt_of_pos a (show (0 : Int) < M by omega)
    have h2 := Int.emod_nonneg a (show (M : Int) ≠ 0 by omega)
    omega
  · have h2 := Int.emod_nonneg a (show (M : Int) ≠ 0 by omega)
    rw [Int.toNat_of_nonneg h2, Int.emod_emod_of_dvd a (Int.dvd_refl _)]

theorem undef_at (k t : Nat) : (List.replicate k AV.undef).getD t .undef = .undef := by
  rw [List.getD_eq_getElem?_getD, List.getElem?_replicate]
  split <;> rfl

theorem pad_rel {T : Taint} {l l1 : List AV} {k : Nat} (hl : l.length = l1.length) (h : ∀ t, t < l.length → match T.at t with
    | none => l1.getD t .undef = l.getD t .undef
    | some M => RelV M (l.getD t .undef) (l1.getD t .undef)) : RelT T (l ++ List.replicate k .undef) (l1 ++ List.replicate k .undef) := by
  refine ⟨by simp [hl], fun t => ?_⟩
  rcases Nat.lt_or_ge t l.length with ht | ht
  · have h1 := h t ht
    simp only [List.getD_eq_getElem?_getD, List.getElem?_append_left ht, List.getElem?_append_left (hl ▸ ht : t < l1.length)] at h1 ⊢
    exact h1
  · have u := fun j => undef_at k j
    simp only [List.getD_eq_getElem?_getD] at u ⊢
    rw [List.getElem?_append_right ht, List.getElem?_append_right (hl ▸ ht : l1.length ≤ t), u, u]
    cases T.at t with
    | none => rfl
    | some M => exact .inl rfl

theorem u8_nonneg {a : Int} (h : (Lit.int .u8 a).wf = true) : 0 ≤ a := by
  have h1 : IntKind.u8.min = 0 := rfl
  simp [Lit.wf] at h
  omega

theorem turns_walk (hall : ∀ a < 9, ∀ b < 9, ∀ c < 4, chk 4 [.int .u8 (Int.ofNat a), .int .u8 (Int.ofNat b), .int .u8 (Int.ofNat c)] = true) (a0 a1 a2 : Int) (w0 : (Lit.int .u8 a0).wf = true) (w1 : (Lit.int .u8 a1).wf = true) (w2 : (Lit.int .u8 a2).wf = true) (w : World) :
    Calls Try.prog 4 #[.int .u8 a0, .int .u8 a1, .int .u8 a2] w fun e w' => e = .returned (.bool true) ∧ Go.RowKit.Grown w w' := by
  have n0 : 0 ≤ a0 := u8_nonneg w0
  have n1 : 0 ≤ a1 := u8_nonneg w1
  have n2 : 0 ≤ a2 := u8_nonneg w2
  obtain ⟨r0, l0, e0⟩ := res_of (M := 9) (by decide) n0
  obtain ⟨r1, l1, e1⟩ := res_of (M := 9) (by decide) n1
  obtain ⟨r2, l2, e2⟩ := res_of (M := 4) (by decide) n2
  obtain ⟨H, acc, h⟩ := chk_ok (hall r0 l0 r1 l1 r2 l2)
  have hfn : E2.fn 4 = some Try.f4 := rfl
  obtain ⟨body, hb⟩ : ∃ body, Try.f4.body = some body := ⟨_, rfl⟩
  have hok : okC TT body = true := by
    have : (match Try.f4.body with | some c => okC TT c | none => false) = true := by decide +kernel
    rw [hb] at this; exact this
  have hres : okRes TT Try.f4.results.toList = true := by decide +kernel
  have h2 := callT (T := TT) (E := E2) hfn (by decide +kernel) hb hok hres (args1 := [.int .u8 a0, .int .u8 a1, .int .u8 a2]) rfl rfl ?_ h
  · refine pure_grown env2 fr2 ok2 mixed h2 (S := fun _ _ => False) (fun _ _ h => h.elim) ?_
    exact ints_rep (w := w) [(.u8, a0), (.u8, a1), (.u8, a2)]
  · refine pad_rel rfl fun t ht => ?_
    rcases t with _ | _ | _ | t
    · exact .inr ⟨.u8, _, _, rfl, rfl, Int.natCast_nonneg _, n0, e0⟩
    · exact .inr ⟨.u8, _, _, rfl, rfl, Int.natCast_nonneg _, n1, e1⟩
    · exact .inr ⟨.u8, _, _, rfl, rfl, Int.natCast_nonneg _, n2, e2⟩
    · simp at ht; omega

theorem turns_all : ∀ a < 9, ∀ b < 9, ∀ c < 4, chk 4 [.int .u8 (Int.ofNat a), .int .u8 (Int.ofNat b), .int .u8 (Int.ofNat c)] = true := fun a ha b hb c hc => by
  rcases c with _ | _ | _ | _ | c
  · exact turns0 a ha b hb
  · exact turns1 a ha b hb
  · exact turns2 a ha b hb
  · exact turns3 a ha b hb
  · omega
end Go.Proofs.PxTry
