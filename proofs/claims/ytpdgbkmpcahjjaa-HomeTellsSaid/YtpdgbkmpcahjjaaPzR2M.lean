/- Rows of ints in the laws: pushed, copied, doubled, handed to a call. The plain law of the way round: each node once. -/
import Derived.Test.YtpdgbkmpcahjjaaPzR2K
set_option linter.unusedVariables false
set_option linter.unusedSimpArgs false
set_option maxRecDepth 100000
namespace Go.Proofs.PxR2
open Go Go.Px Go.Proofs
theorem metS_mem (out : List Int) (n m : Int) : m ∈ metS out n ↔ m ∈ out ∨ m = n := by
  unfold metS; split
  · rename_i h
    constructor
    · exact .inl
    · rintro (h2 | rfl); exact h2; exact h
  · simp
theorem metS_nodup {out : List Int} (n : Int) (h : out.Nodup) : (metS out n).Nodup := by
  unfold metS; split
  · exact h
  · rename_i hn
    rw [List.nodup_append]
    exact ⟨h, by simp, fun a ha b hb => by simp at hb; subst hb; exact fun e => hn (e ▸ ha)⟩
theorem foldM_mem (m : Int) : ∀ (l : List Spot) (out : List Int), m ∈ l.foldl (fun o s => metS o s.2) out ↔ m ∈ out ∨ ∃ s ∈ l, s.2 = m
  | [], out => by simp
  | s :: l, out => by
    rw [List.foldl_cons, foldM_mem m l, metS_mem]
    constructor
    · rintro ((h | rfl) | ⟨t, ht, e⟩)
      · exact .inl h
      · exact .inr ⟨s, by simp, rfl⟩
      · exact .inr ⟨t, by simp [ht], e⟩
    · rintro (h | ⟨t, ht, e⟩)
      · exact .inl (.inl h)
      · rcases List.mem_cons.1 ht with rfl | ht
        · exact .inl (.inr e.symm)
        · exact .inr ⟨t, ht, e⟩
theorem foldM_nodup : ∀ (l : List Spot) (out : List Int), out.Nodup → (l.foldl (fun o s => metS o s.2) out).Nodup
  | [], out, h => h
  | s :: l, out, h => by rw [List.foldl_cons]; exact foldM_nodup l _ (metS_nodup _ h)
theorem marks_mem (n m : Int) : (∃ s ∈ marksOf n, s.2 = m) ↔ m = n := by
  simp [marksOf, marksFrom]
  exact eq_comm
theorem walk_mem (key : List Nat) (ns : List Int) (m : Int) : m ∈ walkK key ns ↔ m ∈ ns := by
  unfold walkK walkS ringS
  rw [foldM_mem]
  simp only [List.not_mem_nil, false_or]
  constructor
  · rintro ⟨s, hs, e⟩
    obtain ⟨n, hn, h⟩ := List.mem_flatMap.1 ((sortS_perm _ _).mem_iff.1 hs)
    have := (marks_mem n m).1 ⟨s, h, e⟩
    rw [this]; exact hn
  · intro h
    obtain ⟨s, hs, e⟩ := (marks_mem m m).2 rfl
    exact ⟨s, (sortS_perm _ _).mem_iff.2 (List.mem_flatMap.2 ⟨m, h, hs⟩), e⟩
theorem walk_nodup (key : List Nat) (ns : List Int) : (walkK key ns).Nodup := foldM_nodup _ _ List.Pairwise.nil
def OwnJ (H : Heap) (v : AV) (out : List Int) (fr : Bool) : Prop := (out = [] ∧ v = .sl 0 [] true) ∨ (out ≠ [] ∧ ∃ nm, v = .own nm 0 out.length 1 ∧ H[nm]? = some (.row 3 (out.map iV) fr))
def Apart (v : AV) (nm : Nat) : Prop := ∀ b off n sz, v = .own b off n sz → b ≠ nm
theorem OwnJ.app {H : Heap} {v : AV} {out : List Int} {fr : Bool} (h : OwnJ H v out fr) (X : Heap) : OwnJ (H ++ X) v out fr := by
  rcases h with h | ⟨hne, nm, e, hr⟩
  · exact .inl h
  · exact .inr ⟨hne, nm, e, get_app hr⟩
theorem OwnJ.set {H : Heap} {v : AV} {out : List Int} {fr : Bool} (h : OwnJ H v out fr) {nm : Nat} {o : AO} (ha : Apart v nm) : OwnJ (H.set nm o) v out fr := by
  rcases h with h | ⟨hne, nm', e, hr⟩
  · exact .inl h
  · exact .inr ⟨hne, nm', e, get_set hr (fun e2 => ha _ _ _ _ e e2.symm)⟩
theorem OwnJ.lt {H : Heap} {v : AV} {out : List Int} {fr : Bool} (h : OwnJ H v out fr) : Apart v H.length := by
  rcases h with ⟨_, rfl⟩ | ⟨hne, nm', rfl, hr⟩
  · intro b off n sz e; cases e
  · intro b off n sz e; cases e; exact Nat.ne_of_lt (len_of hr)
theorem OwnJ.len {H : Heap} {v : AV} {out : List Int} {fr : Bool} (h : OwnJ H v out fr) {L V : List AV} {T : TH} {a : O} (ha : gO L V a = v) (c : AV → Ans) : vLenL a L V T c = c (.int .i64 out.length) := by
  rcases h with ⟨rfl, rfl⟩ | ⟨hne, nm', rfl, hr⟩
  · exact vLenL_sl ha c
  · exact vLenL_own ha c
theorem OwnJ.fz {H : Heap} {v : AV} {out : List Int} {fr : Bool} (h : OwnJ H v out fr) : ∃ fl ns, fzG E1 (rep H).get fzDeep v = some (.sl out.length (out.map iV) fl, ns) ∧ (ns = [] ∨ ∃ nm, ns = [nm] ∧ v = .own nm 0 out.length 1 ∧ out ≠ []) := by
  rw [show (rep H).get = fun i => H[i]? from funext (rep_get _)]
  rcases h with ⟨rfl, rfl⟩ | ⟨hne, nm, rfl, hr⟩
  · exact ⟨true, [], rfl, .inl rfl⟩
  · exact ⟨false, [nm], fzG_own (E := E1) (g := fun i => H[i]?) (k := 59) (n := out.length) (sz := 1) hr (by simp) (fzL_ints _ 58 out), .inr ⟨nm, rfl, rfl, hne⟩⟩
theorem OwnJ.mark {H : Heap} {v : AV} {out : List Int} {fr : Bool} (h : OwnJ H v out fr) {ns : List Nat} (hns : ns = [] ∨ ∃ nm, ns = [nm] ∧ v = .own nm 0 out.length 1 ∧ out ≠ []) : (∃ fr', OwnJ (markAll H ns) v out fr') ∧ ∀ {w : AV} {o2 : List Int} {f2 : Bool}, OwnJ H w o2 f2 → ∃ f3, OwnJ (markAll H ns) w o2 f3 := by
  rcases hns with rfl | ⟨nm, rfl, rfl, hne⟩
  · exact ⟨⟨fr, h⟩, fun hw => ⟨_, hw⟩⟩
  · rcases h with ⟨rfl, e⟩ | ⟨_, nm', e, hr⟩
    · exact absurd rfl hne
    · cases e
      have hm : markAll H [nm] = H.set nm (.row 3 (out.map iV) true) := by simp [markAll, markOne, hr]
      rw [hm]
      refine ⟨⟨true, .inr ⟨hne, nm, rfl, get_self hr⟩⟩, fun {w o2 f2} hw => ?_⟩
      rcases hw with hw | ⟨hne2, nm2, rfl, hr2⟩
      · exact ⟨f2, .inl hw⟩
      · by_cases hnn : nm = nm2
        · subst hnn
          rw [hr] at hr2
          have h9 : out.map iV = o2.map iV := by injection hr2 with h9; injection h9
          exact ⟨true, .inr ⟨hne2, nm, rfl, by rw [← h9]; exact get_self hr⟩⟩
        · exact ⟨f2, .inr ⟨hne2, nm2, rfl, get_set hr2 hnn⟩⟩
end Go.Proofs.PxR2
