/- ring.round: the marks of the nodes. -/
import Derived.Test.YtpdgbkmpcahjjaaPzR2W4
import Derived.Test.YtpdgbkmpcahjjaaPb4
set_option linter.unusedVariables false
set_option linter.unusedSimpArgs false
set_option maxRecDepth 100000
namespace Go.Proofs.PxR2
open Go Go.Px Go.Proofs
def OwnS (e : Nat) (H : Heap) (v : AV) (l : List Spot) : Prop := (l = [] ∧ v = .sl 0 [] true) ∨ (l ≠ [] ∧ ∃ nm, 1 < nm ∧ v = .own nm 0 l.length 2 ∧ H[nm]? = some (.row e (spotCells l) false))
structure RS (fr : Nat) (H : Heap) (l : List Spot) : Prop where
  h0 : H[0]? = some (.row 40 [.int .u64 (fr : Int)] false)
  h1 : ∃ v, H[1]? = some (.row 101 [v] false) ∧ OwnS 103 H v l
theorem spotCells_append : ∀ (l m : List Spot), spotCells (l ++ m) = spotCells l ++ spotCells m
  | [], m => rfl
  | (a, n) :: l, m => by simp [spotCells, spotCells_append l m]
theorem row101 : RowT E1 101 103 2 16 := ⟨⟨_, rfl, rfl⟩, ⟨_, rfl, rfl, rfl⟩, by decide, by decide⟩
theorem z103 : ∃ ie, E1.ty 103 = some ie ∧ ie.zero.length = 2 := ⟨_, rfl, rfl⟩
theorem build103 {L V : List AV} {H : Heap} {a b : O} {x : Nat} {n : Int} (ha : gO L V a = .int .u64 (x : Int)) (hb : gO L V b = iV n) : evalFA E1 L V H (.build 103 [(0, a), (1, b)]) = some (.val (.agg [.int .u64 (x : Int), iV n]), Acc.none) := by
  have h1 : E1.ty 103 = some ⟨.struct [(0, 40), (1, 3)], 2, 16, [.int .u64 0, .int .i64 0]⟩ := rfl
  have h2 : E1.ty 40 = some ⟨.int .u64, 1, 8, [.int .u64 0]⟩ := rfl
  have h3 : E1.ty 3 = some ⟨.int .i64, 1, 8, [.int .i64 0]⟩ := rfl
  have hb' : gO L V b = .int .i64 n := hb
  simp [evalFA, buildA, h1, h2, h3, ha, hb', fillA, cellsOf, lay, iV]
noncomputable def reg70 (call : CallTT) : CZ := (zDreg 3 fun n0 k => (zLD B11 0 1 false (.v 6)) ((zCallD call B11 3 29 [(.v 7), (.v 8)] .push) ((zStepD E1 call B11 n0 ⟨.build 103 [(0, (.l 0)), (1, (.v 7))], .push, none, false, 5, none⟩) ((zStepD E1 call B11 n0 ⟨.buildSlice 101 1 [(0, (.l 0))], .push, none, false, 6, (some 1)⟩) ((zStepD E1 call B11 n0 ⟨.append 101 101 (.l 3) (.l 0), .push, none, false, 7, (some 2)⟩) ((zStepD E1 call B11 n0 ⟨.store 101 (.v 6) (.l 0), .none, none, false, 8, none⟩) k))))))
theorem push_mark (k : Nat) (hk : 202 ≤ k) (Y : YE) (fr : Nat) (H : Heap) (l : List Spot) (n i : Int) (hn : I64 n) (hi : I64 i) (hl : l.length < 100000) (W : RS fr H l) (V : List AV) (h6 : V[6]? = some (.loc 1 0)) (h7 : V[7]? = some (iV n)) (h8 : V[8]? = some (iV i)) (L0 : List AV) :
    ∃ L' H', (∀ kn kx kr, reg70 (CY (k + 1) Y) kn kx kr L0 V (rep H) = kn L' V (rep H')) ∧ RS fr H' (l ++ [(markN n i, n)]) := by
  have g6 : ∀ L : List AV, gO L V (.v 6) = .loc 1 0 := fun L => by simp [gO, h6]
  have g7 : ∀ L : List AV, gO L V (.v 7) = iV n := fun L => by simp [gO, h7]
  have g8 : ∀ L : List AV, gO L V (.v 8) = iV i := fun L => by simp [gO, h8]
  obtain ⟨v, h1, ho⟩ := W.h1
  have h0 := W.h0
  obtain ⟨H1, eH1⟩ : ∃ H1, H1 = H ++ List.replicate 3 AO.dead := ⟨_, rfl⟩
  have hlen : H1.length = H.length + 3 := by rw [eH1]; simp
  have hl2 := len_of h1
  have b0 : H1[0]? = some (.row 40 [.int .u64 (fr : Int)] false) := by rw [eH1]; exact get_app h0
  have b1 : H1[1]? = some (.row 101 [v] false) := by rw [eH1]; exact get_app h1
  have hc := c29 (k := k) Y (rep H1) n i hn hi hk
  obtain ⟨H2, eH2⟩ : ∃ H2, H2 = H1.set (H.length + 1) (AO.row 103 [.int .u64 (markN n i : Int), iV n] false) := ⟨_, rfl⟩
  have hlen2 : H2.length = H.length + 3 := by rw [eH2]; simp [hlen]
  have c0 : H2[0]? = some (.row 40 [.int .u64 (fr : Int)] false) := by rw [eH2]; exact get_set b0 (by omega)
  have c1 : H2[1]? = some (.row 101 [v] false) := by rw [eH2]; exact get_set b1 (by omega)
  have cn : H2[H.length + 1]? = some (.row 103 [.int .u64 (markN n i : Int), iV n] false) := by rw [eH2]; exact List.getElem?_set_self (by omega)
  have sp1 : spOk B11 6 ⟨[], [H.length + 1, H.length + 1, H.length + 1], false⟩ [(0, Acc.read 1)] = true := by
    refine spOk_apart ?_ spOk_nil
    have : Nat.beq 1 (H.length + 1) = false := by
      cases hb : Nat.beq 1 (H.length + 1) with
      | false => rfl
      | true => have := Nat.eq_of_beq_eq_true hb; omega
    have h2 : Nat.beq (H.length + 1) 1 = false := by
      cases hb : Nat.beq (H.length + 1) 1 with
      | false => rfl
      | true => have := Nat.eq_of_beq_eq_true hb; omega
    simp [Acc.meets, Acc.read, hitL]
    omega
  have front : ∀ kn kx kr, reg70 (CY (k + 1) Y) kn kx kr L0 V (rep H) = (zStepD E1 (CY (k + 1) Y) B11 H.length ⟨.append 101 101 (.l 3) (.l 0), .push, none, false, 7, (some 2)⟩) ((zStepD E1 (CY (k + 1) Y) B11 H.length ⟨.store 101 (.v 6) (.l 0), .none, none, false, 8, none⟩) (fun _ => kn)) [(6, ⟨[], [H.length + 1, H.length + 1, H.length + 1], false⟩), (0, Acc.read 1)] [.own (H.length + 1) 0 1 2, .agg [.int .u64 (markN n i : Int), iV n], .int .u64 (markN n i : Int), v] V (rep H2) := fun kn kx kr => by
    unfold reg70
    refine zDreg_eq.trans ?_
    rw [← eH1]
    refine (zLD_v (wLoad_loc (g6 _) b1 (by simp) rfl) rfl spOk_nil).trans ?_
    refine (zCallD_idle (by simp only [List.map_cons, List.map_nil, g7, g8]; exact hc) rfl).trans ?_
    refine (zStepD_val rfl (build103 rfl (g7 _)) rfl).trans ?_
    refine (zStepD_new rfl rfl (buildOne row101 rfl rfl z103 (by decide)) rfl sp1).trans ?_
    rw [eH2]; rfl
  rcases ho with ⟨rfl, rfl⟩ | ⟨hne, nm, hnm, rfl, hrow⟩
  · refine ⟨[.own (H.length + 2) 0 1 2, .own (H.length + 1) 0 1 2, .agg [.int .u64 (markN n i : Int), iV n], .int .u64 (markN n i : Int), .sl 0 [] true], (H2.set (H.length + 2) (.row 103 [.int .u64 (markN n i : Int), iV n] false)).set 1 (.row 101 [.own (H.length + 2) 0 1 2] false), fun kn kx kr => ?_, ⟨?_, ⟨.own (H.length + 2) 0 1 2, ?_, ?_⟩⟩⟩
    · refine (front kn kx kr).trans ?_
      refine (zStepD_new rfl rfl (append_firstG (cs := [.int .u64 (markN n i : Int), iV n]) row101 rfl rfl cn rfl (by decide) (by decide)) rfl (spOk_bef (by decide) (spOk_bef (by decide) spOk_nil))).trans ?_
      refine (zStepD_put rfl (store_one (nm := 1) (e2 := 101) ⟨_, rfl, rfl⟩ (g6 _) (get_set c1 (by omega)) rfl rfl) rfl (spOk_bef (by decide) (spOk_bef (by decide) (spOk_bef (by decide) spOk_nil)))).trans ?_
      rfl
    · exact get_set (get_set c0 (by omega)) (by omega)
    · exact get_self (get_set c1 (by omega))
    · refine .inr ⟨by simp, H.length + 2, by omega, rfl, ?_⟩
      exact get_set (List.getElem?_set_self (by omega)) (by omega)
  · have hl3 := len_of hrow
    have crow : H2[nm]? = some (.row 103 (spotCells l) false) := by rw [eH2]; refine get_set ?_ (by omega); rw [eH1]; exact get_app hrow
    refine ⟨[.own (H.length + 2) 0 (l.length + 1) 2, .own (H.length + 1) 0 1 2, .agg [.int .u64 (markN n i : Int), iV n], .int .u64 (markN n i : Int), .own nm 0 l.length 2], ((H2.set nm .dead).set (H.length + 2) (.row 103 (spotCells l ++ [.int .u64 (markN n i : Int), iV n]) false)).set 1 (.row 101 [.own (H.length + 2) 0 (l.length + 1) 2] false), fun kn kx kr => ?_, ⟨?_, ⟨.own (H.length + 2) 0 (l.length + 1) 2, ?_, ?_⟩⟩⟩
    · refine (front kn kx kr).trans ?_
      refine (zStepD_app rfl rfl (append_nextG (cs := [.int .u64 (markN n i : Int), iV n]) (cs0 := spotCells l) row101 rfl crow (spotCells_length l) rfl cn rfl (by decide) (by omega)) rfl (spOk_bef (by decide) (spOk_bef (by decide) spOk_nil))).trans ?_
      refine (zStepD_put rfl (store_one (nm := 1) (e2 := 101) ⟨_, rfl, rfl⟩ (g6 _) (get_set (get_set c1 (by omega)) (by omega)) rfl rfl) rfl (spOk_bef (by decide) (spOk_bef (by decide) (spOk_bef (by decide) spOk_nil)))).trans ?_
      rfl
    · exact get_set (get_set (get_set c0 (by omega)) (by omega)) (by omega)
    · exact get_self (get_set (get_set c1 (by omega)) (by omega))
    · refine .inr ⟨by simp, H.length + 2, by omega, by simp, ?_⟩
      rw [spotCells_append]
      exact get_set (List.getElem?_set_self (by simp; omega)) (by omega)
end Go.Proofs.PxR2
