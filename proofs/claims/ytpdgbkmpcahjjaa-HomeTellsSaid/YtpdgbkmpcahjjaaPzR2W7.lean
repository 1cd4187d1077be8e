/- ring.round, ring.Walk: of whatever nodes and key. -/
import Derived.Test.YtpdgbkmpcahjjaaPzR2W6
set_option linter.unusedVariables false
set_option linter.unusedSimpArgs false
set_option maxRecDepth 100000
namespace Go.Proofs.PxR2
open Go Go.Px Go.Proofs
theorem c83nil {k : Nat} (Y : YE) (T : TH) : ∃ a, CY (k + 10) Y (.func 83) [.sl 0 [] true, .clo 84 [.loc 0 0]] T = some (.tup [], T, a) := by
  have hb : bodyZ E1 (CY (k + 9)) Y (k + 9) (G83 E1) [.sl 0 [] true, .clo 84 [.loc 0 0]] T = some (.tup [], T) := by kernel_rfl
  exact call_raw (E := E1) (GE := GE E1) (LZ := LZ E1) (zf := G83 E1) (f := 83) rfl rfl hb
theorem saySort_at {g nm n cn co e f : Nat} {l : List Spot} {H : Heap} (hn : 0 < n) (hne : nm ≠ cn) (hr : H[nm]? = some (.row e (spotCells l) false)) (hl : l.length = n) (hb : n < 1000000) (h64 : ∀ x ∈ l, x.1 < 18446744073709551616) (hf : fromOf H cn co = some f) :
    ∃ p, saySort g [.own nm 0 n 2, .clo g [.loc cn co]] = some p ∧ p H = some (.put nm (.row e (spotCells (sortS f l)) false) (.tup []), ⟨[], [nm, cn], false⟩) := by
  have hne' : Nat.beq nm cn = false := by
    cases h : Nat.beq nm cn with
    | false => rfl
    | true => exact absurd (Nat.eq_of_beq_eq_true h) hne
  refine ⟨_, by simp only [saySort]; rw [if_pos (by simp [Nat.blt_eq, hne', hn])], ?_⟩
  have h2 := spotsOf_cells l h64
  simp only [hr, hf, h2]
  rw [if_pos (by simp [Nat.blt_eq, hl, hb])]
theorem fzL_ints (g : Nat → Option AO) (k : Nat) : ∀ (l : List Int), fzL (fzG E1 g (k + 1)) (l.map iV) = some (l.map iV, [])
  | [] => rfl
  | n :: l => by
    have ih := fzL_ints g k l
    simp only [List.map_cons, fzL, Option.bind_eq_bind, ih]
    rfl
theorem fzL_spots (g : Nat → Option AO) (k : Nat) : ∀ (l : List Spot), fzL (fzG E1 g (k + 1)) (spotCells l) = some (spotCells l, [])
  | [] => rfl
  | (a, n) :: l => by
    have ih := fzL_spots g k l
    simp only [spotCells, fzL, Option.bind_eq_bind, ih]
    rfl
theorem fzG_own {E : Env} {g : Nat → Option AO} {k nm n sz e : Nat} {cs : List AV} {fr : Bool} (h : g nm = some (.row e cs fr)) (hl : cs.length = n * sz) (hc : fzL (fzG E g k) cs = some (cs, [])) : fzG E g (k + 1) (.own nm 0 n sz) = some (.sl n cs false, [nm]) := by
  have ht : cs.take (n * sz) = cs := List.take_of_length_le (by omega)
  simp [fzG, h, hl, hc, ht]
theorem fzG_loc {E : Env} {g : Nat → Option AO} {k nm e : Nat} {c c' : AV} {ns : List Nat} {fr : Bool} (h : g nm = some (.row e [c] fr)) (hc : fzG E g k c = some (c', ns)) : fzG E g (k + 1) (.loc nm 0) = some (.ref [c'], nm :: ns) := by
  simp [fzG, h, fzL, hc]
theorem fzG_clo {E : Env} {g : Nat → Option AO} {k f : Nat} {c c' : AV} {ns : List Nat} (hc : fzG E g k c = some (c', ns)) : fzG E g (k + 1) (.clo f [c]) = some (.clo f [c'], ns) := by
  simp [fzG, fzL, hc]
noncomputable def ringS (fr : Nat) (ns : List Int) : List Spot := sortS fr (ns.flatMap marksOf)
theorem marks_lt (ns : List Int) : ∀ x ∈ ns.flatMap marksOf, x.1 < 18446744073709551616 := fun x hx => by
  obtain ⟨n, _, h⟩ := List.mem_flatMap.1 hx
  exact marksFrom_lt n 4 0 x h
theorem marks_len : ∀ (ns : List Int), (ns.flatMap marksOf).length = 4 * ns.length
  | [] => rfl
  | n :: ns => by
    rw [List.flatMap_cons, List.length_append, marks_len ns]
    simp [marksOf, marksFrom_len]; omega
theorem ringS_len (fr : Nat) (ns : List Int) : (ringS fr ns).length = 4 * ns.length := by
  unfold ringS
  rw [(sortS_perm fr _).length_eq, marks_len]
theorem c70 {k : Nat} (hk : 220 ≤ k) (Y : YE) (T : TH) (ns : List Int) (fl : Bool) (fr : Nat) (hfr : fr < 18446744073709551616) (hns : ∀ n ∈ ns, I64 n) (hlen : ns.length < 100) :
    ∃ f a, CY (k + 1) Y (.func 70) [.sl ns.length (ns.map iV) fl, .int .u64 fr] T = some (.clo 85 [.ref [.sl (ringS fr ns).length (spotCells (ringS fr ns)) f]], T, a) := by
  obtain ⟨j, rfl⟩ : ∃ j, k = j + 10 := ⟨k - 10, by omega⟩
  obtain ⟨L1, H1, i1, n1, a81, e1, W1⟩ := outer_loop (j + 9) (by omega) [] fr (.int .u64 fr) ns fl hns (by omega) ns.length 0 (j + 10) [.row 40 [.int .u64 (fr : Int)] false, .row 101 [.sl 0 [] true] false] [] .undef .undef .undef [] (by omega) (by omega) (by simp) ⟨rfl, ⟨_, rfl, .inl ⟨rfl, rfl⟩⟩⟩
  rw [List.drop_zero, List.nil_append] at W1
  obtain ⟨v, h1, ho⟩ := W1.h1
  have h0 := W1.h0
  have e0 : ∀ q, bodyZ E1 (CY (j + 10)) [] q (G70 E1) [.sl ns.length (ns.map iV) fl, .int .u64 fr] (rep []) = (G70 E1).z (CY (j + 10)) [] q (finZ E1 [.tmp (.v 10)]) (fun _ _ _ _ => none) (finZ E1 [.tmp (.v 10)]) [] [.int .u64 fr, .sl ns.length (ns.map iV) fl, .undef, .undef, .undef, .undef, .undef, .undef, .undef, .undef, .undef] (rep []) := by intro q; kernel_rfl
  have hbx : ∀ {L V : List AV} {H : Heap} {a : O}, gO L V a = .int .u64 (fr : Int) → evalFA E1 L V H (.box 40 a) = some (.new (.row 40 [.int .u64 (fr : Int)] false) (fun nm => .loc nm 0), Acc.none) := fun {L V H a} ha => by
    have h1 : E1.ty 40 = some ⟨.int .u64, 1, 8, [.int .u64 0]⟩ := rfl
    simp [evalFA, h1, ha, cellsOf]
  have hal : ∀ {L V : List AV} {H : Heap}, evalFA E1 L V H (.alloc 101) = some (.new (.row 101 [.sl 0 [] true] false) (fun nm => .loc nm 0), Acc.none) := rfl
  have front : ∀ (r : AV × TH), ((zStep E1 (CY (j + 10) []) ⟨.call 83 [(.l 1), (.l 0)], .push, none, false, 2, (some 0)⟩) ((zSeq (zReg fun k => (zStep E1 (CY (j + 10) []) ⟨.mkFunc 85 [(.v 6)], .push, none, false, 0, none⟩) ((zV 10 (vMv (.l 0))) k)) zRet) (finZ E1 [.tmp (.v 10)]) (fun _ _ _ _ => none) (finZ E1 [.tmp (.v 10)])) [.clo 84 [.loc 0 0], v] (VV (.int .u64 fr) (.sl ns.length (ns.map iV) fl) (iV ns.length) (iV ns.length) i1 n1 a81) (rep H1) = some r) → bodyZ E1 (CY (j + 10)) [] (j + 10) (G70 E1) [.sl ns.length (ns.map iV) fl, .int .u64 fr] (rep []) = some r := fun r hr => by
    refine (e0 _).trans ?_
    unfold G70
    dsimp only
    refine zSeq_reg.trans ?_
    refine (zStep_newH rfl (hbx rfl)).trans ?_
    refine (zV_v vMv_eq).trans ?_
    refine zSeq_reg.trans ?_
    refine (zStep_newH rfl hal).trans ?_
    refine zSeq_app.trans ?_
    refine zSeq_reg.trans ?_
    refine (zV_v vMv_eq).trans ?_
    refine (zV_v (vLenL_sl rfl)).trans ?_
    refine (zV_v vMv_eq).trans ?_
    refine zBlock_app.trans ?_
    refine (e1 _ _ _).trans ?_
    rw [ifZ_eq, if_pos (by rfl)]
    refine zSeq_reg.trans ?_
    refine (zL_v (wLoad_loc (nm := 1) (off := 0) rfl h1 (by simp) rfl)).trans ?_
    refine (zStep_valH rfl (x := .clo 84 [.loc 0 0]) (a := Acc.none) rfl).trans ?_
    exact hr
  rcases ho with ⟨hl, rfl⟩ | ⟨hne, nm, hnm, rfl, hrow⟩
  · -- no marks
    have ev : evalFA E1 [.clo 84 [.loc 0 0], .sl 0 [] true] (VV (.int .u64 fr) (.sl ns.length (ns.map iV) fl) (iV ns.length) (iV ns.length) i1 n1 a81) H1 (.call 83 [(.l 1), (.l 0)]) = some (.call (.func 83) [.sl 0 [] true, .clo 84 [.loc 0 0]], Acc.none) := rfl
    have e85 : ∀ L H, evalFA E1 L (VV (.int .u64 fr) (.sl ns.length (ns.map iV) fl) (iV ns.length) (iV ns.length) i1 n1 a81) H (.mkFunc 85 [(.v 6)]) = some (.val (.clo 85 [.loc 1 0]), Acc.none) := fun L H => rfl
    obtain ⟨a3, h83⟩ := c83nil (k := j) [] (rep H1)
    have hns0 : ns = [] := by
      have := marks_len ns
      rw [hl] at this
      exact List.eq_nil_of_length_eq_zero (by simp at this; omega)
    have hb := front (.clo 85 [.loc 1 0], rep H1) (by
      refine (zStep_callH rfl ev rfl h83).trans ?_
      refine zSeq_reg.trans ?_
      refine (zStep_valH rfl (e85 _ _)).trans ?_
      refine (zV_v vMv_eq).trans ?_
      refine zRet_app.trans ?_
      rfl)
    refine ⟨true, _, call_pure (E := E1) (GE := GE E1) (LZ := LZ E1) (Y := Y) (T := T) (f := 70) (zf := G70 E1) (fargs := [.sl ns.length (ns.map iV) fl, .int .u64 fr]) (ns := []) (r' := .clo 85 [.ref [.sl (ringS fr ns).length (spotCells (ringS fr ns)) true]]) (ns2 := [1]) rfl rfl rfl hb ?_⟩
    rw [show (rep H1).get = fun i => H1[i]? from funext (rep_get _)]
    rw [show ringS fr ns = [] by rw [hns0]; rfl]
    simp [fzG, fzDeep, fzL, h1, spotCells]
  · have hlm := marks_len ns
    have hpos : 0 < (ns.flatMap marksOf).length := List.length_pos_iff.2 hne
    have hfrom : fromOf H1 0 0 = some fr := by
      unfold fromOf
      rw [h0]
      show num64 (some (.int .u64 (Int.ofNat fr))) = some fr
      unfold num64
      simp only
      rw [if_pos]
      simp [Nat.blt_eq, hfr]
    obtain ⟨p, hp1, hp2⟩ := saySort_at (g := 84) (co := 0) hpos (show nm ≠ 0 by omega) hrow rfl (by omega) (marks_lt ns) hfrom
    have hpr : E1.prim 83 [.own nm 0 (ns.flatMap marksOf).length 2, .clo 84 [.loc 0 0]] = some p := by
      show (match (if (83 : Nat) = 83 then saySort 84 [.own nm 0 (ns.flatMap marksOf).length 2, .clo 84 [.loc 0 0]] else none) with
        | some r => some r
        | none => _) = some p
      rw [if_pos rfl, hp1]
    have ev : evalFA E1 [.clo 84 [.loc 0 0], .own nm 0 (ns.flatMap marksOf).length 2] (VV (.int .u64 fr) (.sl ns.length (ns.map iV) fl) (iV ns.length) (iV ns.length) i1 n1 a81) H1 (.call 83 [(.l 1), (.l 0)]) = some (.call (.func 83) [.own nm 0 (ns.flatMap marksOf).length 2, .clo 84 [.loc 0 0]], Acc.none) := rfl
    have e85 : ∀ L H, evalFA E1 L (VV (.int .u64 fr) (.sl ns.length (ns.map iV) fl) (iV ns.length) (iV ns.length) i1 n1 a81) H (.mkFunc 85 [(.v 6)]) = some (.val (.clo 85 [.loc 1 0]), Acc.none) := fun L H => rfl
    have hb := front (.clo 85 [.loc 1 0], rep (H1.set nm (.row 103 (spotCells (sortS fr (ns.flatMap marksOf))) false))) (by
      refine (zStep_told rfl ev hpr hp2).trans ?_
      refine zSeq_reg.trans ?_
      refine (zStep_valH rfl (e85 _ _)).trans ?_
      refine (zV_v vMv_eq).trans ?_
      refine zRet_app.trans ?_
      rfl)
    have hsl : (sortS fr (ns.flatMap marksOf)).length = (ns.flatMap marksOf).length := (sortS_perm _ _).length_eq
    refine ⟨false, _, call_pure (E := E1) (GE := GE E1) (LZ := LZ E1) (Y := Y) (T := T) (f := 70) (zf := G70 E1) (fargs := [.sl ns.length (ns.map iV) fl, .int .u64 fr]) (ns := []) (r' := .clo 85 [.ref [.sl (ringS fr ns).length (spotCells (ringS fr ns)) false]]) (ns2 := [1, nm]) rfl rfl rfl hb ?_⟩
    rw [show (rep (H1.set nm (.row 103 (spotCells (sortS fr (ns.flatMap marksOf))) false))).get = fun i => (H1.set nm (.row 103 (spotCells (sortS fr (ns.flatMap marksOf))) false))[i]? from funext (rep_get _)]
    have g1 : (H1.set nm (AO.row 103 (spotCells (sortS fr (ns.flatMap marksOf))) false))[1]? = some (.row 101 [.own nm 0 (ns.flatMap marksOf).length 2] false) := get_set h1 (by omega)
    have g2 : (H1.set nm (AO.row 103 (spotCells (sortS fr (ns.flatMap marksOf))) false))[nm]? = some (.row 103 (spotCells (sortS fr (ns.flatMap marksOf))) false) := get_self hrow
    have g4 := spotCells_length (sortS fr (ns.flatMap marksOf))
    have hr := fzG_clo (f := 85) (fzG_loc (k := 58) g1 (fzG_own (E := E1) (k := 57) (n := (ns.flatMap marksOf).length) (sz := 2) g2 (by omega) (fzL_spots _ 56 _)))
    rw [show (ringS fr ns).length = (ns.flatMap marksOf).length from hsl]
    exact hr
end Go.Proofs.PxR2
