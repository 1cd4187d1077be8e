/- The law RingTells: the walk. -/
import Derived.Test.YtpdgbkmpcahjjaaPzR2X6
import Derived.Test.YtpdgbkmpcahjjaaPzR2Q
set_option linter.unusedVariables false
set_option linter.unusedSimpArgs false
set_option maxRecDepth 100000
namespace Go.Proofs.PxR2
open Go Go.Px Go.Proofs

theorem tells5 (ns : List Int) (fl : Bool) (key : List Nat) (n node i : Int) (hns : ∀ x ∈ ns, I64 x) (hnode : I64 node) (hi : I64 i) :
    ∃ H', bodyZ E1 (CY 500) [] 500 (G5 E1) [.sl ns.length (ns.map iV) fl, .str key, iV n, iV node, iV i] (rep []) = some (.bool true, rep H') := by
  have e0 : ∀ q, bodyZ E1 (CY 500) [] q (G5 E1) [.sl ns.length (ns.map iV) fl, .str key, iV n, iV node, iV i] (rep []) = (G5 E1).z (CY 500) [] q (finZ E1 [.tmp (.v 5)]) (fun _ _ _ _ => none) (finZ E1 [.tmp (.v 5)]) [] [.sl ns.length (ns.map iV) fl, .str key, iV node, iV i, iV n, .undef] (rep []) := by intro q; kernel_rfl
  refine ⟨[], ?_⟩
  by_cases hl : ns.length ≤ 12
  case neg =>
    refine (e0 _).trans ?_
    unfold G5
    dsimp only
    refine zSeq_reg.trans ?_
    refine (zV_v vMv_eq).trans ?_
    refine zSeq_app.trans ?_
    refine zSeq_app.trans ?_
    refine zReg_eq.trans ?_
    refine (zCall_eq (c28 _ _)).trans ?_
    refine (zP_v (vNot_eq (b := true) rfl)).trans ?_
    refine (zCond_eq (p := false) rfl).trans ?_
    rw [if_neg (by decide)]
    refine zSkip_app.trans ?_
    refine zSeq_app.trans ?_
    refine zSeq_app.trans ?_
    refine zReg_eq.trans ?_
    refine (zP_v (vLenL_sl rfl)).trans ?_
    refine (zP_v (vInt_eq fGtr_ok rfl rfl (r := .bool true) (by show some (AV.bool (decide (_ > _))) = _; rw [decide_eq_true (show (ns.length : Int) > 12 by omega)]))).trans ?_
    refine (zG_miss rfl).trans ?_
    refine (zG_miss rfl).trans ?_
    refine (zG_miss rfl).trans ?_
    refine (zP_v (vPick_eq (q := true) rfl)).trans ?_
    refine (zCond_eq (p := true) rfl).trans ?_
    rw [if_pos rfl]
    refine zSeq_reg.trans ?_
    refine (zV_v vMv_eq).trans ?_
    refine zRet_app.trans ?_
    rfl
  case pos =>
  by_cases hk : key.length ≤ 40
  case neg =>
    refine (e0 _).trans ?_
    unfold G5
    dsimp only
    refine zSeq_reg.trans ?_
    refine (zV_v vMv_eq).trans ?_
    refine zSeq_app.trans ?_
    refine zSeq_app.trans ?_
    refine zReg_eq.trans ?_
    refine (zCall_eq (c28 _ _)).trans ?_
    refine (zP_v (vNot_eq (b := true) rfl)).trans ?_
    refine (zCond_eq (p := false) rfl).trans ?_
    rw [if_neg (by decide)]
    refine zSkip_app.trans ?_
    refine zSeq_app.trans ?_
    refine zSeq_app.trans ?_
    refine zReg_eq.trans ?_
    refine (zP_v (vLenL_sl rfl)).trans ?_
    refine (zP_v (vInt_eq fGtr_ok rfl rfl (r := .bool false) (by show some (AV.bool (decide (_ > _))) = _; rw [decide_eq_false (show ¬ ((ns.length : Int) > 12) by omega)]))).trans ?_
    refine (zG_hit rfl).trans ?_
    refine (zP_v vMv_eq).trans ?_
    refine (zG_hit rfl).trans ?_
    refine (zP_v (vLenS_eq rfl)).trans ?_
    refine (zG_hit rfl).trans ?_
    refine (zP_v (vInt_eq fGtr_ok rfl rfl (r := .bool true) (by show some (AV.bool (decide (_ > _))) = _; rw [decide_eq_true (show (key.length : Int) > 40 by omega)]))).trans ?_
    refine (zP_v (vPick_eq (q := false) rfl)).trans ?_
    refine (zCond_eq (p := true) rfl).trans ?_
    rw [if_pos rfl]
    refine zSeq_reg.trans ?_
    refine (zV_v vMv_eq).trans ?_
    refine zRet_app.trans ?_
    rfl
  case pos =>
  have h29 := c29 (k := 499) [] (rep []) node i hnode hi (by omega)
  have h30 := c30 (k := 499) [] (rep []) node i hnode hi (by omega)
  obtain ⟨a31, h31⟩ := c31 (k := 499) [] (rep []) key (by omega) (by omega)
  obtain ⟨a32, h32⟩ := c32 (k := 499) [] (rep []) key (by omega) (by omega)
  obtain ⟨a33, h33⟩ := c33 (k := 499) (by omega) [] (rep []) ns fl key hns (by omega) (by omega)
  obtain ⟨a34, h34⟩ := c34 (k := 499) (by omega) [] (rep []) ns fl key hns (by omega) (by omega)
  obtain ⟨f35, a35, h35⟩ := c35 (k := 499) (by omega) [] (rep []) ns fl key n hns (by omega) (by omega)
  obtain ⟨f36, a36, h36⟩ := c36 (k := 499) (by omega) [] (rep []) ns fl key n hns (by omega) (by omega)
  have hwl : (walkK key ns).length ≤ ns.length := List.Nodup.length_le_of_subset (walk_nodup key ns) (fun x hx => (walk_mem key ns x).1 hx)
  obtain ⟨w, hw⟩ : ∃ w, w = walkK key ns := ⟨_, rfl⟩
  rw [← hw] at h33 h34 h35 h36 hwl
  rw [outV_eq] at h33 h34
  have h19 := c19 (k := 499) [] (rep []) w w w.isEmpty w.isEmpty (by omega) (by omega)
  rw [decide_eq_true rfl] at h19
  have h19' := c19 (k := 499) [] (rep []) (keepN n w) (keepN n w) f35 f36 (by rw [keepN_len]; omega) (by rw [keepN_len]; omega)
  rw [decide_eq_true rfl] at h19'
  refine (e0 _).trans ?_
  unfold G5
  dsimp only
  refine zSeq_reg.trans ?_
  refine (zV_v vMv_eq).trans ?_
  refine zSeq_app.trans ?_
  refine zSeq_app.trans ?_
  refine zReg_eq.trans ?_
  refine (zCall_eq (c28 _ _)).trans ?_
  refine (zP_v (vNot_eq (b := true) rfl)).trans ?_
  refine (zCond_eq (p := false) rfl).trans ?_
  rw [if_neg (by decide)]
  refine zSkip_app.trans ?_
  refine zSeq_app.trans ?_
  refine zSeq_app.trans ?_
  refine zReg_eq.trans ?_
  refine (zP_v (vLenL_sl rfl)).trans ?_
  refine (zP_v (vInt_eq fGtr_ok rfl rfl (r := .bool false) (by show some (AV.bool (decide (_ > _))) = _; rw [decide_eq_false (show ¬ ((ns.length : Int) > 12) by omega)]))).trans ?_
  refine (zG_hit rfl).trans ?_
  refine (zP_v vMv_eq).trans ?_
  refine (zG_hit rfl).trans ?_
  refine (zP_v (vLenS_eq rfl)).trans ?_
  refine (zG_hit rfl).trans ?_
  refine (zP_v (vInt_eq fGtr_ok rfl rfl (r := .bool false) (by show some (AV.bool (decide (_ > _))) = _; rw [decide_eq_false (show ¬ ((key.length : Int) > 40) by omega)]))).trans ?_
  refine (zP_v (vPick_eq (q := false) rfl)).trans ?_
  refine (zCond_eq (p := false) rfl).trans ?_
  rw [if_neg (by decide)]
  refine zSkip_app.trans ?_
  refine zSeq_reg.trans ?_
  refine (zCall_eq h29).trans ?_
  refine (zCall_eq h30).trans ?_
  refine (zP_v (vInt_eq fEql_ok rfl rfl (r := .bool true) (by simp [intBin]))).trans ?_
  refine (zG_hit rfl).trans ?_
  refine (zP_v vMv_eq).trans ?_
  refine (zG_hit rfl).trans ?_
  refine (zCall_eq h31).trans ?_
  refine (zG_hit rfl).trans ?_
  refine (zP_v vMv_eq).trans ?_
  refine (zG_hit rfl).trans ?_
  refine (zCall_eq h32).trans ?_
  refine (zG_hit rfl).trans ?_
  refine (zP_v (vInt_eq fEql_ok rfl rfl (r := .bool true) (by simp [intBin]))).trans ?_
  refine (zP_v (vPick_eq (q := true) rfl)).trans ?_
  refine (zG_hit rfl).trans ?_
  refine (zP_v vMv_eq).trans ?_
  refine (zG_hit rfl).trans ?_
  refine (zP_v vMv_eq).trans ?_
  refine (zG_hit rfl).trans ?_
  refine (zCall_eq h33).trans ?_
  refine (zG_hit rfl).trans ?_
  refine (zP_v vMv_eq).trans ?_
  refine (zG_hit rfl).trans ?_
  refine (zP_v vMv_eq).trans ?_
  refine (zG_hit rfl).trans ?_
  refine (zCall_eq h34).trans ?_
  refine (zG_hit rfl).trans ?_
  refine (zCall_eq h19).trans ?_
  refine (zP_v (vPick_eq (q := true) rfl)).trans ?_
  refine (zG_hit rfl).trans ?_
  refine (zP_v vMv_eq).trans ?_
  refine (zG_hit rfl).trans ?_
  refine (zP_v vMv_eq).trans ?_
  refine (zG_hit rfl).trans ?_
  refine (zP_v vMv_eq).trans ?_
  refine (zG_hit rfl).trans ?_
  refine (zCall_eq h35).trans ?_
  refine (zG_hit rfl).trans ?_
  refine (zP_v vMv_eq).trans ?_
  refine (zG_hit rfl).trans ?_
  refine (zP_v vMv_eq).trans ?_
  refine (zG_hit rfl).trans ?_
  refine (zP_v vMv_eq).trans ?_
  refine (zG_hit rfl).trans ?_
  refine (zCall_eq h36).trans ?_
  refine (zG_hit rfl).trans ?_
  refine (zCall_eq h19').trans ?_
  refine (zP_v (vPick_eq (q := true) rfl)).trans ?_
  refine (zV_v vMv_eq).trans ?_
  refine (zRet_app).trans ?_
  rfl

theorem wf_i64 {a : Int} (h : (Lit.int .i64 a).wf = true) : I64 a := by
  have h1 : IntKind.i64.min = -9223372036854775808 := rfl
  have h2 : IntKind.i64.max = 9223372036854775807 := rfl
  simp [Lit.wf] at h
  unfold I64
  omega

/-- The walk: over a slice of ints, nil or not. -/
theorem walk_tells (v : Value) (zs : List Int) (s : ByteArray) (x y z : Int) (wz : ∀ z ∈ zs, (Lit.int .i64 z).wf = true) (wx : (Lit.int .i64 x).wf = true) (wy : (Lit.int .i64 y).wf = true) (wzz : (Lit.int .i64 z).wf = true) (w : World)
    (hv : (v = .slice none 0 0 ∧ zs = []) ∨ ∃ a c, v = .slice (some a) zs.length c ∧ zs.length ≤ c ∧ (zs = [] ∨ a.spot = none) ∧ ∀ i (h : i < zs.length), w.cell? ⟨a.block, a.off + i, none⟩ = some (.int .i64 zs[i])) :
    Calls Try.prog 5 #[v, .string s, .int .i64 x, .int .i64 y, .int .i64 z] w fun e w' => e = .returned (.bool true) ∧ Go.Px.GrownO w w' := by
  obtain ⟨H', hb⟩ := tells5 zs false (s.data.toList.map UInt8.toNat) x y z (fun x hx => wf_i64 (wz x hx)) (wf_i64 wy) (wf_i64 wzz)
  have hxy : ∀ (S : Sett), RepL m0 S w false [.string s, .int .i64 x, .int .i64 y, .int .i64 z] [.str (s.data.toList.map UInt8.toNat), iV x, iV y, iV z] := fun S => .cons _ _ _ _ _ (.str _ _ _ rfl) (.cons _ _ _ _ _ (.int _ _ _) (.cons _ _ _ _ _ (.int _ _ _) (.cons _ _ _ _ _ (.int _ _ _) (.nil _))))
  rcases hv with ⟨rfl, rfl⟩ | ⟨a, c, rfl, hc, hsp, hcell⟩
  · exact law_true (k := 500) (f := 5) (zf := G5 E1) rfl rfl rfl hb (S := fun _ _ => False) (fun _ _ h => h.elim) (.cons _ _ _ _ _ (.nilsl _ _) (hxy _))
  · refine law_true (k := 500) (f := 5) (zf := G5 E1) rfl rfl rfl hb (S := fun b j => b = a.block ∧ a.off ≤ j ∧ j < a.off + zs.length) (fun b j hj => ?_) (.cons _ _ _ _ _ ?_ (hxy _))
    · obtain ⟨rfl, h1, h2⟩ := hj
      obtain ⟨d, rfl⟩ := Nat.exists_eq_add_of_le h1
      rw [hcell d (by omega)]; rfl
    · refine .sl _ _ _ _ _ _ (by omega) (fun h => by cases h) ?_
      rcases hsp with h0 | h0
      · subst h0; exact .nil _
      · obtain ⟨ab, ao, asp⟩ := a
        simp only at h0; subst h0
        refine Row.of_get fun i y hy => ?_
        simp only [List.getElem?_map, Option.map_eq_some_iff] at hy
        obtain ⟨z, hz, rfl⟩ := hy
        obtain ⟨hi, rfl⟩ := List.getElem?_eq_some_iff.1 hz
        exact ⟨⟨rfl, Nat.le_add_right _ _, by simp only; omega⟩, _, hcell i hi, .int _ _ _, rfl⟩
end Go.Proofs.PxR2

