/- The law RingMoves: the walk, whole. -/
import Derived.Test.YtpdgbkmpcahjjaaPzR2U
import Derived.Test.YtpdgbkmpcahjjaaPzR2R
set_option linter.unusedVariables false
set_option linter.unusedSimpArgs false
set_option maxRecDepth 100000
namespace Go.Proofs.PxR2
open Go Go.Px Go.Proofs

theorem moves6 (b node : Nat) (key : List Nat) (back : Bool) : ∃ H', bodyZ E1 (CY 500) [] 500 (G6 E1) [.int .u8 (b : Int), .int .u8 (node : Int), .str key, .bool back] (rep []) = some (.bool true, rep H') := by
  have e0 : ∀ q, bodyZ E1 (CY 500) [] q (G6 E1) [.int .u8 (b : Int), .int .u8 (node : Int), .str key, .bool back] (rep []) = (G6 E1).z (CY 500) [] q (finZ E1 [.tmp (.v 16)]) (fun _ _ _ _ => none) (finZ E1 [.tmp (.v 16)]) [] [.str key, .int .u8 (node : Int), .undef, .int .u8 (b : Int), .undef, .undef, .bool back, .undef, .undef, .undef, .undef, .undef, .undef, .undef, .undef, .undef, .undef] (rep []) := by intro q; kernel_rfl
  by_cases hk : key.length ≤ 40
  case neg =>
    refine ⟨[], ?_⟩
    refine (e0 _).trans ?_
    unfold G6
    dsimp only
    refine zSeq_reg.trans ?_
    refine (zV_v vMv_eq).trans ?_
    refine zSeq_app.trans ?_
    refine zSeq_app.trans ?_
    refine zReg_eq.trans ?_
    refine (zCall_eq (c28 _ _)).trans ?_
    refine (zP_v (vNot_eq (b := true) rfl)).trans ?_
    refine (zCond_eq (p := false) rfl).trans ?_
    rw [if_neg (by decide)]
    refine zSkip_app.trans ?_
    refine zSeq_app.trans ?_
    refine zSeq_app.trans ?_
    refine zReg_eq.trans ?_
    refine (zP_v (vLenS_eq rfl)).trans ?_
    refine (zP_v (vInt_eq fGtr_ok rfl rfl rfl)).trans ?_
    refine (zCond_eq rfl).trans ?_
    rw [if_pos (by simp; omega)]
    refine zSeq_reg.trans ?_
    refine (zV_v vMv_eq).trans ?_
    refine zRet_app.trans ?_
    rfl
  case pos =>
  obtain ⟨M, hM⟩ : ∃ M : MV, M = ⟨key, .int .u8 (node : Int), b, node % 8, back⟩ := ⟨_, rfl⟩
  have hkk : M.kk < 8 := by rw [hM]; exact Nat.mod_lt _ (by decide)
  obtain ⟨L1, H1, va, a, e1, ha1, hnd, hb8, hl8⟩ := loopC (CY 500 []) M 8 0 500 [] nl [] [] (by omega) (by omega) (.inl ⟨rfl, rfl⟩) List.Pairwise.nil (fun x hx => by cases hx) (by simp)
  obtain ⟨H2, vb, bl, L2, ha2, hb2, hbl, e2⟩ := make_b (CY 500 []) M H1 va a ha1 hl8
  have hka : (M.kk : Int) ∉ a := fun h => (hb8 _ h).2.2 rfl
  have hlb : bl.length = a.length + 1 := by rcases hbl with rfl | rfl <;> simp
  have hmb : ∀ m, m ∈ bl ↔ m ∈ (M.kk : Int) :: a := fun m => by rcases hbl with rfl | rfl <;> simp [or_comm]
  have hndb : ((M.kk : Int) :: a).Nodup := List.nodup_cons.2 ⟨hka, hnd⟩
  have hfil : bl.filter (· != (M.kk : Int)) = a := by
    have h1 : a.filter (· != (M.kk : Int)) = a := List.filter_eq_self.2 fun x hx => by simpa using fun e : x = M.kk => hka (e ▸ hx)
    rcases hbl with rfl | rfl
    · rw [List.filter_append, h1]; simp
    · rw [List.filter_cons, h1]; simp
  have hIa : ∀ x ∈ a, I64 x := fun x hx => by have := hb8 x hx; unfold I64; omega
  have hIb : ∀ x ∈ bl, I64 x := fun x hx => by
    rcases List.mem_cons.1 ((hmb x).1 hx) with rfl | h
    · unfold I64; omega
    · exact hIa x h
  have hkey : M.key = key := by rw [hM]
  -- the ways round
  obtain ⟨ns1, ac1, c1, cs1⟩ := c33J (k := 499) (by omega) [] H2 va a false key ha2 hIa (by omega) (by omega)
  obtain ⟨f3, ha3⟩ := (ha2.mark cs1).1
  obtain ⟨g3, hb3⟩ := (ha2.mark cs1).2 hb2
  obtain ⟨ns2, ac2, c2, cs2⟩ := c33J (k := 499) (by omega) [] (markAll H2 ns1) vb bl g3 key hb3 hIb (by omega) (by omega)
  obtain ⟨g4, hb4⟩ := (hb3.mark cs2).1
  obtain ⟨f4, ha4⟩ := (hb3.mark cs2).2 ha3
  have hpx := walk_perm key (ns := a) hnd (fun m => Iff.rfl)
  have hpy := walk_perm key (ns := bl) hndb hmb
  have hyn := walk_nodup key bl
  have hxy : (walkK key bl).filter (· != (M.kk : Int)) = walkK key a := by rw [walk_filter, hfil]
  obtain ⟨x, hx⟩ : ∃ x, x = walkK key a := ⟨_, rfl⟩
  obtain ⟨y, hy⟩ : ∃ y, y = walkK key bl := ⟨_, rfl⟩
  rw [← hx] at c1 hpx hxy
  rw [← hy] at c2 hpy hyn hxy
  rw [outV_eq] at c1 c2
  have hxl := hpx.length_eq
  have hyl : y.length = a.length + 1 := by rw [hpy.length_eq]; simp
  obtain ⟨H4, eH4⟩ : ∃ H4, H4 = markAll (markAll H2 ns1) ns2 := ⟨_, rfl⟩
  rw [← eH4] at c2 ha4 hb4
  -- y without k
  obtain ⟨L5, H5, vz, e5, hz5, fr5⟩ := loopD (CY 500 []) M va vb (.sl x.length (x.map iV) x.isEmpty) y y.isEmpty (by omega) y.length 0 500 H4 nl [] [] (by omega) (by omega) (.inl ⟨rfl, rfl⟩) (by simp)
  rw [List.drop_zero, List.nil_append, hxy] at hz5
  have hnlA : ∀ j, Apart nl j := fun j b off n sz e => by cases e
  have ha5 : OwnJ H5 va a f4 := ha4.fr fun i o h => (fr5 i o (hnlA i) h).2
  have hb5 : OwnJ H5 vb bl g4 := hb4.fr fun i o h => (fr5 i o (hnlA i) h).2
  -- keepers
  obtain ⟨fp, ns3, ac3, c3, cs3⟩ := c35J (k := 499) (by omega) [] H5 va a f4 key 2 ha5 hIa (by omega) (by omega)
  obtain ⟨f6, ha6⟩ := (ha5.mark cs3).1
  obtain ⟨g6, hb6⟩ := (ha5.mark cs3).2 hb5
  obtain ⟨h6, hz6⟩ := (ha5.mark cs3).2 hz5
  obtain ⟨fq, ns4, ac4, c4, cs4⟩ := c35J (k := 499) (by omega) [] (markAll H5 ns3) vb bl g6 key 2 hb6 hIb (by omega) (by omega)
  obtain ⟨f7, ha7⟩ := (hb6.mark cs4).2 ha6
  obtain ⟨h7, hz7⟩ := (hb6.mark cs4).2 hz6
  rw [← hx] at c3
  rw [← hy] at c4
  obtain ⟨H7, eH7⟩ : ∃ H7, H7 = markAll (markAll H5 ns3) ns4 := ⟨_, rfl⟩
  rw [← eH7] at c4 ha7 hz7
  have hpl : (keepN 2 x).length < 499 := by rw [keepN_len]; omega
  have hql : (keepN 2 y).length < 100 := by rw [keepN_len]; omega
  obtain ⟨L8, e8⟩ := loopE 499 [] M va vb (iV y.length) (.sl y.length (y.map iV) y.isEmpty) vz (.sl x.length (x.map iV) x.isEmpty) (keepN 2 x) (keepN 2 y) fp fq hpl (by omega) hql (rep H7) (keepN 2 y).length 0 500 0 [] (by omega) (by omega) (by omega)
  rw [List.drop_zero, Nat.zero_add] at e8
  have hmv := moved_le hyn hxy
  obtain ⟨mv, hmve⟩ : ∃ mv, mv = ((keepN 2 y).filter (fun n => !decide (n ∈ keepN 2 x))).length := ⟨_, rfl⟩
  rw [← hmve] at e8 hmv
  obtain ⟨ac9, c9⟩ := c19J (k := 499) [] H7 x x x.isEmpty h7 vz hz7 (by omega) (by omega)
  rw [decide_eq_true rfl] at c9
  have hwk : IntKind.i64.wrap ((node % 8 : Nat) : Int) = ((node % 8 : Nat) : Int) := by rw [IntKind.wrap_i64]; omega
  have hwl : IntKind.i64.wrap ((a.length : Int) + 1) = ((a.length + 1 : Nat) : Int) := by rw [IntKind.wrap_i64]; omega
  have hVM : ∀ (i a1 b1 i2 y1 z1 i3 q1 p1 m1 x1 : AV), VM M i a1 b1 i2 y1 z1 i3 q1 p1 m1 x1 = [.str key, .int .u8 (node : Int), i, .int .u8 (b : Int), .int .i64 ((node % 8 : Nat) : Int), a1, .bool back, b1, i2, y1, z1, i3, q1, p1, m1, x1, .bool false] := fun _ _ _ _ _ _ _ _ _ _ _ => by rw [hM]; rfl
  simp only [hVM] at e1 e2 e5 e8
  refine ⟨H7, ?_⟩
  refine (e0 _).trans ?_
  unfold G6
  dsimp only
  refine zSeq_reg.trans ?_
  refine (zV_v vMv_eq).trans ?_
  refine zSeq_app.trans ?_
  refine zSeq_app.trans ?_
  refine zReg_eq.trans ?_
  refine (zCall_eq (c28 _ _)).trans ?_
  refine (zP_v (vNot_eq (b := true) rfl)).trans ?_
  refine (zCond_eq (p := false) rfl).trans ?_
  rw [if_neg (by decide)]
  refine zSkip_app.trans ?_
  refine zSeq_app.trans ?_
  refine zSeq_app.trans ?_
  refine zReg_eq.trans ?_
  refine (zP_v (vLenS_eq rfl)).trans ?_
  refine (zP_v (vInt_eq fGtr_ok rfl rfl rfl)).trans ?_
  refine (zCond_eq rfl).trans ?_
  rw [if_neg (by simp; omega)]
  refine zSkip_app.trans ?_
  refine zSeq_reg.trans ?_
  refine (zP_v (vInt_eq (fGen_ok (by simp) (by simp)) rfl rfl (rem8 node))).trans ?_
  refine (zP_v (vConv_eq rfl)).trans ?_
  rw [hwk]
  refine (zV_v vMv_eq).trans ?_
  refine zSeq_reg.trans ?_
  refine (zV_v vMv_eq).trans ?_
  refine (zV_v vMv_eq).trans ?_
  refine zSeq_app.trans ?_
  refine zSeq_app.trans ?_
  refine zReg_eq.trans ?_
  refine (zV_v vMv_eq).trans ?_
  refine zBlock_app.trans ?_
  refine (e1 _ _ _).trans ?_
  rw [ifZ_eq, if_pos (by rfl)]
  refine zSeq_app.trans ?_
  refine (e2 _ _ _ _).trans ?_
  refine zSeq_reg.trans ?_
  refine (zCall_eq c1).trans ?_
  refine (zCall_eq c2).trans ?_
  refine (zV_v vMv_eq).trans ?_
  refine (zV_v vMv_eq).trans ?_
  refine zSeq_reg.trans ?_
  refine (zV_v vMv_eq).trans ?_
  refine zSeq_app.trans ?_
  refine zSeq_app.trans ?_
  refine zReg_eq.trans ?_
  refine (zV_v vMv_eq).trans ?_
  refine zBlock_app.trans ?_
  refine (e5 _ _ _).trans ?_
  rw [ifZ_eq, if_pos (by rfl)]
  refine zSeq_reg.trans ?_
  refine (zV_v vMv_eq).trans ?_
  refine zSeq_reg.trans ?_
  refine (zCall_eq c3).trans ?_
  refine (zCall_eq c4).trans ?_
  refine (zV_v vMv_eq).trans ?_
  refine (zV_v vMv_eq).trans ?_
  refine zSeq_app.trans ?_
  refine zSeq_app.trans ?_
  refine zReg_eq.trans ?_
  refine (zV_v vMv_eq).trans ?_
  refine zBlock_app.trans ?_
  refine (e8 _ _ _).trans ?_
  rw [ifZ_eq, if_pos (by rfl)]
  refine zSeq_reg.trans ?_
  refine (zCall_eq c9).trans ?_
  refine (zG_hit rfl).trans ?_
  refine (zP_v vMv_eq).trans ?_
  refine (zG_hit rfl).trans ?_
  refine (zP_v (vLenL_sl rfl)).trans ?_
  refine (zG_hit rfl).trans ?_
  refine (zP_v vMv_eq).trans ?_
  refine (zG_hit rfl).trans ?_
  refine (zP_v (ha7.len rfl)).trans ?_
  refine (zG_hit rfl).trans ?_
  refine (zP_v (vInt_eq fAdd_ok rfl rfl rfl)).trans ?_
  rw [hwl]
  refine (zG_hit rfl).trans ?_
  refine (zP_v (vInt_eq fEql_ok rfl rfl (r := .bool true) (by rw [hyl]; simp [intBin]))).trans ?_
  refine (zP_v (vPick_eq (q := true) rfl)).trans ?_
  refine (zG_hit rfl).trans ?_
  refine (zP_v vMv_eq).trans ?_
  refine (zG_hit rfl).trans ?_
  refine (zP_v (vInt_eq (fGen_ok (by simp) (by simp)) rfl rfl (r := .bool true) (by show some (AV.bool (decide (_ ≤ _))) = _; rw [decide_eq_true (show (mv : Int) ≤ 1 by omega)]))).trans ?_
  refine (zP_v (vPick_eq (q := true) rfl)).trans ?_
  refine (zP_v (vPick_eq (q := true) rfl)).trans ?_
  refine (zV_v vMv_eq).trans ?_
  refine zRet_app.trans ?_
  rfl

theorem walk_moves (a c : Int) (s : ByteArray) (bk : Bool) (wa : (Lit.int .u8 a).wf = true) (wc : (Lit.int .u8 c).wf = true) (w : World) :
    Calls Try.prog 6 #[.int .u8 a, .int .u8 c, .string s, .bool bk] w fun e w' => e = .returned (.bool true) ∧ Go.Px.GrownO w w' := by
  obtain ⟨x, hx, rfl⟩ := byte_nat wa
  obtain ⟨y, hy, rfl⟩ := byte_nat wc
  obtain ⟨H', hb⟩ := moves6 x y (s.data.toList.map UInt8.toNat) bk
  exact law_true (k := 500) (f := 6) (zf := G6 E1) rfl rfl rfl hb (S := fun _ _ => False) (fun _ _ h => h.elim) (.cons _ _ _ _ _ (.int _ _ _) (.cons _ _ _ _ _ (.int _ _ _) (.cons _ _ _ _ _ (.str _ _ _ rfl) (.cons _ _ _ _ _ (.bool _ _) (.nil _)))))
end Go.Proofs.PxR2
