/- The law RingAll: the walk. -/
import Derived.Test.YtpdgbkmpcahjjaaPzR2O
set_option linter.unusedVariables false
set_option linter.unusedSimpArgs false
set_option maxRecDepth 100000
namespace Go.Proofs.PxR2
open Go Go.Px Go.Proofs

theorem rem10 (n : Nat) (hn : n < 256) : intBin .rem .u8 (n : Int) 10 = some (.int .u8 ((n % 10 : Nat) : Int)) := by
  have h : (n : Int).tmod 10 = ((n % 10 : Nat) : Int) := by
    rw [Int.tmod_eq_emod_of_nonneg (by omega)]; omega
  simp [intBin]
  rw [h]; omega

theorem keep_take (k : Nat) (w : List Int) : (keepN (k + 1 : Nat) w).take (keepN (k : Nat) w).length = keepN (k : Nat) w := by
  rw [keepN_len]
  unfold keepN
  rw [List.take_take]
  congr 1
  omega

theorem all7 (b n : Nat) (hn : n < 256) (key : List Nat) : ∃ H', bodyZ E1 (CY 500) [] 500 (G7 E1) [.int .u8 (b : Int), .str key, .int .u8 (n : Int)] (rep []) = some (.bool true, rep H') := by
  have e0 : ∀ q, bodyZ E1 (CY 500) [] q (G7 E1) [.int .u8 (b : Int), .str key, .int .u8 (n : Int)] (rep []) = (G7 E1).z (CY 500) [] q (finZ E1 [.tmp (.v 10)]) (fun _ _ _ _ => none) (finZ E1 [.tmp (.v 10)]) [] [.str key, .undef, .int .u8 (b : Int), .undef, .undef, .undef, .int .u8 (n : Int), .undef, .undef, .undef, .undef] (rep []) := by intro q; kernel_rfl
  by_cases hk : key.length ≤ 40
  case neg =>
    refine ⟨[], ?_⟩
    refine (e0 _).trans ?_
    unfold G7
    dsimp only
    refine zSeq_reg.trans ?_
    refine (zV_v vMv_eq).trans ?_
    refine zSeq_app.trans ?_
    refine zSeq_app.trans ?_
    refine zReg_eq.trans ?_
    refine (zCall_eq (c28 _ _)).trans ?_
    refine (zP_v (vNot_eq (b := true) rfl)).trans ?_
    refine (zCond_eq (p := false) rfl).trans ?_
    rw [if_neg (by decide)]
    refine zSkip_app.trans ?_
    refine zSeq_app.trans ?_
    refine zSeq_app.trans ?_
    refine zReg_eq.trans ?_
    refine (zP_v (vLenS_eq rfl)).trans ?_
    refine (zP_v (vInt_eq fGtr_ok rfl rfl rfl)).trans ?_
    refine (zCond_eq rfl).trans ?_
    rw [if_pos (by simp; omega)]
    refine zSeq_reg.trans ?_
    refine (zV_v vMv_eq).trans ?_
    refine zRet_app.trans ?_
    rfl
  case pos =>
  obtain ⟨L1, H1, v, out, e1, ho1, hnd, hb8, hl8⟩ := loopA (CY 500 []) key b (.int .u8 (n : Int)) 8 0 500 [] (.sl 0 [] true) [] [] (by omega) (by omega) (.inl ⟨rfl, rfl⟩) List.Pairwise.nil (fun x hx => by cases hx) (by simp)
  have hI : ∀ x ∈ out, I64 x := fun x hx => by have := hb8 x hx; unfold I64; omega
  have hI2 : ∀ x ∈ out ++ out, I64 x := fun x hx => hI x (by simpa using hx)
  -- copied, doubled
  obtain ⟨H2, c, e2, hoc, fr2⟩ := copyJ (CY 500 []) 1 (.v 3) (some 0) H1 v out false [] (VA key b (.int .u8 (n : Int)) (iV 8) v .undef .undef) rfl (by omega) ho1
  have hov2 : OwnJ H2 v out false := by
    rcases ho1 with h | ⟨hne, nm, e, hr⟩
    · exact .inl h
    · exact .inr ⟨hne, nm, e, (fr2 nm _ hr).1⟩
  obtain ⟨H3, cc, e3, hocc, fr3⟩ := catJ (CY 500 []) 3 (.l 0) (.v 3) (some 1) H2 c v out out false [c] (VA key b (.int .u8 (n : Int)) (iV 8) v .undef .undef) rfl rfl (by omega) hoc hov2
  have hov3 : OwnJ H3 v out false := by
    rcases ho1 with h | ⟨hne, nm, e, hr⟩
    · exact .inl h
    · exact .inr ⟨hne, nm, e, (fr3 nm _ (fr2 nm _ hr).2 (fr2 nm _ hr).1).1⟩
  obtain ⟨nss, a33, e33, hcase⟩ := c33J (k := 499) (by omega) [] H3 cc (out ++ out) false key hocc hI2 (by simp; omega) (by omega)
  obtain ⟨f4, hov4⟩ := (hocc.mark hcase).2 hov3
  have hwp := walk_perm key (ns := out ++ out) hnd (fun m => by simp)
  obtain ⟨w, hw⟩ : ∃ w, w = walkK key (out ++ out) := ⟨_, rfl⟩
  rw [← hw] at e33 hwp
  rw [outV_eq] at e33
  obtain ⟨L5, e5⟩ := loopB 499 [] key b (.int .u8 (n : Int)) v (markAll H3 nss) out w w.isEmpty f4 hov4 (fun x hx => hwp.mem_iff.2 hx) (by rw [hwp.length_eq]; omega) (by rw [hwp.length_eq]; omega) (by omega) out.length 0 500 [] (by omega) (by omega)
  obtain ⟨fa, ns1, a1, e35, hcase1⟩ := c35J (k := 499) (by omega) [] (markAll H3 nss) v out f4 key ((n % 10 : Nat) : Int) hov4 hI (by omega) (by omega)
  obtain ⟨f5, hov5⟩ := (hov4.mark hcase1).1
  obtain ⟨fb, ns2, a2, e35', hcase2⟩ := c35J (k := 499) (by omega) [] (markAll (markAll H3 nss) ns1) v out f5 key ((n % 10 + 1 : Nat) : Int) hov5 hI (by omega) (by omega)
  obtain ⟨f6, hov6⟩ := (hov5.mark hcase2).1
  obtain ⟨fc, ns3, a3, e35'', hcase3⟩ := c35J (k := 499) (by omega) [] (markAll (markAll (markAll H3 nss) ns1) ns2) v out f6 key (-1) hov6 hI (by omega) (by omega)
  have hwo := walk_perm key (ns := out) hnd (fun m => Iff.rfl)
  obtain ⟨u, hu⟩ : ∃ u, u = walkK key out := ⟨_, rfl⟩
  rw [← hu] at e35 e35' e35'' hwo
  have hkt := keep_take (n % 10) u
  have hka : ((keepN ((n % 10 : Nat) : Int) u).length : Int) = min ((n % 10 : Nat) : Int) (out.length : Int) := by
    rw [keepN_len, hwo.length_eq]; omega
  have hkb : (keepN ((n % 10 : Nat) : Int) u).length ≤ (keepN ((n % 10 + 1 : Nat) : Int) u).length := by
    rw [keepN_len, keepN_len]; omega
  have hk0 : (keepN (-1) u).length = 0 := by rw [keepN_len]; omega
  have h19 := c19 (k := 499) [] (rep (markAll (markAll (markAll H3 nss) ns1) ns2)) (keepN ((n % 10 : Nat) : Int) u) (keepN ((n % 10 : Nat) : Int) u) fa (fb && (keepN ((n % 10 : Nat) : Int) u).length == (keepN ((n % 10 + 1 : Nat) : Int) u).length) (by rw [keepN_len, hwo.length_eq]; omega) (by rw [keepN_len, hwo.length_eq]; omega)
  rw [decide_eq_true rfl] at h19
  have hsl : ((keepN ((n % 10 + 1 : Nat) : Int) u).map iV).take (keepN ((n % 10 : Nat) : Int) u).length = (keepN ((n % 10 : Nat) : Int) u).map iV := by
    rw [← List.map_take, hkt]
  have hw7 : IntKind.i64.wrap ((n % 10 : Nat) : Int) = ((n % 10 : Nat) : Int) := by rw [IntKind.wrap_i64]; omega
  have hw8 : IntKind.i64.wrap (((n % 10 : Nat) : Int) + 1) = ((n % 10 + 1 : Nat) : Int) := by rw [IntKind.wrap_i64]; omega
  refine ⟨markAll (markAll (markAll (markAll H3 nss) ns1) ns2) ns3, ?_⟩
  refine (e0 _).trans ?_
  unfold G7
  dsimp only
  refine zSeq_reg.trans ?_
  refine (zV_v vMv_eq).trans ?_
  refine zSeq_app.trans ?_
  refine zSeq_app.trans ?_
  refine zReg_eq.trans ?_
  refine (zCall_eq (c28 _ _)).trans ?_
  refine (zP_v (vNot_eq (b := true) rfl)).trans ?_
  refine (zCond_eq (p := false) rfl).trans ?_
  rw [if_neg (by decide)]
  refine zSkip_app.trans ?_
  refine zSeq_app.trans ?_
  refine zSeq_app.trans ?_
  refine zReg_eq.trans ?_
  refine (zP_v (vLenS_eq rfl)).trans ?_
  refine (zP_v (vInt_eq fGtr_ok rfl rfl rfl)).trans ?_
  refine (zCond_eq rfl).trans ?_
  rw [if_neg (by simp; omega)]
  refine zSkip_app.trans ?_
  refine zSeq_reg.trans ?_
  refine (zV_v vMv_eq).trans ?_
  refine zSeq_app.trans ?_
  refine zSeq_app.trans ?_
  refine zReg_eq.trans ?_
  refine (zV_v vMv_eq).trans ?_
  refine zBlock_app.trans ?_
  refine (e1 _ _ _).trans ?_
  rw [ifZ_eq, if_pos (by rfl)]
  refine zSeq_reg.trans ?_
  refine (e2 _).trans ?_
  refine (e3 _).trans ?_
  refine (zCall_eq e33).trans ?_
  refine (zV_v vMv_eq).trans ?_
  refine zSeq_app.trans ?_
  refine zSeq_app.trans ?_
  refine zReg_eq.trans ?_
  refine (zP_v (vLenL_sl rfl)).trans ?_
  refine (zP_v (hov4.len rfl)).trans ?_
  refine (zP_v (vInt_eq fNeq_ok rfl rfl rfl)).trans ?_
  refine (zCond_eq rfl).trans ?_
  rw [if_neg (by simp [hwp.length_eq])]
  refine zSkip_app.trans ?_
  refine zSeq_app.trans ?_
  refine zSeq_app.trans ?_
  refine zReg_eq.trans ?_
  refine (zV_v vMv_eq).trans ?_
  refine zBlock_app.trans ?_
  refine (e5 _ _ _).trans ?_
  rw [ifZ_eq, if_pos (by rfl)]
  refine zSeq_reg.trans ?_
  refine (zP_v (vInt_eq (fGen_ok (by simp) (by simp)) rfl rfl (rem10 n hn))).trans ?_
  refine (zP_v (vConv_eq rfl)).trans ?_
  rw [hw7]
  refine (zV_v vMv_eq).trans ?_
  refine zSeq_reg.trans ?_
  refine (zCall_eq e35).trans ?_
  refine (zP_v (vInt_eq fAdd_ok rfl rfl rfl)).trans ?_
  rw [hw8]
  refine (zCall_eq e35').trans ?_
  refine (zV_v vMv_eq).trans ?_
  refine (zV_v vMv_eq).trans ?_
  refine zSeq_reg.trans ?_
  refine (zP_v (vLenL_sl rfl)).trans ?_
  refine (zP_v (hov6.len rfl)).trans ?_
  refine (zStep_valH rfl (most_min rfl rfl)).trans ?_
  refine (zP_v (vInt_eq fEql_ok rfl rfl (r := .bool true) (by rw [hka]; simp [intBin]))).trans ?_
  refine (zG_hit rfl).trans ?_
  refine (zP_v vMv_eq).trans ?_
  refine (zG_hit rfl).trans ?_
  refine (zP_v (vLenL_sl rfl)).trans ?_
  refine (zG_hit rfl).trans ?_
  refine (zP_v vMv_eq).trans ?_
  refine (zG_hit rfl).trans ?_
  refine (zP_v (vLenL_sl rfl)).trans ?_
  refine (zG_hit rfl).trans ?_
  refine (zP_v (vInt_eq (fGen_ok (by simp) (by simp)) rfl rfl (r := .bool true) (by show some (AV.bool (decide (_ ≥ _))) = _; rw [decide_eq_true (Int.ofNat_le.2 hkb)]))).trans ?_
  refine (zP_v (vPick_eq (q := true) rfl)).trans ?_
  refine (zG_hit rfl).trans ?_
  refine (zP_v vMv_eq).trans ?_
  refine (zG_hit rfl).trans ?_
  refine (zP_v vMv_eq).trans ?_
  refine (zG_hit rfl).trans ?_
  refine (zP_v vMv_eq).trans ?_
  refine (zG_hit rfl).trans ?_
  refine (zP_v (vLenL_sl rfl)).trans ?_
  refine (zG_hit rfl).trans ?_
  refine (zStep_valH rfl (slice_hi rfl rfl (by simp) hkb)).trans ?_
  rw [hsl]
  refine (zG_hit rfl).trans ?_
  refine (zCall_eq h19).trans ?_
  refine (zP_v (vPick_eq (q := true) rfl)).trans ?_
  refine (zG_hit rfl).trans ?_
  refine (zP_v vMv_eq).trans ?_
  refine (zG_hit rfl).trans ?_
  refine (zP_v vMv_eq).trans ?_
  refine (zG_hit rfl).trans ?_
  refine (zCall_eq e35'').trans ?_
  refine (zG_hit rfl).trans ?_
  refine (zP_v (vLenL_sl rfl)).trans ?_
  refine (zG_hit rfl).trans ?_
  refine (zP_v (vInt_eq fEql_ok rfl rfl (r := .bool true) (by rw [hk0]; rfl))).trans ?_
  refine (zP_v (vPick_eq (q := true) rfl)).trans ?_
  refine (zV_v vMv_eq).trans ?_
  refine zRet_app.trans ?_
  rfl
end Go.Proofs.PxR2
