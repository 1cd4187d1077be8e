/- Rows of ints handed to calls; a bit of a byte. -/
import Derived.Test.YtpdgbkmpcahjjaaPzR2M
set_option linter.unusedVariables false
set_option linter.unusedSimpArgs false
set_option maxRecDepth 100000
namespace Go.Proofs.PxR2
open Go Go.Px Go.Proofs

theorem app_none {L V : List AV} {H : Heap} {a b : O} (ha : gO L V a = .sl 0 [] true) (hb : gO L V b = .sl 0 [] true) : evalFA E1 L V H (.append 32 32 a b) = some (.val (.sl 0 [] true), Acc.none) := by
  have h1 : E1.ty 32 = some ⟨.slice 3, 1, 24, [.sl 0 [] true]⟩ := rfl
  have h2 : E1.ty 3 = some ⟨.int .i64, 1, 8, [.int .i64 0]⟩ := rfl
  simp [evalFA, h1, h2, appendA, appendA0, contentA, countA, ha, hb]

/-- A copy of a row. -/
theorem copyJ (call : CallTT) (id1 : Nat) (b : O) (s1 : Option Nat) (H : Heap) (v : AV) (out : List Int) (fr : Bool) (L V : List AV) (hb : gO L V b = v) (hlen : out.length < 1000) (ho : OwnJ H v out fr) :
    ∃ H' v', (∀ K, (zStep E1 call ⟨.append 32 32 (.k (.sl 0 [] true)) b, .push, none, false, id1, s1⟩) K L V (rep H) = K (v' :: L) V (rep H')) ∧ OwnJ H' v' out false ∧ (∀ i o, H[i]? = some o → H'[i]? = some o ∧ Apart v' i) := by
  rcases ho with ⟨rfl, rfl⟩ | ⟨hne, nm, rfl, hrow⟩
  · refine ⟨H, .sl 0 [] true, fun K => (zStep_valH rfl (app_none rfl hb)).trans rfl, .inl ⟨rfl, rfl⟩, fun i o h => ⟨h, fun b off n sz e => by cases e⟩⟩
  · have hpos : out.length ≠ 0 := fun h => hne (List.eq_nil_of_length_eq_zero h)
    refine ⟨H ++ [AO.row 3 (out.map iV) false], .own H.length 0 out.length 1, fun K => (zStep_newH rfl (append_firstG row32 rfl hb hrow (by simp) hpos (by omega))).trans rfl, .inr ⟨hne, H.length, rfl, get_last⟩, fun i o h => ⟨get_app h, fun b off n sz e => by cases e; exact Nat.ne_of_gt (len_of h)⟩⟩

/-- A row behind another one. -/
theorem catJ (call : CallTT) (id1 : Nat) (a b : O) (s1 : Option Nat) (H : Heap) (u v : AV) (o1 o2 : List Int) (fr : Bool) (L V : List AV) (ha : gO L V a = u) (hb : gO L V b = v) (hlen : o1.length + o2.length < 1000) (hu : OwnJ H u o1 false) (hv : OwnJ H v o2 fr) :
    ∃ H' v', (∀ K, (zStep E1 call ⟨.append 32 32 a b, .push, none, false, id1, s1⟩) K L V (rep H) = K (v' :: L) V (rep H')) ∧ OwnJ H' v' (o1 ++ o2) false ∧ (∀ i o, Apart u i → H[i]? = some o → H'[i]? = some o ∧ Apart v' i) := by
  rcases hv with ⟨rfl, rfl⟩ | ⟨hne, nm, rfl, hrow⟩
  · -- nothing is appended
    have h1 : E1.ty 32 = some ⟨.slice 3, 1, 24, [.sl 0 [] true]⟩ := rfl
    have h2 : E1.ty 3 = some ⟨.int .i64, 1, 8, [.int .i64 0]⟩ := rfl
    have he : ∀ x, gO L V a = x → (x = .sl 0 [] true ∨ ∃ nm off n sz, x = .own nm off n sz) → evalFA E1 L V H (.append 32 32 a b) = some (.val x, Acc.none) := by
      rintro x hx (rfl | ⟨nm, off, n, sz, rfl⟩)
      · exact app_none hx hb
      · simp [evalFA, h1, h2, appendA, appendA0, contentA, countA, hx, hb]
    refine ⟨H, u, fun K => (zStep_valH rfl (he u ha ?_)).trans rfl, by simpa using hu, fun i o ha h => ⟨h, ha⟩⟩
    rcases hu with ⟨_, e⟩ | ⟨_, nm, e, _⟩
    · exact .inl e
    · exact .inr ⟨_, _, _, _, e⟩
  · have hpos : o2.length ≠ 0 := fun h => hne (List.eq_nil_of_length_eq_zero h)
    rcases hu with ⟨rfl, rfl⟩ | ⟨hne1, nm1, rfl, hrow1⟩
    · refine ⟨H ++ [AO.row 3 (o2.map iV) false], .own H.length 0 o2.length 1, fun K => (zStep_newH rfl (append_firstG row32 ha hb hrow (by simp) hpos (by omega))).trans rfl, .inr ⟨by simpa using hne, H.length, rfl, get_last⟩, fun i o _ h => ⟨get_app h, fun b off n sz e => by cases e; exact Nat.ne_of_gt (len_of h)⟩⟩
    · refine ⟨H.set nm1 .dead ++ [AO.row 3 (o1.map iV ++ o2.map iV) false], .own H.length 0 (o1.length + o2.length) 1, fun K => (zStep_appH rfl (append_nextG (cs0 := o1.map iV) row32 ha hrow1 (by simp) hb hrow (by simp) hpos (by omega))).trans rfl, .inr ⟨by simp [hne], H.length, by simp, ?_⟩, fun i o ha2 h => ⟨get_app (get_set h (ha2 _ _ _ _ rfl)), fun b off n sz e => by cases e; exact Nat.ne_of_gt (len_of h)⟩⟩
      have := get_last (H := H.set nm1 .dead) (o := AO.row 3 (o1.map iV ++ o2.map iV) false)
      rw [List.length_set] at this
      rwa [List.map_append]

/-- One number as a row. -/
theorem oneJ (call : CallTT) (id1 : Nat) (b : O) (s1 : Option Nat) (H : Heap) (n : Int) (L V : List AV) (hb : gO L V b = iV n) :
    ∃ H' v', (∀ K, (zStep E1 call ⟨.buildSlice 32 1 [(0, b)], .push, none, false, id1, s1⟩) K L V (rep H) = K (v' :: L) V (rep H')) ∧ OwnJ H' v' [n] false ∧ (∀ i o, H[i]? = some o → H'[i]? = some o ∧ Apart v' i) :=
  ⟨H ++ [AO.row 3 [iV n] false], .own H.length 0 1 1, fun K => (zStep_newH rfl (buildOne row32 hb rfl z3 (by decide))).trans rfl, .inr ⟨by simp, H.length, rfl, get_last⟩, fun i o h => ⟨get_app h, fun b off n sz e => by cases e; exact Nat.ne_of_gt (len_of h)⟩⟩

/-- The cell of a row. -/
theorem cellJ {H : Heap} {v : AV} {out : List Int} {fr : Bool} (h : OwnJ H v out fr) {i : Nat} {n : Int} (hi : out[i]? = some n) {L V : List AV} {a b : O} (ha : gO L V a = v) (hb : gO L V b = iV i) (K : KB) :
    ∃ p, (zP (vIndexAddr 1 a b)) ((zL 1 false (.l 0)) K) L V (rep H) = K (iV n :: p :: L) V (rep H) := by
  have hlt := (List.getElem?_eq_some_iff.1 hi).1
  rcases h with ⟨rfl, rfl⟩ | ⟨hne, nm, rfl, hr⟩
  · simp at hi
  · refine ⟨.loc nm (0 + i * 1), ?_⟩
    refine (zP_v (vIndexAddr_own ha hb hlt)).trans ?_
    have hd : ((out.map iV).drop (0 + i * 1)) = iV n :: (out.drop (i + 1)).map iV := by rw [Nat.zero_add]; exact drop_iV hi
    refine (zL_v (wLoad_loc (off := 0 + i * 1) rfl hr (by simp; omega) (by rw [hd]; rfl))).trans ?_
    rfl

theorem flat_outV (w : List Int) : flat (outV w) = false := by rw [outV_eq]; rfl

theorem c33J {k : Nat} (hk : 420 ≤ k) (Y : YE) (H : Heap) (v : AV) (ns : List Int) (fr : Bool) (key : List Nat) (hv : OwnJ H v ns fr) (hns : ∀ n ∈ ns, I64 n) (hlen : ns.length < 50) (hkey : key.length ≤ 100) :
    ∃ nss a, CY (k + 1) Y (.func 33) [v, .str key] (rep H) = some (outV (walkK key ns), rep (markAll H nss), a) ∧ (nss = [] ∨ ∃ nm, nss = [nm] ∧ v = .own nm 0 ns.length 1 ∧ ns ≠ []) := by
  obtain ⟨fl, nss, hz, hcase⟩ := hv.fz
  obtain ⟨v', H', hb, ho⟩ := walk33 hk ns fl key hns hlen hkey
  obtain ⟨nss2, hz2⟩ := fz_own ho
  have hzl : fzL (fzG E1 (rep H).get fzDeep) [v, .str key] = some ([.sl ns.length (ns.map iV) fl, .str key], nss) := by
    simp only [fzL, hz, Option.bind_eq_bind, Option.bind_some]
    show some (_, nss ++ ([] ++ [])) = _
    simp
  have h := call_pure (E := E1) (GE := GE E1) (LZ := LZ E1) (Y := Y) (T := rep H) (f := 33) (zf := G33 E1) (args := [v, .str key]) (fargs := [.sl ns.length (ns.map iV) fl, .str key]) (ns := nss) (ns2 := nss2) rfl rfl hzl hb hz2
  rw [if_neg (by rw [flat_outV]; decide), rep_marks] at h
  exact ⟨nss, _, h, hcase⟩

theorem c35J {k : Nat} (hk : 421 ≤ k) (Y : YE) (H : Heap) (v : AV) (ns : List Int) (fr : Bool) (key : List Nat) (n : Int) (hv : OwnJ H v ns fr) (hns : ∀ n ∈ ns, I64 n) (hlen : ns.length < 50) (hkey : key.length ≤ 100) :
    ∃ f nss a, CY (k + 1) Y (.func 35) [v, .str key, iV n] (rep H) = some (.sl (keepN n (walkK key ns)).length ((keepN n (walkK key ns)).map iV) f, rep (markAll H nss), a) ∧ (nss = [] ∨ ∃ nm, nss = [nm] ∧ v = .own nm 0 ns.length 1 ∧ ns ≠ []) := by
  obtain ⟨j, rfl⟩ : ∃ j, k = j + 1 := ⟨k - 1, by omega⟩
  obtain ⟨fl, nss, hz, hcase⟩ := hv.fz
  obtain ⟨f, hb⟩ := keep35 (CY (j + 1)) [] (j + 1) (.sl ns.length (ns.map iV) fl) key n (walkK key ns) [] (c33 (by omega) [] _ ns fl key hns hlen hkey)
  have hzl : fzL (fzG E1 (rep H).get fzDeep) [v, .str key, iV n] = some ([.sl ns.length (ns.map iV) fl, .str key, iV n], nss) := by
    simp only [fzL, hz, Option.bind_eq_bind, Option.bind_some]
    show some (_, nss ++ ([] ++ ([] ++ []))) = _
    simp
  have h := call_pure (E := E1) (GE := GE E1) (LZ := LZ E1) (Y := Y) (T := rep H) (f := 35) (zf := G35 E1) (args := [v, .str key, iV n]) (fargs := [.sl ns.length (ns.map iV) fl, .str key, iV n]) (ns := nss) (ns2 := []) rfl rfl hzl hb rfl
  rw [if_neg (by simp [flat, flat1]), rep_marks] at h
  exact ⟨f, nss, _, h, hcase⟩

/-- A bit of a byte: some Bool. -/
theorem bit_some (b i : Nat) (T : TH) (p q : O) (V : List AV) (hp : ∀ L, gO L V p = iV i) (hq : ∀ L, gO L V q = .int .u8 (b : Int)) (hi : i < 8) :
    ∃ (c : Bool) (L : List AV), ∀ K : KB, (zP (vConv .u64 p)) ((zP (vBin E1 .shr 5 false false q (.l 0))) ((zP (vInt E1 (fGen .and) .and 5 false true (.l 0) (.k (.int .u8 1)))) ((zP (vInt E1 fEql .eql 5 false true (.l 0) (.k (.int .u8 1)))) K))) [] V T = K (.bool c :: L) V T := by
  have hw : IntKind.u64.wrap (i : Int) = i := u64_wrap (by omega)
  have hs : ∃ x : Int, binB E1 .shr 5 false false (.int .u8 (b : Int)) (.int .u64 (i : Int)) = some (.int .u8 x) := by
    refine ⟨(b : Int).fdiv (2 ^ (min (i : Int).toNat IntKind.u8.bits)), ?_⟩
    simp only [binB, binB0]
    rw [if_neg (by omega)]
  obtain ⟨x, hx⟩ := hs
  have ha : ∃ y : Int, intBin .and .u8 x 1 = some (.int .u8 y) := ⟨_, rfl⟩
  obtain ⟨y, hy⟩ := ha
  refine ⟨y == 1, [.int .u8 y, .int .u8 x, .int .u64 i], fun K => ?_⟩
  refine (zP_v (vConv_eq (hp _))).trans ?_
  rw [hw]
  refine (zP_v (vBin_eq (hq _) rfl hx)).trans ?_
  refine (zP_v (vInt_eq (fGen_ok (by simp) (by simp)) rfl rfl hy)).trans ?_
  exact zP_v (vInt_eq fEql_ok rfl rfl rfl)
end Go.Proofs.PxR2
