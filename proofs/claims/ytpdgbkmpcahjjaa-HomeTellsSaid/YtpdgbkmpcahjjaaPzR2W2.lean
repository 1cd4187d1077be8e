/- The way round the ring: the inner loop's round, the loop over the marks. -/
import Derived.Test.YtpdgbkmpcahjjaaPzR2W1
set_option linter.unusedVariables false
set_option linter.unusedSimpArgs false
set_option maxRecDepth 100000
namespace Go.Px
open Go
section
variable {L V : List AV} {T : TH} {K : KB}
theorem zG_hit {g : O} {want : Bool} {d : FD} {i : KB → KB} (h : gO L V g = .bool want) : zG g want d i K L V T = i K L V T := by
  simp only [zG, gZ_eq, h, grdZ_eq]
  cases want <;> rfl
theorem zG_miss {g : O} {want : Bool} {d : FD} {i : KB → KB} (h : gO L V g = .bool (!want)) : zG g want d i K L V T = K (putFL d (.tup []) L) (putFV d (.tup []) V) T := by
  simp only [zG, gZ_eq, h, grdZ_eq, putZ_eq]
  cases want <;> rfl
end
end Go.Px
namespace Go.Proofs.PxR2
open Go Go.Px Go.Proofs
theorem find_seen (n : Int) : ∀ (l : List Int) (i : Nat), (n ∉ l → findA (.int .i64) (iV n) (seenE l) i = some none) ∧ (n ∈ l → ∃ j, findA (.int .i64) (iV n) (seenE l) i = some (some (i + j, .bool true)) ∧ (seenE l)[j]? = some (iV n, .bool true))
  | [], i => ⟨fun _ => rfl, fun h => by cases h⟩
  | m :: l, i => by
    obtain ⟨h1, h2⟩ := find_seen n l (i + 1)
    have e : findA (.int .i64) (iV n) (seenE (m :: l)) i = if n = m then some (some (i, .bool true)) else findA (.int .i64) (iV n) (seenE l) (i + 1) := by
      show (match (if IntKind.i64 = IntKind.i64 then some (n == m) else none) with
        | some true => some (some (i, AV.bool true))
        | some false => findA (.int .i64) (iV n) (seenE l) (i + 1)
        | none => none) = _
      by_cases h : n = m
      · subst h; simp
      · have hb : (n == m) = false := by simpa using h
        rw [hb, if_neg h]; rfl
    rw [e]
    constructor
    · intro h
      simp at h
      rw [if_neg h.1]; exact h1 h.2
    · intro h
      by_cases hm : n = m
      · subst hm
        rw [if_pos rfl]
        exact ⟨0, rfl, rfl⟩
      · rw [if_neg hm]
        obtain ⟨j, a, b⟩ := h2 (by simpa [hm] using h)
        exact ⟨j + 1, by rw [a]; congr 3; omega, b⟩
theorem look100 {L V : List AV} {H : Heap} {a b : O} {seen : List Int} {bs : List Nat} {ck : Nat} {n : Int} (ha : gO L V a = .map 3) (hb : gO L V b = iV n) (h3 : H[3]? = some (.map 3 4 (seenE seen) bs ck)) :
    evalFA E1 L V H (.lookup 100 a b false) = some (.val (.bool (decide (n ∈ seen))), Acc.read 3) := by
  have h1 : E1.ty 100 = some ⟨.map 3 4, 1, 8, [.nilmap]⟩ := rfl
  have h2 : E1.ty 3 = some ⟨.int .i64, 1, 8, [.int .i64 0]⟩ := rfl
  have h4 : E1.ty 4 = some ⟨.bool, 1, 1, [.bool false]⟩ := rfl
  obtain ⟨f1, f2⟩ := find_seen n seen 0
  by_cases h : n ∈ seen
  · obtain ⟨j, e, _⟩ := f2 h
    simp [evalFA, lookupA, h1, h2, h4, ha, hb, h3, e, simpleKey, h]
  · simp [evalFA, lookupA, h1, h2, h4, ha, hb, h3, f1 h, simpleKey, h, mkV, TD.isAgg]
theorem set_same {α : Type} {l : List α} {j : Nat} {x : α} (h : l[j]? = some x) : l.set j x = l := by
  apply List.ext_getElem?
  intro i
  by_cases hi : i = j
  · subst hi
    rw [List.getElem?_set_self (List.getElem?_eq_some_iff.1 h).1, h]
  · rw [List.getElem?_set_ne (Ne.symm hi)]
theorem up100 {L V : List AV} {H : Heap} {a b : O} {seen : List Int} {bs : List Nat} {ck : Nat} {n : Int} (ha : gO L V a = .map 3) (hb : gO L V b = iV n) (h3 : H[3]? = some (.map 3 4 (seenE seen) bs ck)) :
    ∃ bs' ck', evalFA E1 L V H (.mapUp 100 a b (.k (.bool true))) = some (.put 3 (.map 3 4 (seenE (if n ∈ seen then seen else seen ++ [n])) bs' ck') (.tup []), ⟨[], [3], false⟩) := by
  have h1 : E1.ty 100 = some ⟨.map 3 4, 1, 8, [.nilmap]⟩ := rfl
  have h2 : E1.ty 3 = some ⟨.int .i64, 1, 8, [.int .i64 0]⟩ := rfl
  have gk : gO L V (.k (.bool true)) = .bool true := rfl
  obtain ⟨f1, f2⟩ := find_seen n seen 0
  by_cases h : n ∈ seen
  · obtain ⟨j, e, hj⟩ := f2 h
    refine ⟨bs, ck, ?_⟩
    rw [if_pos h]
    have hs := set_same hj
    simp [evalFA, updateA, h1, h2, ha, hb, h3, e, simpleKey, gk, hs]
  · refine ⟨bs ++ [ck], ck + 1, ?_⟩
    rw [if_neg h]
    have es : seenE (seen ++ [n]) = seenE seen ++ [(iV n, .bool true)] := by simp [seenE]
    rw [es]
    simp [evalFA, updateA, h1, h2, ha, hb, h3, f1 h, simpleKey, gk]
def metS (out : List Int) (n : Int) : List Int := if n ∈ out then out else out ++ [n]
theorem round5 (k : Nat) (Y : YE) (hY1 : YE.at Y 1 = some ⟨1, 0, [.undef, .loc 0 0, .undef]⟩) (hY5 : YE.at Y 5 = some ⟨5, 1, [.undef, .loc 4 0, .undef, .loc 2 0]⟩) (H : Heap) (out : List Int) (n : Int) (hlen : out.length < 1000) (W : WS H .ready .ready out out) :
    ∃ H' a, CY (k + 2) Y (.yield 5) [iV n] (rep H) = some (.bool true, rep H', a) ∧ WS H' .ready .ready (metS out n) (metS out n) := by
  obtain ⟨tm5, ps5, ca5, cb5, h5⟩ := W.h5
  obtain ⟨Hb, eHb⟩ : ∃ Hb, Hb = H.set 5 (AO.loop .busy none tm5 ps5 ca5 cb5) := ⟨_, rfl⟩
  have Wb : WS Hb .ready .busy out out := by
    rw [eHb]
    obtain ⟨v, h0, ho⟩ := W.h0
    obtain ⟨tm, ps, ca, cb, h1⟩ := W.h1
    obtain ⟨bs, ck, h3⟩ := W.h3
    refine ⟨⟨v, get_set h0 (by decide), ?_⟩, ⟨tm, ps, ca, cb, get_set h1 (by decide)⟩, get_set W.h2 (by decide), ⟨bs, ck, get_set h3 (by decide)⟩, get_set W.h4 (by decide), ⟨tm5, ps5, ca5, cb5, get_self h5⟩⟩
    rcases ho with ho | ⟨hne, nm, hnm, e, hr⟩
    · exact .inl ho
    · exact .inr ⟨hne, nm, hnm, e, get_set hr (by omega)⟩
  have body : ∃ H2 L', (∀ kn kx kr, (M1 E1).body (CY (k + 1)) Y (k + 1) kn kx kr [] [iV n, .loc 4 0, iV n, .loc 2 0] (rep Hb) = kn L' [iV n, .loc 4 0, iV n, .loc 2 0] (rep H2)) ∧ WS H2 .ready .busy (metS out n) (metS out n) := by
    obtain ⟨bs, ck, h3⟩ := Wb.h3
    by_cases hm : n ∈ out
    · obtain ⟨bs', ck', eu⟩ := up100 (L := [.map 3]) (V := [iV n, .loc 4 0, iV n, .loc 2 0]) (a := .l 0) (b := .v 2) rfl rfl h3
      rw [if_pos hm] at eu
      refine ⟨Hb.set 3 (.map 3 4 (seenE out) bs' ck'), [.map 3], fun kn kx kr => ?_, ?_⟩
      · unfold M1
        dsimp only
        refine zBlock_app.trans ?_
        refine zSeq_app.trans ?_
        refine zSeq_app.trans ?_
        refine zReg_eq.trans ?_
        refine (zL_v (wLoad_loc (nm := 4) (off := 0) rfl Wb.h4 (by simp) rfl)).trans ?_
        refine (zStep_valH rfl (look100 rfl rfl h3)).trans ?_
        rw [show decide (n ∈ out) = true by simp [hm]]
        refine (zP_v (vNot_eq (b := true) rfl)).trans ?_
        refine (zG_miss rfl).trans ?_
        refine (zG_miss rfl).trans ?_
        refine (zG_miss rfl).trans ?_
        refine (zG_miss rfl).trans ?_
        refine (zP_v (vPick_eq (q := false) rfl)).trans ?_
        refine (zCond_eq (p := false) rfl).trans ?_
        rw [if_neg (by decide)]
        refine zSkip_app.trans ?_
        refine zReg_eq.trans ?_
        refine (zL_v (wLoad_loc (nm := 4) (off := 0) rfl Wb.h4 (by simp) rfl)).trans ?_
        exact zStep_putH rfl eu
      · unfold metS
        rw [if_pos hm]
        obtain ⟨v, h0, ho⟩ := Wb.h0
        obtain ⟨tm, ps, ca, cb, h1⟩ := Wb.h1
        obtain ⟨tm5, ps5, ca5, cb5, h5⟩ := Wb.h5
        refine ⟨⟨v, get_set h0 (by decide), ?_⟩, ⟨tm, ps, ca, cb, get_set h1 (by decide)⟩, get_set Wb.h2 (by decide), ⟨bs', ck', get_self h3⟩, get_set Wb.h4 (by decide), ⟨tm5, ps5, ca5, cb5, get_set h5 (by decide)⟩⟩
        rcases ho with ho | ⟨hne, nm, hnm, e, hr⟩
        · exact .inl ho
        · exact .inr ⟨hne, nm, hnm, e, get_set hr (by omega)⟩
    · obtain ⟨H1, ac, hc, W1⟩ := round1 k Y hY1 Hb .busy out out n hlen Wb
      obtain ⟨bs1, ck1, h31⟩ := W1.h3
      obtain ⟨bs', ck', eu⟩ := up100 (L := [.map 3]) (V := [iV n, .loc 4 0, iV n, .loc 2 0]) (a := .l 0) (b := .v 2) rfl rfl h31
      rw [if_neg hm] at eu
      refine ⟨H1.set 3 (.map 3 4 (seenE (out ++ [n])) bs' ck'), [.map 3], fun kn kx kr => ?_, ?_⟩
      · unfold M1
        dsimp only
        refine zBlock_app.trans ?_
        refine zSeq_app.trans ?_
        refine zSeq_app.trans ?_
        refine zReg_eq.trans ?_
        refine (zL_v (wLoad_loc (nm := 4) (off := 0) rfl Wb.h4 (by simp) rfl)).trans ?_
        refine (zStep_valH rfl (look100 rfl rfl h3)).trans ?_
        rw [show decide (n ∈ out) = false by simp [hm]]
        refine (zP_v (vNot_eq (b := false) rfl)).trans ?_
        refine (zG_hit rfl).trans ?_
        refine (zL_v (wLoad_loc (nm := 2) (off := 0) rfl Wb.h2 (by simp) rfl)).trans ?_
        refine (zG_hit rfl).trans ?_
        refine (zP_v vMv_eq).trans ?_
        refine (zG_hit rfl).trans ?_
        refine (zStep_yield rfl rfl hc).trans ?_
        refine (zG_hit rfl).trans ?_
        refine (zP_v (vNot_eq (b := true) rfl)).trans ?_
        refine (zP_v (vPick_eq (q := true) rfl)).trans ?_
        refine (zCond_eq (p := false) rfl).trans ?_
        rw [if_neg (by decide)]
        refine zSkip_app.trans ?_
        refine zReg_eq.trans ?_
        refine (zL_v (wLoad_loc (nm := 4) (off := 0) rfl W1.h4 (by simp) rfl)).trans ?_
        exact zStep_putH rfl eu
      · unfold metS
        rw [if_neg hm]
        obtain ⟨v, h0, ho⟩ := W1.h0
        obtain ⟨tm, ps, ca, cb, h1⟩ := W1.h1
        obtain ⟨tm5, ps5, ca5, cb5, h5⟩ := W1.h5
        refine ⟨⟨v, get_set h0 (by decide), ?_⟩, ⟨tm, ps, ca, cb, get_set h1 (by decide)⟩, get_set W1.h2 (by decide), ⟨bs', ck', get_self h31⟩, get_set W1.h4 (by decide), ⟨tm5, ps5, ca5, cb5, get_set h5 (by decide)⟩⟩
        rcases ho with ho | ⟨hne, nm, hnm, e, hr⟩
        · exact .inl ho
        · exact .inr ⟨hne, nm, hnm, e, get_set hr (by omega)⟩
  obtain ⟨H2, L', hb, W2⟩ := body
  obtain ⟨tm6, ps6, ca6, cb6, h6⟩ := W2.h5
  obtain ⟨acc, hr⟩ := round_eq (cy := CY (k + 1)) (Y := Y) (k := k + 1) (l := 5) (zl := M1 E1) (V := [.undef, .loc 4 0, .undef, .loc 2 0]) (args := [iV n]) (H1 := H) (H2 := H2) (V1 := [iV n, .loc 4 0, iV n, .loc 2 0]) h5 rfl (fun kn kx kr => ⟨[], by
      unfold M1
      dsimp only
      refine zReg_eq.trans ?_
      exact zV_v vMv_eq⟩) h5 (fun kn kx kr => ⟨L', [iV n, .loc 4 0, iV n, .loc 2 0], by rw [← eHb]; exact hb kn kx kr⟩) h6
  obtain ⟨a, h⟩ := call_round (E := E1) (GE := GE E1) (LZ := LZ E1) (zl := M1 E1) hY5 rfl ⟨acc, hr⟩
  refine ⟨_, a, h, ?_⟩
  obtain ⟨v, h0, ho⟩ := W2.h0
  obtain ⟨tm, ps, ca, cb, h1⟩ := W2.h1
  obtain ⟨bs, ck, h3⟩ := W2.h3
  refine ⟨⟨v, get_set h0 (by decide), ?_⟩, ⟨tm, ps, ca, cb, get_set h1 (by decide)⟩, get_set W2.h2 (by decide), ⟨bs, ck, get_set h3 (by decide)⟩, get_set W2.h4 (by decide), ⟨tm6, ps6, ca6, cb6, get_self h6⟩⟩
  rcases ho with ho | ⟨hne, nm, hnm, e, hr⟩
  · exact .inl ho
  · exact .inr ⟨hne, nm, hnm, e, get_set hr (by omega)⟩
end Go.Proofs.PxR2
