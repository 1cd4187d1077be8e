/- The base of the views' texts (picked out of the ring's by pick.py). -/
import Derived.Test.YtpdgbkmpcahjjaaPb4
import Derived.Test.YtpdgbkmpcahjjaaPzV2G
import Derived.Test.YtpdgbkmpcahjjaaPxV2E
set_option linter.unusedVariables false
set_option linter.unusedSimpArgs false
set_option maxRecDepth 100000
namespace Go.Proofs.PxV2
open Go Go.Px Go.Proofs
theorem u64_wrap {n : Nat} (h : n < 18446744073709551616) : IntKind.u64.wrap (n : Int) = n := by simp [IntKind.wrap, IntKind.bits, IntKind.signed]; omega
noncomputable abbrev CY (k : Nat) : CallYT := callZ E1 (GE E1) (LZ E1) k
def I64 (n : Int) : Prop := -9223372036854775808 ≤ n ∧ n < 9223372036854775808
def iV (n : Int) : AV := .int .i64 n
theorem row32 : RowT E1 32 3 1 8 := ⟨⟨_, rfl, rfl⟩, ⟨_, rfl, rfl, rfl⟩, by decide, by decide⟩
theorem z3 : ∃ ie, E1.ty 3 = some ie ∧ ie.zero.length = 1 := ⟨_, rfl, rfl⟩
theorem len_of {H : Heap} {i : Nat} {o : AO} (h : H[i]? = some o) : i < H.length := (List.getElem?_eq_some_iff.1 h).1
theorem get_app {H X : Heap} {i : Nat} {o : AO} (h : H[i]? = some o) : (H ++ X)[i]? = some o := by rw [List.getElem?_append_left (len_of h)]; exact h
theorem get_set {H : Heap} {i j : Nat} {o o' : AO} (h : H[i]? = some o) (hj : j ≠ i) : (H.set j o')[i]? = some o := by rw [List.getElem?_set_ne hj]; exact h
theorem get_self {H : Heap} {i : Nat} {o o' : AO} (h : H[i]? = some o) : (H.set i o')[i]? = some o' := List.getElem?_set_self (len_of h)
theorem get_last {H : Heap} {o : AO} : (H ++ [o])[H.length]? = some o := by simp
end Go.Proofs.PxV2
namespace Go.Px
open Go
section
variable {L V : List AV} {T : TH} {K : KB}
theorem zG_hit {g : O} {want : Bool} {d : FD} {i : KB → KB} (h : gO L V g = .bool want) : zG g want d i K L V T = i K L V T := by
 simp only [zG, gZ_eq, h, grdZ_eq]
 cases want <;> rfl
theorem zG_miss {g : O} {want : Bool} {d : FD} {i : KB → KB} (h : gO L V g = .bool (!want)) : zG g want d i K L V T = K (putFL d (.tup []) L) (putFV d (.tup []) V) T := by
 simp only [zG, gZ_eq, h, grdZ_eq, putZ_eq]
 cases want <;> rfl
theorem zG_skip {g : O} {want : Bool} {d : FD} {i : KB → KB} {l : List AV} (h : gO L V g = .tup l) : zG g want d i K L V T = K (putFL d (.tup []) L) (putFV d (.tup []) V) T := by
 simp only [zG, gZ_eq, h, grdZ_eq, putZ_eq]
end
end Go.Px
namespace Go.Proofs.PxV2
open Go Go.Px Go.Proofs
theorem set_app_last {H : Heap} {o o' : AO} : (H ++ [o]).set H.length o' = H ++ [o'] := by
 rw [List.set_append_right _ _ (Nat.le_refl _)]; simp
theorem lss_nat {i n : Nat} {k : IntKind} (t : Nat) (E : Env) : intBin .lss k (i : Int) (n : Int) = some (.bool (decide (i < n))) := by
 simp [intBin]
def outV (out : List Int) : AV := if out = [] then .sl 0 [] true else .sl out.length (out.map iV) false
theorem fzL_ints (g : Nat → Option AO) (k : Nat) : ∀ (l : List Int), fzL (fzG E1 g (k + 1)) (l.map iV) = some (l.map iV, [])
 | [] => rfl
 | n :: l => by
  have ih := fzL_ints g k l
  simp only [List.map_cons, fzL, Option.bind_eq_bind, ih]
  rfl
theorem fzG_own {E : Env} {g : Nat → Option AO} {k nm n sz e : Nat} {cs : List AV} {fr : Bool} (h : g nm = some (.row e cs fr)) (hl : cs.length = n * sz) (hc : fzL (fzG E g k) cs = some (cs, [])) : fzG E g (k + 1) (.own nm 0 n sz) = some (.sl n cs false, [nm]) := by
 have ht : cs.take (n * sz) = cs := List.take_of_length_le (by omega)
 simp [fzG, h, hl, hc, ht]
theorem drop_iV {l : List Int} {i : Nat} {n : Int} (h : l[i]? = some n) : (l.map iV).drop (i * 1) = iV n :: (l.drop (i + 1)).map iV := by
 have hlt := (List.getElem?_eq_some_iff.1 h).1
 rw [Nat.mul_one, ← List.map_drop, List.drop_eq_getElem_cons hlt, (List.getElem?_eq_some_iff.1 h).2]; rfl
theorem drop_at {α : Type} {l : List α} {i : Nat} {n : α} (h : l[i]? = some n) : l.drop i = n :: l.drop (i + 1) := by
 have hlt := (List.getElem?_eq_some_iff.1 h).1
 rw [List.drop_eq_getElem_cons hlt, (List.getElem?_eq_some_iff.1 h).2]
noncomputable def body19 : CZ := xbody19 E1 (fun _ _ _ => none)
theorem zDreg0 {f : Nat → SPK → SPK} {kn : KB} {kx : Nat → KB} {kr : KB} {L V : List AV} {T : TH} : zDreg 0 f kn kx kr L V T = f T.n (fun _ => kn) [] [] V T := by
 simp only [zDreg, lenT_eq, deadsT_eq]; rfl
theorem loop19 (l m : List Int) (f g : Bool) (r0 : AV) (T : TH) (hlm : l.length = m.length) (hlen : l.length < 1000000) :
  ∀ (d i q : Nat) (L : List AV), i + d = l.length → d < q →
  (l.drop i = m.drop i → ∃ L' i', ∀ kn kx kr, zLoop q body19 kn kx kr L [.sl l.length (l.map iV) f, .sl m.length (m.map iV) g, iV i, r0] T = kx 0 L' [.sl l.length (l.map iV) f, .sl m.length (m.map iV) g, i', r0] T) ∧
  (l.drop i ≠ m.drop i → ∃ L' i', ∀ kn kx kr, zLoop q body19 kn kx kr L [.sl l.length (l.map iV) f, .sl m.length (m.map iV) g, iV i, r0] T = kr L' [.sl l.length (l.map iV) f, .sl m.length (m.map iV) g, i', .bool false] T)
 | 0, i, q, L, hi, hq => by
  obtain ⟨q', rfl⟩ : ∃ q', q = q' + 1 := ⟨q - 1, by omega⟩
  have hil : i = l.length := by omega
  subst hil
  refine ⟨fun _ => ⟨[.bool false, .int .i64 l.length], iV l.length, fun kn kx kr => ?_⟩, fun h => absurd (by rw [List.drop_length, hlm, List.drop_length]) h⟩
  rw [zLoop_succ]
  unfold body19 xbody19
  refine zqA <| zqR <| (zP_v (vLenL_sl rfl)).trans <| (zP_v (vInt_eq fLss_ok rfl rfl (lss_nat 0 E1))).trans ?_
  rw [show decide (l.length < l.length) = false by simp]
  refine (zCond_eq (p := false) rfl).trans ?_
  rw [if_neg (by decide)]
  exact zExit_app
 | d + 1, i, q, L, hi, hq => by
  obtain ⟨q', rfl⟩ : ∃ q', q = q' + 1 := ⟨q - 1, by omega⟩
  have hlt : i < l.length := by omega
  have hlt2 : i < m.length := by omega
  obtain ⟨x, hs⟩ : ∃ m, l[i]? = some m := ⟨l[i], by simp [hlt]⟩
  obtain ⟨y, ht⟩ : ∃ y, m[i]? = some y := ⟨m[i], by simp [hlt2]⟩
  have hw : IntKind.i64.wrap ((i : Int) + 1) = ((i + 1 : Nat) : Int) := by rw [IntKind.wrap_i64]; omega
  obtain ⟨ih1, ih2⟩ := loop19 l m f g r0 T hlm hlen d (i + 1) q' [.int .i64 ((i + 1 : Nat) : Int), iV i] (by omega) (by omega)
  have front : ∃ L9, ∀ kn kx kr, zLoop (q' + 1) body19 kn kx kr L [.sl l.length (l.map iV) f, .sl m.length (m.map iV) g, iV i, r0] T = if (x != y) = true then kr L9 [.sl l.length (l.map iV) f, .sl m.length (m.map iV) g, iV i, .bool false] T else zLoop q' body19 kn kx kr [.int .i64 ((i + 1 : Nat) : Int), iV i] [.sl l.length (l.map iV) f, .sl m.length (m.map iV) g, iV (i + 1 : Nat), r0] T := by
   refine ⟨[], fun kn kx kr => ?_⟩
   rw [zLoop_succ]
   conv => lhs; unfold body19 xbody19
   refine zqA <| zqR <| (zP_v (vLenL_sl rfl)).trans <| (zP_v (vInt_eq fLss_ok rfl rfl (lss_nat 0 E1))).trans ?_
   rw [show decide (i < l.length) = true by simp [hlt]]
   refine (zCond_eq (p := true) rfl).trans ?_
   rw [if_pos rfl]
   refine zqK <| zqA <| zBlock_app.trans <| zqA <| zDreg0.trans <| (zPD_v (vIndexAddr_sl rfl rfl hlt (by simpa using hlt))).trans ?_
   rw [drop_iV hs]
   refine (zLD_idle (wLoad_ref rfl (by simp) rfl) rfl).trans <| (zPD_v (vIndexAddr_sl rfl rfl hlt2 (by simpa using hlt2))).trans ?_
   rw [drop_iV ht]
   refine (zLD_idle (wLoad_ref rfl (by simp) rfl) rfl).trans <| (zPD_v (vInt_eq fNeq_ok rfl rfl rfl)).trans <| (zCond_eq rfl).trans ?_
   by_cases hb : (x != y) = true
   ·rw [if_pos hb, if_pos hb]
    refine zqR <| zqV ?_
    exact zRet_app
   ·rw [if_neg hb, if_neg hb]
    refine zqK <| zReg_eq.trans <| (zP_v vMv_eq).trans <| (zP_v (vInt_eq fAdd_ok rfl rfl rfl)).trans ?_
    rw [hw]
    refine zqV ?_
    rfl
  obtain ⟨L9, front⟩ := front
  rw [drop_at hs, drop_at ht]
  by_cases hb : (x != y) = true
  ·have hxy : x ≠ y := by simpa using hb
   exact ⟨fun h => absurd (List.cons.inj h).1 hxy, fun _ => ⟨_, _, fun kn kx kr => by rw [front, if_pos hb]⟩⟩
  ·have hxy : x = y := by simpa using hb
   refine ⟨fun h => ?_, fun h => ?_⟩
   ·obtain ⟨L', i', e⟩ := ih1 (List.cons.inj h).2
    exact ⟨L', i', fun kn kx kr => by rw [front, if_neg hb]; exact e kn kx kr⟩
   ·obtain ⟨L', i', e⟩ := ih2 (fun h2 => h (by rw [hxy, h2]))
    exact ⟨L', i', fun kn kx kr => by rw [front, if_neg hb]; exact e kn kx kr⟩
theorem same19 (cy : CallYT) (Y : YE) (k : Nat) (l m : List Int) (f g : Bool) (T : TH) (hk : l.length < k) (hlen : l.length < 1000000) :
  bodyZ E1 cy Y k (G19 E1) [.sl l.length (l.map iV) f, .sl m.length (m.map iV) g] T = some (.bool (decide (l = m)), T) := by
 have e0 : ∀ q, bodyZ E1 cy Y q (G19 E1) [.sl l.length (l.map iV) f, .sl m.length (m.map iV) g] T = (G19 E1).z cy Y q (finZ E1 [.tmp (.v 3)]) (fun _ _ _ _ => none) (finZ E1 [.tmp (.v 3)]) [] [.sl l.length (l.map iV) f, .sl m.length (m.map iV) g, .undef, .undef] T := by intro q; kernel_rfl
 refine (e0 _).trans ?_
 unfold G19
 dsimp only
 refine zqR <| zqV <| zqA <| zqA <| zqR <| (zP_v (vLenL_sl rfl)).trans <| (zP_v (vLenL_sl rfl)).trans <| (zP_v (vInt_eq fNeq_ok rfl rfl rfl)).trans <| (zCond_eq rfl).trans ?_
 by_cases hlm : l.length = m.length
 ·rw [if_neg (by simp [hlm])]
  refine zqK <| zqA <| zqA <| zReg_eq.trans <| zqV <| zBlock_app.trans ?_
  obtain ⟨h1, h2⟩ := loop19 l m f g (.bool false) T hlm hlen l.length 0 k [] (by omega) hk
  by_cases hn : l = m
  ·obtain ⟨L', i', e⟩ := h1 (by simpa using hn)
   refine (e _ _ _).trans ?_
   rw [show decide (l = m) = true by simp [hn]]
   rfl
  ·obtain ⟨L', i', e⟩ := h2 (by simpa using hn)
   refine (e _ _ _).trans ?_
   rw [show decide (l = m) = false by simp [hn]]
   rfl
 ·rw [if_pos (by simp; omega)]
  refine zqR <| zqV <| zRet_app.trans ?_
  rw [show decide (l = m) = false by simp; exact fun e => hlm (by rw [e])]
  rfl
theorem flat_sl2 (n : Nat) (cs : List AV) (f : Bool) (n2 : Nat) (cs2 : List AV) (f2 : Bool) (g : Nat → Option AO) : fzL (fzG E1 g fzDeep) [.sl n cs f, .sl n2 cs2 f2] = some ([.sl n cs f, .sl n2 cs2 f2], []) := rfl
theorem c19 {k : Nat} (Y : YE) (T : TH) (l m : List Int) (f g : Bool) (hk : l.length < k) (hl : l.length < 1000000) : CY (k + 1) Y (.func 19) [.sl l.length (l.map iV) f, .sl m.length (m.map iV) g] T = some (.bool (decide (l = m)), T, ⟨[], [], false⟩) :=
 call_flat (zf := G19 E1) rfl rfl (flat_sl2 _ _ _ _ _ _) (same19 _ _ _ l m f g _ hk hl) (fun _ => rfl) rfl
theorem outV_eq (w : List Int) : outV w = .sl w.length (w.map iV) w.isEmpty := by
 unfold outV
 cases w <;> simp
def isTrueT (x : Ans) : Bool := match x with
 | some (.bool true, _) => true
 | _ => false
theorem isTrueT_ok {x : Ans} (h : isTrueT x = true) : ∃ T, x = some (.bool true, T) := by
 unfold isTrueT at h
 split at h
 ·exact ⟨_, rfl⟩
 ·cases h
def OwnJ (H : Heap) (v : AV) (out : List Int) (fr : Bool) : Prop := (out = [] ∧ v = .sl 0 [] true) ∨ (out ≠ [] ∧ ∃ nm, v = .own nm 0 out.length 1 ∧ H[nm]? = some (.row 3 (out.map iV) fr))
def Apart (v : AV) (nm : Nat) : Prop := ∀ b off n sz, v = .own b off n sz → b ≠ nm
theorem OwnJ.app {H : Heap} {v : AV} {out : List Int} {fr : Bool} (h : OwnJ H v out fr) (X : Heap) : OwnJ (H ++ X) v out fr := by
 rcases h with h | ⟨hne, nm, e, hr⟩
 ·exact .inl h
 ·exact .inr ⟨hne, nm, e, get_app hr⟩
theorem OwnJ.set {H : Heap} {v : AV} {out : List Int} {fr : Bool} (h : OwnJ H v out fr) {nm : Nat} {o : AO} (ha : Apart v nm) : OwnJ (H.set nm o) v out fr := by
 rcases h with h | ⟨hne, nm', e, hr⟩
 ·exact .inl h
 ·exact .inr ⟨hne, nm', e, get_set hr (fun e2 => ha _ _ _ _ e e2.symm)⟩
theorem app_none {L V : List AV} {H : Heap} {a b : O} (ha : gO L V a = .sl 0 [] true) (hb : gO L V b = .sl 0 [] true) : evalFA E1 L V H (.append 32 32 a b) = some (.val (.sl 0 [] true), Acc.none) := by
 have h1 : E1.ty 32 = some ⟨.slice 3, 1, 24, [.sl 0 [] true]⟩ := rfl
 have h2 : E1.ty 3 = some ⟨.int .i64, 1, 8, [.int .i64 0]⟩ := rfl
 simp [evalFA, h1, h2, appendA, appendA0, contentA, countA, ha, hb]
theorem catJ (call : CallTT) (id1 : Nat) (a b : O) (s1 : Option Nat) (H : Heap) (u v : AV) (o1 o2 : List Int) (fr : Bool) (L V : List AV) (ha : gO L V a = u) (hb : gO L V b = v) (hlen : o1.length + o2.length < 1000) (hu : OwnJ H u o1 false) (hv : OwnJ H v o2 fr) :
  ∃ H' v', (∀ K, (zStep E1 call ⟨.append 32 32 a b, .push, none, false, id1, s1⟩) K L V (rep H) = K (v' :: L) V (rep H')) ∧ OwnJ H' v' (o1 ++ o2) false ∧ (∀ i o, Apart u i → H[i]? = some o → H'[i]? = some o ∧ Apart v' i) := by
 rcases hv with ⟨rfl, rfl⟩ | ⟨hne, nm, rfl, hrow⟩
 ·-- nothing is appended
  have h1 : E1.ty 32 = some ⟨.slice 3, 1, 24, [.sl 0 [] true]⟩ := rfl
  have h2 : E1.ty 3 = some ⟨.int .i64, 1, 8, [.int .i64 0]⟩ := rfl
  have he : ∀ x, gO L V a = x → (x = .sl 0 [] true ∨ ∃ nm off n sz, x = .own nm off n sz) → evalFA E1 L V H (.append 32 32 a b) = some (.val x, Acc.none) := by
   rintro x hx (rfl | ⟨nm, off, n, sz, rfl⟩)
   ·exact app_none hx hb
   ·simp [evalFA, h1, h2, appendA, appendA0, contentA, countA, hx, hb]
  refine ⟨H, u, fun K => (zStep_valH rfl (he u ha ?_)).trans rfl, by simpa using hu, fun i o ha h => ⟨h, ha⟩⟩
  rcases hu with ⟨_, e⟩ | ⟨_, nm, e, _⟩
  ·exact .inl e
  ·exact .inr ⟨_, _, _, _, e⟩
 ·have hpos : o2.length ≠ 0 := fun h => hne (List.eq_nil_of_length_eq_zero h)
  rcases hu with ⟨rfl, rfl⟩ | ⟨hne1, nm1, rfl, hrow1⟩
  ·refine ⟨H ++ [AO.row 3 (o2.map iV) false], .own H.length 0 o2.length 1, fun K => (zStep_newH rfl (append_firstG row32 ha hb hrow (by simp) hpos (by omega))).trans rfl, .inr ⟨by simpa using hne, H.length, rfl, get_last⟩, fun i o _ h => ⟨get_app h, fun b off n sz e => by cases e; exact Nat.ne_of_gt (len_of h)⟩⟩
  ·refine ⟨H.set nm1 .dead ++ [AO.row 3 (o1.map iV ++ o2.map iV) false], .own H.length 0 (o1.length + o2.length) 1, fun K => (zStep_appH rfl (append_nextG (cs0 := o1.map iV) row32 ha hrow1 (by simp) hb hrow (by simp) hpos (by omega))).trans rfl, .inr ⟨by simp [hne], H.length, by simp, ?_⟩, fun i o ha2 h => ⟨get_app (get_set h (ha2 _ _ _ _ rfl)), fun b off n sz e => by cases e; exact Nat.ne_of_gt (len_of h)⟩⟩
   have := get_last (H := H.set nm1 .dead) (o := AO.row 3 (o1.map iV ++ o2.map iV) false)
   rw [List.length_set] at this
   rwa [List.map_append]
theorem oneJ (call : CallTT) (id1 : Nat) (b : O) (s1 : Option Nat) (H : Heap) (n : Int) (L V : List AV) (hb : gO L V b = iV n) :
  ∃ H' v', (∀ K, (zStep E1 call ⟨.buildSlice 32 1 [(0, b)], .push, none, false, id1, s1⟩) K L V (rep H) = K (v' :: L) V (rep H')) ∧ OwnJ H' v' [n] false ∧ (∀ i o, H[i]? = some o → H'[i]? = some o ∧ Apart v' i) :=
 ⟨H ++ [AO.row 3 [iV n] false], .own H.length 0 1 1, fun K => (zStep_newH rfl (buildOne row32 hb rfl z3 (by decide))).trans rfl, .inr ⟨by simp, H.length, rfl, get_last⟩, fun i o h => ⟨get_app h, fun b off n sz e => by cases e; exact Nat.ne_of_gt (len_of h)⟩⟩
theorem npT_ne {f : Nat} (h : npT f = true) {g : Nat} (hg : g ∈ toldT) : f ≠ g := fun e => by
 subst e
 unfold npT at h
 simp only [Bool.not_eq_true', List.any_eq_false] at h
 exact h f hg (Nat.beq_refl f)
theorem hnp1 : ∀ f, npT f = true → ∀ l, E1.prim f l = none := fun f h l => np1 (npT_ne h (by decide)) (npT_ne h (by decide)) (npT_ne h (by decide)) (npT_ne h (by decide)) (npT_ne h (by decide)) l
theorem z_ok {k f : Nat} {args : List AV} {r : AV × TH × Acc} (h : CY k [] (.func f) args .nil = some r) : ∃ H, callA E1 k (.func f) args [] = some (r.1, H, r.2.2) :=
 callZ_ok hnp1 nl1 (ze_ok rfl) (zle_ok rfl) (fe_ok rfl) tab_le h
theorem law_true {k f : Nat} {zf : ZFn} {args : List AV} {T2 : TH} (hG : GE E1 f = some zf) (hp : E1.pure f = true) (hz : fzL (fzG E1 (TH.nil).get fzDeep) args = some (args, [])) (hb : bodyZ E1 (CY k) [] k zf args (rep []) = some (.bool true, T2)) {S : Sett} {w : World} {args' : Array Value} (hS : ∀ b j, S b j → (w.cell? ⟨b, j, none⟩).isSome = true) (ha : RepL m0 S w false args'.toList args) :
  Calls Try.prog f args' w fun e w' => e = .returned (.bool true) ∧ Go.Px.GrownO w w' := by
 have h := call_pure (E := E1) (GE := GE E1) (LZ := LZ E1) (Y := []) (T := .nil) hG hp hz hb (r' := .bool true) (ns2 := []) rfl
 obtain ⟨H, h2⟩ := z_ok h
 exact pure_grown env1 fr1 ok1 mixed h2 hS ha
theorem OwnJ.fr {H H' : Heap} {v : AV} {out : List Int} {fr : Bool} (h : OwnJ H v out fr) (hf : ∀ (i : Nat) (o : AO), H[i]? = some o → H'[i]? = some o) : OwnJ H' v out fr := by
 rcases h with h | ⟨hne, nm, e, hr⟩
 ·exact .inl h
 ·exact .inr ⟨hne, nm, e, hf nm _ hr⟩
theorem fz_outJ {H : Heap} {v : AV} {out : List Int} (h : OwnJ H v out false) : ∃ ns, fzG E1 (rep H).get fzDeep v = some (outV out, ns) := by
 rw [show (rep H).get = fun i => H[i]? from funext (rep_get _)]
 rcases h with ⟨rfl, rfl⟩ | ⟨hne, nm, rfl, hr⟩
 ·exact ⟨[], rfl⟩
 ·refine ⟨[nm], ?_⟩
  have h1 := fzG_own (E := E1) (g := fun i => H[i]?) (k := 59) (n := out.length) (sz := 1) hr (by simp) (fzL_ints _ 58 out)
  rw [outV_eq]
  rw [show out.isEmpty = false by cases out; exact absurd rfl hne; rfl]
  exact h1
end Go.Proofs.PxV2
