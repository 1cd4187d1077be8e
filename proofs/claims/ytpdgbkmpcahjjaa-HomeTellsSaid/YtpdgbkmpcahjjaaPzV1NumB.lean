/- A row of bytes that is appended to, byte by byte. -/
import Derived.Test.YtpdgbkmpcahjjaaPzV1Num
set_option linter.unusedSimpArgs false
set_option linter.unusedVariables false
set_option maxRecDepth 100000
namespace Go.Proofs.PxR2
open Go Go.Px
def Buf (e : Nat) (H0 X : Heap) (acc : List Nat) (v : AV) : Prop :=
  (acc = [] ∧ v = .sl 0 [] true) ∨ (acc ≠ [] ∧ ∃ j, v = .own (H0.length + j) 0 acc.length 1 ∧ X[j]? = some (.row e (acc.map byteV) false))
theorem append_first {E : Env} {t e s : Nat} {it ie is : TyI} (B : ByteT E t e s it ie is) (hb : ie.bytes = 1) {L V : List AV} {H : Heap} {a b : O} {c : AV} {nm : Nat} {f : Bool} (ha : gO L V a = .sl 0 [] true) (hx : gO L V b = .own nm 0 1 1) (hH : H[nm]? = some (.row e [c] f)) :
    ∃ acc, evalFA E L V H (.append t t a b) = some (.new (.row e [c] false) (fun nm => .own nm 0 1 1), acc) := by
  refine ⟨Acc.read nm, ?_⟩
  simp [evalFA, B.ht, B.dt, ha, hx, appendA, appendA0, countA, B.he, B.ze, contentA, hH, hb, mostBytes]
theorem append_next {E : Env} {t e s : Nat} {it ie is : TyI} (B : ByteT E t e s it ie is) (hb : ie.bytes = 1) {L V : List AV} {H : Heap} {a b : O} {c : AV} {nm nb : Nat} {f : Bool} {cs : List AV} (hl : cs.length < 1000) (ha : gO L V a = .own nb 0 cs.length 1) (hB : H[nb]? = some (.row e cs false)) (hx : gO L V b = .own nm 0 1 1) (hH : H[nm]? = some (.row e [c] f)) :
    ∃ acc, evalFA E L V H (.append t t a b) = some (.app nb (.row e (cs ++ [c]) false) (cs.length + 1) 1, acc) := by
  refine ⟨⟨(Acc.read nm).rd, [nb], false⟩, ?_⟩
  have h : (cs.length + 1) ≤ mostBytes := by simp [mostBytes]; omega
  simp [evalFA, B.ht, B.dt, ha, hx, appendA, appendA0, countA, B.he, B.ze, contentA, hH, hB, hb, h]
theorem bytesA_map : ∀ (l : List Nat), (∀ y ∈ l, y < 256) → bytesA (l.map byteV) = some l
  | [], _ => rfl
  | y :: l, h => by
    have hy := h y (by simp)
    have ih := bytesA_map l (fun z hz => h z (by simp [hz]))
    show (if 0 ≤ (y : Int) ∧ (y : Int) < 256 then (bytesA (l.map byteV)).map ((y : Int).toNat :: ·) else none) = _
    rw [if_pos (by omega), ih]; rfl
theorem convN {E : Env} {t e s : Nat} {it ie is : TyI} (B : ByteT E t e s it ie is) {L V : List AV} {H : Heap} {a : O} {l : List Nat} {nm : Nat} {f : Bool} (hl : ∀ y ∈ l, y < 256) (ha : gO L V a = .own nm 0 l.length 1) (hH : H[nm]? = some (.row e (l.map byteV) f)) :
    ∃ acc, evalFA E L V H (.conv t s a) = some (.val (.str l), acc) := by
  refine ⟨Acc.read nm, ?_⟩
  have hb := bytesA_map l hl
  have hk : List.take l.length (l.map byteV) = l.map byteV := List.take_of_length_le (by simp)
  simp [evalFA, convA, B.ht, B.dt, B.hs, B.ds, ha, bstrA, B.he, B.de, contentA, hH, hb, hk]
theorem push1 {E : Env} {t e s : Nat} {it ie is : TyI} (B : ByteT E t e s it ie is) (hb : ie.bytes = 1) {call : CallTT} {K : KB} {L V : List AV} {H0 X : Heap} {a b : O} {id : Nat} {sl : Option Nat} {acc : List Nat} {v : AV} {y : Nat} (hl : acc.length < 1000) (hv : Buf e H0 X acc v) (ha : gO L V a = v) (hx : gO L V b = .own (H0 ++ X).length 0 1 1) :
    ∃ X' v', Buf e H0 X' (acc ++ [y]) v' ∧ zStep E call ⟨.append t t a b, .push, none, false, id, sl⟩ K L V (rep (H0 ++ X ++ [.row e [.int .u8 y] false])) = K (v' :: L) V (rep (H0 ++ X')) := by
  have hH : (H0 ++ X ++ [AO.row e [.int .u8 y] false])[(H0 ++ X).length]? = some (.row e [.int .u8 y] false) := by simp
  rcases hv with ⟨rfl, rfl⟩ | ⟨hne, j, rfl, hj⟩
  · obtain ⟨ac, h⟩ := append_first B hb ha hx hH
    refine ⟨X ++ [AO.row e [.int .u8 y] false] ++ [.row e [.int .u8 y] false], .own (H0.length + (X.length + 1)) 0 1 1, Or.inr ⟨by simp, X.length + 1, rfl, by simp [byteV]⟩, ?_⟩
    refine (zStep_newH rfl h).trans ?_
    simp [putFL, putFV, Nat.add_assoc]
  · have hjl : j < X.length := (List.getElem?_eq_some_iff.1 hj).1
    obtain ⟨ac, h⟩ := append_next B hb (c := .int .u8 y) (cs := acc.map byteV) (H := H0 ++ X ++ [AO.row e [.int .u8 y] false]) (nb := H0.length + j) (by simpa using hl) (by simpa using ha) (by rw [List.append_assoc, List.getElem?_append_right (by omega)]; simp [List.getElem?_append_left hjl, hj]) hx hH
    refine ⟨(X ++ [AO.row e [.int .u8 y] false]).set j AO.dead ++ [AO.row e (acc.map byteV ++ [.int .u8 y]) false], .own (H0.length + (X.length + 1)) 0 (acc.length + 1) 1, Or.inr ⟨by simp, X.length + 1, by simp, by simp [byteV, List.getElem?_append_right]⟩, ?_⟩
    refine (zStep_appH rfl h).trans ?_
    simp [putFL, putFV, Nat.add_assoc, List.set_append_right]
noncomputable def body81 (E : Env) (cy : CallYT) (Y : YE) : CZ := (zSeq (zSeq (zReg fun k => (zP (vInt E (fGen .geq) .geq 40 false true (.v 0) (.k (.int .u64 128)))) k) (zCond (.l 0) zSkip (zExit 0))) (zSeq (zBlock 1 (zReg fun k => (zP (vMv (.v 1))) ((zP (vInt E (fGen .rem) .rem 40 false true (.v 0) (.k (.int .u64 128)))) ((zP (vInt E fAdd .add 40 false true (.l 0) (.k (.int .u64 128)))) ((zP (vConv .u8 (.l 0))) ((zStep E (cy Y) ⟨.buildSlice 38 1 [(0, (.l 0))], .push, none, false, 5, (some 0)⟩) ((zStep E (cy Y) ⟨.append 38 38 (.l 4) (.l 0), .push, none, false, 6, (some 1)⟩) ((zV 1 (vMv (.l 0))) k)))))))) (zReg fun k => (zP (vMv (.v 0))) ((zP (vInt E (fGen .quo) .quo 40 false true (.l 0) (.k (.int .u64 128)))) ((zV 0 (vMv (.l 0))) k)))))
noncomputable def rest81 (E : Env) (cy : CallYT) (Y : YE) : CZ := (zSeq (zReg fun k => (zP (vConv .u8 (.v 0))) ((zStep E (cy Y) ⟨.buildSlice 38 1 [(0, (.l 0))], .push, none, false, 3, (some 0)⟩) ((zStep E (cy Y) ⟨.append 38 38 (.v 1) (.l 0), .push, none, false, 4, (some 1)⟩) ((zStep E (cy Y) ⟨.conv 38 9 (.l 0), .push, none, false, 5, none⟩) ((zV 2 (vMv (.l 0))) k))))) zRet)
theorem numI_256 : ∀ (m n : Nat), ∀ y ∈ numI m n, y < 256
  | 0, n, y, h => by simp [numI] at h
  | m + 1, n, y, h => by
    unfold numI at h
    split at h
    · simp at h
    · rcases List.mem_cons.1 h with rfl | h
      · omega
      · exact numI_256 m _ y h
theorem round81 {E : Env} {e : Nat} {it ie is : TyI} (B : ByteT E 38 e 9 it ie is) (hb : ie.bytes = 1) (cy : CallYT) (Y : YE) (K : KB) (kx : Nat → KB) (kr : KB) (L : List AV) (n : Nat) (acc : List Nat) (v a2 : AV) (H0 X : Heap) (h1 : 128 ≤ n) (h2 : n < 18446744073709551616) (h3 : acc.length < 100) (hv : Buf e H0 X acc v) :
    ∃ L' X' v', Buf e H0 X' (acc ++ [128 + n % 128]) v' ∧ body81 E cy Y K kx kr L [.int .u64 n, v, a2] (rep (H0 ++ X)) = K L' [.int .u64 (n / 128 : Nat), v', a2] (rep (H0 ++ X')) := by
  have hy : 128 + n % 128 < 256 := by omega
  have w1 : IntKind.u64.wrap (((n : Int).tmod 128) + 128) = ((128 + n % 128 : Nat) : Int) := by
    rw [← u64_wrap (n := 128 + n % 128) (by omega), Int.add_comm]; congr 1
  have wq : IntKind.u64.wrap ((n : Int).tdiv 128) = ((n / 128 : Nat) : Int) := by
    rw [← u64_wrap (n := n / 128) (by omega)]; congr 1
  have hp := fun (K : KB) => push1 B hb (call := cy Y) (K := K) (L := [.own (H0 ++ X).length 0 1 1, .int .u8 (128 + n % 128 : Nat), .int .u64 (128 + n % 128 : Nat), .int .u64 ((n : Int).tmod 128), v]) (V := [.int .u64 n, v, a2]) (H0 := H0) (X := X) (a := .l 4) (b := .l 0) (id := 6) (sl := some 1) (y := 128 + n % 128) (by omega) hv rfl rfl
  obtain ⟨X', v', hB, he⟩ := hp ((zV 1 (vMv (.l 0))) ((zReg fun k => (zP (vMv (.v 0))) ((zP (vInt E (fGen .quo) .quo 40 false true (.l 0) (.k (.int .u64 128)))) ((zV 0 (vMv (.l 0))) k))) K kx kr))
  refine ⟨[.int .u64 (n / 128 : Nat), .int .u64 n], X', v', hB, ?_⟩
  unfold body81
  refine zSeq_app.trans ?_
  refine zSeq_reg.trans ?_
  refine (zP_v (vInt_eq (fGen_ok (by simp) (by simp)) rfl rfl rfl)).trans ?_
  refine (zCond_eq rfl).trans ?_
  rw [if_pos (by simp; omega)]
  refine zSkip_app.trans ?_
  refine zSeq_app.trans ?_
  refine zBlock_app.trans ?_
  refine zReg_eq.trans ?_
  refine (zP_v vMv_eq).trans ?_
  refine (zP_v (vInt_eq (fGen_ok (by simp) (by simp)) rfl rfl rfl)).trans ?_
  refine (zP_v (vInt_eq fAdd_ok rfl rfl rfl)).trans ?_
  refine (zP_v (vConv_eq rfl)).trans ?_
  rw [w1, u8_wrap hy]
  refine (zStep_newH rfl (build1 B rfl)).trans ?_
  refine he.trans ?_
  refine (zV_v vMv_eq).trans ?_
  refine zReg_eq.trans ?_
  refine (zP_v vMv_eq).trans ?_
  refine (zP_v (vInt_eq (fGen_ok (by simp) (by simp)) rfl rfl rfl)).trans ?_
  rw [wq]
  refine (zV_v vMv_eq).trans ?_
  rfl
theorem exit81 {E : Env} (cy : CallYT) (Y : YE) (K : KB) (kx : Nat → KB) (kr : KB) (L : List AV) (n : Nat) (a1 a2 : AV) (T : TH) (h1 : n < 128) :
    ∃ L', body81 E cy Y K kx kr L [.int .u64 n, a1, a2] T = kx 0 L' [.int .u64 n, a1, a2] T := by
  refine ⟨[.bool (decide ((128 : Int) ≤ n))], ?_⟩
  unfold body81
  refine zSeq_app.trans ?_
  refine zSeq_reg.trans ?_
  refine (zP_v (vInt_eq (fGen_ok (by simp) (by simp)) rfl rfl rfl)).trans ?_
  refine (zCond_eq rfl).trans ?_
  rw [if_neg (by simp; omega)]
  refine zExit_app.trans ?_
  rfl
theorem loop81 {E : Env} {e : Nat} {it ie is : TyI} (B : ByteT E 38 e 9 it ie is) (hb : ie.bytes = 1) (cy : CallYT) (Y : YE) (kn : KB) (kx : Nat → KB) (kr : KB) (a2 : AV) (H0 : Heap) :
    ∀ (m fuel n : Nat) (acc : List Nat) (L : List AV) (X : Heap) (v : AV), n < 128 ^ (m + 1) → n < 18446744073709551616 → m < fuel → acc.length + m < 50 → Buf e H0 X acc v →
      ∃ L' X' v', Buf e H0 X' (acc ++ numI m n) v' ∧ zLoop fuel (body81 E cy Y) kn kx kr L [.int .u64 n, v, a2] (rep (H0 ++ X)) = kx 0 L' [.int .u64 (numE m n), v', a2] (rep (H0 ++ X'))
  | 0, fuel, n, acc, L, X, v, hn, h2, hf, ha, hv => by
    obtain ⟨f, rfl⟩ : ∃ f, fuel = f + 1 := ⟨fuel - 1, by omega⟩
    rw [zLoop_succ]
    obtain ⟨L', e⟩ := exit81 (E := E) cy Y (zLoop f (body81 E cy Y) kn kx kr) kx kr L n v a2 (rep (H0 ++ X)) (by simpa using hn)
    exact ⟨L', X, v, by simpa [numI] using hv, by rw [e]; simp [numE]⟩
  | m + 1, fuel, n, acc, L, X, v, hn, h2, hf, ha, hv => by
    obtain ⟨f, rfl⟩ : ∃ f, fuel = f + 1 := ⟨fuel - 1, by omega⟩
    rw [zLoop_succ]
    by_cases h : n < 128
    · obtain ⟨L', e⟩ := exit81 (E := E) cy Y (zLoop f (body81 E cy Y) kn kx kr) kx kr L n v a2 (rep (H0 ++ X)) h
      exact ⟨L', X, v, by simpa [numI, h] using hv, by rw [e]; simp [numE, h]⟩
    · obtain ⟨L1, X1, v1, hv1, e⟩ := round81 B hb cy Y (zLoop f (body81 E cy Y) kn kx kr) kx kr L n acc v a2 H0 X (by omega) h2 (by omega) hv
      obtain ⟨L', X', v', hv', e2⟩ := loop81 B hb cy Y kn kx kr a2 H0 m f (n / 128) (acc ++ [128 + n % 128]) L1 X1 v1 (by rw [Nat.pow_succ] at hn; exact Nat.div_lt_of_lt_mul (by omega)) (by omega) (by omega) (by simp; omega) hv1
      exact ⟨L', X', v', by simpa [numI, h] using hv', by rw [e, e2]; simp [numE, h]⟩
theorem num81 {E : Env} {e : Nat} {it ie is : TyI} (B : ByteT E 38 e 9 it ie is) (hb : ie.bytes = 1) (cy : CallYT) (Y : YE) (k : Nat) (n : Nat) (H : Heap) (hn : n < 18446744073709551616) (hk : 9 < k) :
    ∃ X, bodyZ E cy Y k (G81 E) [.int .u64 n] (rep H) = some (.str (numL n), rep (H ++ X)) := by
  obtain ⟨L', X, v, hv, e1⟩ := loop81 B hb cy Y (fun _ _ _ => none) (fun i L V T => ifZ (Nat.beq i 0) (rest81 E cy Y (finZ E [.tmp (.v 2)]) (fun _ _ _ _ => none) (finZ E [.tmp (.v 2)]) L V T) none) (finZ E [.tmp (.v 2)]) (.str []) H 9 k n [] [] [] (.sl 0 [] true) (Nat.lt_of_lt_of_le hn (by decide)) hn hk (by simp) (Or.inl ⟨rfl, rfl⟩)
  have hl : numE 9 n < 128 := numE_lt 9 n (Nat.lt_of_lt_of_le hn (by decide))
  have hw : IntKind.u8.wrap (numE 9 n : Int) = numE 9 n := u8_wrap (by omega)
  have hlen := numI_len 9 n
  rw [List.nil_append] at hv
  have hp := fun (K : KB) => push1 B hb (call := cy Y) (K := K) (L := [.own (H ++ X).length 0 1 1, .int .u8 (numE 9 n)]) (V := [.int .u64 (numE 9 n), v, .str []]) (H0 := H) (X := X) (a := .v 1) (b := .l 0) (id := 4) (sl := some 1) (y := numE 9 n) (by omega) hv rfl rfl
  have e0 : bodyZ E cy Y k (G81 E) [.int .u64 n] (rep H) = (G81 E).z cy Y k (finZ E [.tmp (.v 2)]) (fun _ _ _ _ => none) (finZ E [.tmp (.v 2)]) [] [.int .u64 n, .undef, .undef] (rep H) := by kernel_rfl
  obtain ⟨X', v', hv', he⟩ := hp ((zStep E (cy Y) ⟨.conv 38 9 (.l 0), .push, none, false, 5, none⟩) ((zV 2 (vMv (.l 0))) (zRet (finZ E [.tmp (.v 2)]) (fun _ _ _ _ => none) (finZ E [.tmp (.v 2)]))))
  refine ⟨X', ?_⟩
  refine e0.trans ?_
  unfold G81
  dsimp only
  refine zSeq_reg.trans ?_
  refine (zV_v vMv_eq).trans ?_
  refine zSeq_reg.trans ?_
  refine (zV_v vMv_eq).trans ?_
  refine zSeq_app.trans ?_
  refine zBlock_app.trans ?_
  rw [List.append_nil] at e1
  refine e1.trans ?_
  show rest81 E cy Y _ _ _ L' _ _ = _
  unfold rest81
  refine zSeq_reg.trans ?_
  refine (zP_v (vConv_eq rfl)).trans ?_
  rw [hw]
  refine (zStep_newH rfl (build1 B rfl)).trans ?_
  refine he.trans ?_
  rcases hv' with ⟨h, _⟩ | ⟨_, j, rfl, hj⟩
  · simp at h
  · have hc := fun (L : List AV) => convN B (L := .own (H.length + j) 0 (numI 9 n ++ [numE 9 n]).length 1 :: L) (V := [.int .u64 (numE 9 n), v, .str []]) (H := H ++ X') (a := .l 0) (f := false) (l := numI 9 n ++ [numE 9 n]) (nm := H.length + j) (by intro y hy; rcases List.mem_append.1 hy with h | h; exact numI_256 9 n y h; simp at h; omega) rfl (by rw [List.getElem?_append_right (by omega)]; simpa using hj)
    refine (zStep_valH rfl (hc _).choose_spec).trans ?_
    refine (zV_v vMv_eq).trans ?_
    refine zRet_app.trans ?_
    rfl
end Go.Proofs.PxR2
