/- What an operation touches; operations that touch unlike things stand in either order. -/
import Derived.Test.YtefondfmngjekaaGreatPxA
set_option linter.unusedVariables false
set_option linter.unusedSimpArgs false
namespace Go.Px

/-! ### forcing does nothing -/
section force
variable {α : Type}
theorem fN_eq (n : Nat) (c : Nat → α) : fN n c = c n := by cases n <;> rfl
theorem fI_eq (n : Int) (c : Int → α) : fI n c = c n := by cases n <;> simp [fI, fN_eq]
theorem fB_eq (b : Bool) (c : Bool → α) : fB b c = c b := by cases b <;> rfl
theorem fLN_eq : ∀ (l : List Nat) (c : List Nat → α), fLN l c = c l
  | [], c => rfl
  | n :: l, c => by simp [fLN, fN_eq, fLN_eq l]
theorem fS_eq {β : Type} : ∀ (l : List β) (c : List β → α), fS l c = c l
  | [], c => rfl
  | n :: l, c => by simp [fS, fS_eq l]
mutual
theorem fV_eq : ∀ (v : AV) (c : AV → α), fV v c = c v
  | .undef, c => rfl
  | .bool b, c => by simp [fV, fB_eq]
  | .int k n, c => by simp [fV, fI_eq]
  | .str s, c => by simp [fV, fLN_eq]
  | .sl n cs f, c => by simp [fV, fN_eq, fL_eq cs, fB_eq]
  | .own nm off n sz, c => by simp [fV, fN_eq]
  | .agg cs, c => by simp [fV, fL_eq cs]
  | .tup cs, c => by simp [fV, fL_eq cs]
  | .clo f cs, c => by simp [fV, fN_eq, fL_eq cs]
  | .yield l, c => by simp [fV, fN_eq]
  | .nilFunc, c => rfl
  | .nilIface, c => rfl
  | .iface t v, c => by simp [fV, fV_eq v]
  | .ref cs, c => by simp [fV, fL_eq cs]
  | .loc nm off, c => by simp [fV, fN_eq]
  | .nilptr, c => rfl
  | .map nm, c => by simp [fV, fN_eq]
  | .nilmap, c => rfl
  | .res k r M, c => by simp [fV, fN_eq]
theorem fL_eq : ∀ (l : List AV) (c : List AV → α), fL l c = c l
  | [], c => rfl
  | v :: l, c => by simp [fL, fV_eq v, fL_eq l]
end
theorem fW_eq (v : AV) (c : AV → α) : fW v c = c v := by cases v <;> simp [fW, fS_eq, fN_eq, fB_eq]
theorem fO_eq (o : AO) (c : AO → α) : fO o c = c o := by cases o <;> simp [fO, fL_eq, fB_eq]
end force

/-! ### transformers of heaps -/
def mkO : AO → AO
  | .row e cs _ => .row e cs true
  | o => o

theorem mkO_idem (o : AO) : mkO (mkO o) = mkO o := by cases o <;> rfl

/-- 'T' changes names that are written, and marks names that are read. -/
def TrOk (acc : Acc) (T : Nat → AO → AO) : Prop := ∀ j, j ∉ acc.wr → (∀ x, T j x = x) ∨ (j ∈ acc.rd ∧ ∀ x, T j x = mkO x)

def sameFr (a b : Option AO) : Prop := a = b ∨ ∃ e cs f g, a = some (.row e cs f) ∧ b = some (.row e cs g)

theorem sameFr.refl (a : Option AO) : sameFr a a := .inl rfl
theorem sameFr.row {a b : Option AO} {e : TypeId} {cs : List AV} {f : Bool} (h : sameFr a b) (ha : a = some (.row e cs f)) : ∃ g, b = some (.row e cs g) := by
  rcases h with rfl | ⟨e', cs', f', g', h1, h2⟩
  · exact ⟨f, ha⟩
  · rw [ha] at h1; cases h1; exact ⟨g', h2⟩
theorem sameFr.map {a b : Option AO} {k v : TypeId} {es : List (AV × AV)} {bs : List Nat} {ck : Nat} (h : sameFr a b) (ha : a = some (.map k v es bs ck)) : b = some (.map k v es bs ck) := by
  rcases h with rfl | ⟨e', cs', f', g', h1, h2⟩
  · exact ha
  · rw [ha] at h1; cases h1

def Agree (acc : Acc) (H H1 : Heap) : Prop := (∀ nm ∈ acc.rd, sameFr H[nm]? H1[nm]?) ∧ (∀ nm ∈ acc.wr, H[nm]? = H1[nm]?)

theorem Agree.idle {acc : Acc} (h : acc.idle = true) (H H1 : Heap) : Agree acc H H1 := by
  simp [Acc.idle] at h
  exact ⟨fun nm hn => by simp [h.1.2] at hn, fun nm hn => by simp [h.2] at hn⟩

theorem mapIdx_id {H : Heap} {T : Nat → AO → AO} (h : ∀ j x, T j x = x) : H.mapIdx T = H := by
  apply List.ext_getElem?
  intro i
  rw [List.getElem?_mapIdx]
  cases H[i]? <;> simp [h]

theorem set_mapIdx (H : Heap) (n : Nat) (o : AO) : H.set n o = H.mapIdx (fun j x => if j = n then o else x) := by
  apply List.ext_getElem?
  intro i
  rw [List.getElem?_mapIdx, List.getElem?_set]
  by_cases h : n = i
  · subst h
    by_cases hl : n < H.length
    · simp [hl]
    · simp [hl]
  · have h' : ¬ i = n := fun e => h e.symm
    cases hi : H[i]? <;> simp [h, h']

theorem mapIdx_mapIdx' (H : Heap) (T U : Nat → AO → AO) : (H.mapIdx T).mapIdx U = H.mapIdx (fun j x => U j (T j x)) := by
  apply List.ext_getElem?
  intro i
  simp only [List.getElem?_mapIdx]
  cases H[i]? <;> rfl

theorem markOne_mapIdx (H : Heap) (n : Nat) : markOne H n = H.mapIdx (fun j x => if j = n then mkO x else x) := by
  unfold markOne
  split
  · rename_i e cs f h
    rw [set_mapIdx]
    apply List.ext_getElem?
    intro i
    simp only [List.getElem?_mapIdx]
    by_cases hi : i = n
    · subst hi; simp [h, mkO]
    · cases H[i]? <;> simp [hi]
  · rename_i h
    symm
    apply List.ext_getElem?
    intro i
    rw [List.getElem?_mapIdx]
    by_cases hi : i = n
    · subst hi
      cases hx : H[i]? with
      | none => rfl
      | some x =>
        cases x with
        | row e cs f => exact absurd hx (h e cs f)
        | _ => simp [mkO]
    · cases H[i]? <;> simp [hi]

theorem markAll_mapIdx : ∀ (ns : List Nat) (H : Heap), markAll H ns = H.mapIdx (fun j x => if j ∈ ns then mkO x else x)
  | [], H => by simp only [markAll, List.foldl_nil]; exact (mapIdx_id (fun j x => by simp)).symm
  | n :: ns, H => by
    show markAll (markOne H n) ns = _
    rw [markAll_mapIdx ns, markOne_mapIdx, mapIdx_mapIdx']
    congr 1
    funext j x
    by_cases h1 : j = n <;> by_cases h2 : j ∈ ns <;> simp [h1, h2, mkO_idem]

/-! ### what an operation looks at -/
def AgreeT (l : List Nat) (tm tm1 : List AV) : Prop := ∀ t ∈ l, tm1.getD t .undef = tm.getD t .undef

/-- A step: a value into its temporary, a transformer of the heap; the same from wherever what it looks at is the same. -/
def Framed (dst : Option Nat) (looks : List Nat) (f : St → Option (St × Acc)) : Prop :=
  ∀ tm H st' acc, f ⟨tm, H⟩ = some (st', acc) →
    (acc.all = false → ∃ v T, TrOk acc T ∧ st' = ⟨putT tm dst v, H.mapIdx T⟩ ∧ ∀ tm1 H1, AgreeT looks tm tm1 → Agree acc H H1 → f ⟨tm1, H1⟩ = some (⟨putT tm1 dst v, H1.mapIdx T⟩, acc)) ∧
    (∃ v, st'.tm = putT tm dst v ∧ ∀ tm1, AgreeT looks tm tm1 → f ⟨tm1, H⟩ = some (⟨putT tm1 dst v, st'.H⟩, acc))

theorem hitL_false {a b : List Nat} (h : hitL a b = false) : ∀ x, x ∈ a → x ∉ b := by
  intro x hx hb
  have : hitL a b = true := by
    simp only [hitL, List.any_eq_true]
    exact ⟨x, hx, x, hb, by simp⟩
  rw [h] at this; cases this

theorem putT_getD {tm : List AV} {d : Option Nat} {v : AV} {t : Nat} (h : d ≠ some t) : (putT tm d v).getD t .undef = tm.getD t .undef := by
  cases d with
  | none => rfl
  | some d =>
    have : d ≠ t := fun e => h (by rw [e])
    simp [putT, List.getD_eq_getElem?_getD, List.getElem?_set_ne this]

theorem putT_comm (tm : List AV) {d e : Option Nat} (v u : AV) (h : ∀ x, d = some x → e ≠ some x) : putT (putT tm d v) e u = putT (putT tm e u) d v := by
  cases d with
  | none => rfl
  | some d =>
    cases e with
    | none => rfl
    | some e =>
      have : d ≠ e := fun q => h d rfl (by rw [q])
      simp [putT, List.set_comm _ _ this]

/-- Neither looks at the other's temporary, or writes it. -/
structure Sep (d1 : Option Nat) (l1 : List Nat) (d2 : Option Nat) (l2 : List Nat) : Prop where
  a : ∀ x, d1 = some x → x ∉ l2
  b : ∀ x, d2 = some x → x ∉ l1
  c : ∀ x, d1 = some x → d2 ≠ some x

theorem AgreeT.put {l : List Nat} {tm : List AV} {d : Option Nat} {v : AV} (h : ∀ x, d = some x → x ∉ l) : AgreeT l (putT tm d v) tm ∧ AgreeT l tm (putT tm d v) :=
  ⟨fun t ht => (putT_getD (fun e => h t e ht)).symm, fun t ht => putT_getD (fun e => h t e ht)⟩

theorem TrOk.agree {acc a : Acc} {T : Nat → AO → AO} (hT : TrOk acc T) (h1 : ∀ x, x ∈ a.rd → x ∉ acc.wr) (h2 : ∀ x, x ∈ a.wr → x ∉ acc.wr) (h3 : ∀ x, x ∈ a.wr → x ∉ acc.rd) (H : Heap) : Agree a (H.mapIdx T) H ∧ Agree a H (H.mapIdx T) := by
  have key : ∀ nm ∈ a.rd, sameFr (H.mapIdx T)[nm]? H[nm]? := by
    intro nm hn
    rw [List.getElem?_mapIdx]
    rcases hT nm (h1 nm hn) with h | ⟨_, h⟩
    · left; cases H[nm]? <;> simp [h]
    · cases hx : H[nm]? with
      | none => exact .inl rfl
      | some x =>
        cases x with
        | row e cs f => right; exact ⟨e, cs, true, f, by simp [h, mkO], rfl⟩
        | _ => left; simp [h, mkO]
  have key2 : ∀ nm ∈ a.wr, (H.mapIdx T)[nm]? = H[nm]? := by
    intro nm hn
    rw [List.getElem?_mapIdx]
    rcases hT nm (h2 nm hn) with h | ⟨h, _⟩
    · cases H[nm]? <;> simp [h]
    · exact absurd h (h3 nm hn)
  refine ⟨⟨key, key2⟩, fun nm hn => ?_, fun nm hn => (key2 nm hn).symm⟩
  rcases key nm hn with h | ⟨e, cs, f, g, h1, h2⟩
  · exact .inl h.symm
  · exact .inr ⟨e, cs, g, f, h2, h1⟩

theorem TrOk.comm {a b : Acc} {T U : Nat → AO → AO} (hT : TrOk a T) (hU : TrOk b U) (h1 : ∀ x, x ∈ a.wr → x ∉ b.rd) (h2 : ∀ x, x ∈ a.wr → x ∉ b.wr) (h3 : ∀ x, x ∈ b.wr → x ∉ a.rd) (H : Heap) : (H.mapIdx T).mapIdx U = (H.mapIdx U).mapIdx T := by
  rw [mapIdx_mapIdx', mapIdx_mapIdx']
  congr 1
  funext j x
  by_cases ha : j ∈ a.wr
  · rcases hU j (h2 j ha) with h | ⟨h, _⟩
    · rw [h, h]
    · exact absurd h (h1 j ha)
  · rcases hT j ha with h | ⟨hr, h⟩
    · rw [h, h]
    · by_cases hb : j ∈ b.wr
      · exact absurd hr (h3 j hb)
      · rcases hU j hb with k | ⟨_, k⟩
        · rw [k, k]
        · rw [k, k, h, h]

theorem TrOk.idle {a : Acc} {T : Nat → AO → AO} (hT : TrOk a T) (h : a.idle = true) (H : Heap) : H.mapIdx T = H := by
  simp [Acc.idle] at h
  refine mapIdx_id fun j x => ?_
  rcases hT j (by simp [h.2]) with k | ⟨k, _⟩
  · exact k x
  · simp [h.1.2] at k

theorem meets_all {a b : Acc} (h : a.meets b = false) : (a.all = true → b.idle = true) ∧ (b.all = true → a.idle = true) ∧ (a.all = false → b.all = false → (∀ x, x ∈ a.wr → x ∉ b.rd) ∧ (∀ x, x ∈ a.wr → x ∉ b.wr) ∧ (∀ x, x ∈ b.wr → x ∉ a.rd)) := by
  unfold Acc.meets at h
  refine ⟨fun ha => ?_, fun hb => ?_, fun ha hb => ?_⟩
  · simpa [ha] using h
  · cases ha : a.all with
    | true =>
      rw [ha] at h
      simp only [if_true, Bool.not_eq_false'] at h
      simp [Acc.idle, hb] at h
    | false => simpa [ha, hb] using h
  · rw [ha, hb] at h
    simp only [Bool.false_eq_true, if_false, Bool.or_eq_false_iff] at h
    exact ⟨hitL_false h.1.1, hitL_false h.1.2, hitL_false h.2⟩

theorem idle_all {a : Acc} (h : a.idle = true) : a.all = false := by simp [Acc.idle] at h; exact h.1.1

/-- TWO STEPS IN EITHER ORDER. -/
theorem Framed.comm {d1 d2 : Option Nat} {l1 l2 : List Nat} {f1 f2 : St → Option (St × Acc)} (h1 : Framed d1 l1 f1) (h2 : Framed d2 l2 f2) (hs : Sep d1 l1 d2 l2) {s s1 s2 : St} {a1 a2 : Acc}
    (e1 : f1 s = some (s1, a1)) (e2 : f2 s1 = some (s2, a2)) (hm : a1.meets a2 = false) : ∃ s1', f2 s = some (s1', a2) ∧ f1 s1' = some (s2, a1) := by
  obtain ⟨tm, H⟩ := s
  obtain ⟨m1, m2, m3⟩ := meets_all hm
  cases ha1 : a1.all with
  | true =>
    have hi2 := m1 ha1
    obtain ⟨_, v1, p1, q1⟩ := h1 tm H s1 a1 e1
    obtain ⟨tm1, H1⟩ := s1
    simp only at p1; subst p1
    obtain ⟨g2, _⟩ := h2 _ _ _ _ e2
    obtain ⟨v2, T2, t2, rfl, r2⟩ := g2 (idle_all hi2)
    have hsp := @AgreeT.put l2 tm d1 v1 hs.a
    have hsp2 := @AgreeT.put l1 tm d2 v2 hs.b
    refine ⟨⟨putT tm d2 v2, H⟩, ?_, ?_⟩
    · rw [r2 tm H hsp.1 (Agree.idle hi2 _ _), t2.idle hi2]
    · rw [q1 _ hsp2.2, t2.idle hi2, putT_comm tm v1 v2 hs.c]
  | false =>
    obtain ⟨g1, _⟩ := h1 tm H s1 a1 e1
    obtain ⟨v1, T1, t1, rfl, r1⟩ := g1 ha1
    cases ha2 : a2.all with
    | true =>
      have hi1 := m2 ha2
      obtain ⟨_, v2, p2, q2⟩ := h2 _ _ s2 a2 e2
      obtain ⟨tm2, H2⟩ := s2
      simp only at p2; subst p2
      have hsp := @AgreeT.put l2 tm d1 v1 hs.a
      have hsp2 := @AgreeT.put l1 tm d2 v2 hs.b
      rw [t1.idle hi1] at e2 q2
      refine ⟨⟨putT tm d2 v2, H2⟩, q2 tm hsp.1, ?_⟩
      rw [r1 _ _ hsp2.2 (Agree.idle hi1 _ _), t1.idle hi1, putT_comm tm v1 v2 hs.c]
    | false =>
      obtain ⟨n1, n2, n3⟩ := m3 ha1 ha2
      obtain ⟨g2, _⟩ := h2 _ _ _ _ e2
      obtain ⟨v2, T2, t2, rfl, r2⟩ := g2 ha2
      have hsp := @AgreeT.put l2 tm d1 v1 hs.a
      have hsp2 := @AgreeT.put l1 tm d2 v2 hs.b
      have ag1 := t1.agree (a := a2) (fun x hx hw => n1 x hw hx) (fun x hx hw => n2 x hw hx) (fun x hx hr => n3 x hx hr) H
      have ag2 := t2.agree (a := a1) (fun x hx hw => n3 x hw hx) (fun x hx hw => n2 x hx hw) (fun x hx hr => n1 x hx hr) H
      refine ⟨⟨putT tm d2 v2, H.mapIdx T2⟩, r2 tm H hsp.1 ag1.1, ?_⟩
      rw [r1 _ _ hsp2.2 ag2.2, putT_comm tm v1 v2 hs.c, t1.comm t2 n1 n2 n3]
end Go.Px
