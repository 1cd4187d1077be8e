/- What the abstract values and heap say of the model's world; what stays when the world grows. -/
import Derived.Test.YtefondfmngjekaaGreatPxA
import Derived.RangeFuncLeaves
import Derived.RangeFuncRecord
import Derived.Below
import Derived.Deep.AppendSrc
import Derived.Deep.MidRow
import Derived.Laws.IdiomCopy
set_option linter.unusedVariables false
namespace Go.Px
open Go Go.RowKit

/-- Which cells are settled: they are written no more. -/
abbrev Sett := Nat → Nat → Prop
/-- Where a name's object lies: its block, and from which cell on. -/
abbrev Mu := Nat → Option (Nat × Nat)

def Shape (w : World) (b : Nat) (e : TypeId) (n : Nat) : Prop := ∃ arr rng, w.heap[b]? = some (.cells arr e rng) ∧ arr.size = n

section rep
variable (m : Mu) (S : Sett) (w : World)
mutual
/-- 'v' stands for 'x'; 'nf': it names nothing of the heap. -/
inductive Rep : Bool → Value → AV → Prop
  | undef (v : Value) : Rep false v .undef
  | bool (nf b) : Rep nf (.bool b) (.bool b)
  | int (nf k n) : Rep nf (.int k n) (.int k n)
  | str (nf) (s : ByteArray) (l : List Nat) (h : s.data.toList.map UInt8.toNat = l) : Rep nf (.string s) (.str l)
  | nilsl (nf full) : Rep nf (.slice none 0 0) (.sl 0 [] full)
  | sl (nf a n c cells full) (h1 : n ≤ c) (h2 : full = true → c = n) (h3 : Row a cells) : Rep nf (.slice (some a) n c) (.sl n cells full)
  | own (nm off n sz c b o) (h1 : m nm = some (b, o)) (h2 : n ≤ c) (h3 : ∃ e k, Shape w b e k ∧ o + off + c * sz ≤ k) : Rep false (.slice (some ⟨b, o + off, none⟩) n c) (.own nm off n sz)
  | own0 (nm off sz b o a) (h1 : m nm = some (b, o)) : Rep false (.slice a 0 0) (.own nm off 0 sz)
  | agg (nf cs xs) (h : RepL nf cs xs) (h1 : ∀ x ∈ xs, one x = true) : Rep nf (.agg cs.toArray) (.agg xs)
  | tup (nf cs xs) (h : RepL nf cs xs) : Rep nf (.tuple cs.toArray) (.tup xs)
  | clo (nf f cs xs) (h : RepL nf cs xs) : Rep nf (.func (.func f) #[] cs.toArray) (.clo f xs)
  | yield (l b) (h : m l = some (b, 0)) : Rep false (.func (.yield b) #[] #[]) (.yield l)
  | nilFunc (nf) : Rep nf .nilFunc .nilFunc
  | nilIface (nf) : Rep nf .nilIface .nilIface
  | iface (nf t v x) (h : Rep nf v x) : Rep nf (.iface t v) (.iface t x)
  | ref (nf a cells) (h : Row a cells) (h1 : cells ≠ []) : Rep nf (.pointer (some a)) (.ref cells)
  | loc (nm off b o) (h : m nm = some (b, o)) : Rep false (.pointer (some ⟨b, o + off, none⟩)) (.loc nm off)
  | nilptr (nf) : Rep nf (.pointer none) .nilptr
  | map (nm b) (h : m nm = some (b, 0)) : Rep false (.map (some b)) (.map nm)
  | nilmap (nf) : Rep nf (.map none) .nilmap
  | res (nf k n r M) (h0 : 0 ≤ n) (h1 : n.toNat % M = r) : Rep nf (.int k n) (.res k r M)
inductive RepL : Bool → List Value → List AV → Prop
  | nil (nf) : RepL nf [] []
  | cons (nf v x vs xs) (h : Rep nf v x) (t : RepL nf vs xs) : RepL nf (v :: vs) (x :: xs)
/-- The cells from an address on: settled, and they name nothing. -/
inductive Row : Addr → List AV → Prop
  | nil (a) : Row a []
  | cons (b off v x xs) (h1 : S b off) (h2 : w.cell? ⟨b, off, none⟩ = some v) (h3 : Rep true v x) (h4 : one x = true) (t : Row ⟨b, off + 1, none⟩ xs) : Row ⟨b, off, none⟩ (x :: xs)
end
end rep

/-- The one object of a name that is alive. -/
def live (H : Heap) (nm : Nat) : Prop := ∃ o, H[nm]? = some o ∧ o ≠ .dead

structure RowIn (P : Program) (base : Nat) (m : Mu) (S : Sett) (w : World) (nm : Nat) (e : TypeId) (cs : List AV) (fr : Bool) (b o n : Nat) (i : TypeInfo) : Prop where
  mu : m nm = some (b, o)
  base : base ≤ b
  shape : Shape w b e n
  fits : o + cs.length ≤ n
  free : ∀ j, w.frozen? ⟨b, j, none⟩ = false
  cells : ∀ j x, cs[j]? = some x → ∃ v, w.cell? ⟨b, o + j, none⟩ = some v ∧ Rep m S w false v x ∧ one x = true
  info : P.info? e = some i
  setl : fr = true → ∀ j, j < cs.length → S b (o + j)
  uns : fr = false → ∀ j, ¬ S b j
  top : ∀ j, S b j → j < o + cs.length

def LoopIn (P : Program) (base : Nat) (m : Mu) (S : Sett) (w : World) (nm : Nat) (st : LoopState) (pd : Option Code) (tm : List AV) (ps : List Nat) (asg bd : Code) : Prop :=
  ∃ b r, m nm = some (b, 0) ∧ base ≤ b ∧ w.heap[b]? = some (.loop r) ∧ r.state = st ∧ r.pending = pd ∧ r.params.toList = ps ∧ r.assign = asg ∧ r.body = bd ∧ RepL m S w false r.tmps.toList tm

def MapIn (P : Program) (base : Nat) (m : Mu) (S : Sett) (w : World) (nm : Nat) (es : List (AV × AV)) (bs : List Nat) (ck : Nat) : Prop :=
  ∃ b es', m nm = some (b, 0) ∧ base ≤ b ∧ w.heap[b]? = some (.map es' ck) ∧
    RepL m S w false (es'.toList.map (·.key)) (es.map (·.1)) ∧ RepL m S w false (es'.toList.map (·.val)) (es.map (·.2)) ∧ es'.toList.map (·.born) = bs

/-- The map that a walk goes over. -/
def MpOk (m : Mu) : Option Nat → Option Nat → Prop
  | none, mb => mb = none
  | some mn, mb => ∃ c, m mn = some (c, 0) ∧ mb = some c

def IterIn (base : Nat) (m : Mu) (w : World) (nm : Nat) (mp : Option Nat) (since : Nat) (seen : List Nat) (last : Nat) : Prop :=
  ∃ b mb, m nm = some (b, 0) ∧ base ≤ b ∧ w.heap[b]? = some (.mapIter mb since seen.toArray last) ∧ MpOk m mp mb

def ObjIn (P : Program) (base : Nat) (m : Mu) (S : Sett) (w : World) (nm : Nat) : AO → Prop
  | .dead => True
  | .row e cs fr => ∃ b o n i, RowIn P base m S w nm e cs fr b o n i
  | .loop st pd tm ps asg bd => LoopIn P base m S w nm st pd tm ps asg bd
  | .map _ _ es bs ck => MapIn P base m S w nm es bs ck
  | .iter mp since seen last => IterIn base m w nm mp since seen last

structure Rel (P : Program) (base : Nat) (m : Mu) (S : Sett) (H : Heap) (w : World) : Prop where
  size : base ≤ w.heap.size
  dom : ∀ nm p, m nm = some p → nm < H.length
  obj : ∀ nm o, H[nm]? = some o → ObjIn P base m S w nm o
  inj : ∀ nm nm' b o o', live H nm → live H nm' → m nm = some (b, o) → m nm' = some (b, o') → nm = nm'
  sett : ∀ b j, S b j → (w.cell? ⟨b, j, none⟩).isSome = true

/-- What stays: names, settled cells, the shapes of rows, whatever has no name. -/
structure Ext (m : Mu) (S : Sett) (H : Heap) (w : World) (m' : Mu) (S' : Sett) (w' : World) : Prop where
  mu : ∀ nm p, m nm = some p → m' nm = some p
  sub : ∀ b j, S b j → S' b j
  cell : ∀ b j, S b j → w'.cell? ⟨b, j, none⟩ = w.cell? ⟨b, j, none⟩
  shape : ∀ b e n, Shape w b e n → Shape w' b e n
  other : ∀ b, b < w.heap.size → (∀ nm o, live H nm → m nm ≠ some (b, o)) → w'.heap[b]? = w.heap[b]?
  size : w.heap.size ≤ w'.heap.size
  os : w'.os = w.os
  tape : w'.tape = w.tape
  output : w'.output = w.output
  loop : ∀ (b : Nat) (r : Loop), w.heap[b]? = some (Obj.loop r) → ∃ r', w'.heap[b]? = some (Obj.loop r')
  froz : ∀ a : Addr, w'.frozen? a = w.frozen? a

theorem Ext.refl (m : Mu) (S : Sett) (H : Heap) (w : World) : Ext m S H w m S w :=
  ⟨fun _ _ h => h, fun _ _ h => h, fun _ _ _ => rfl, fun _ _ _ h => h, fun _ _ _ => rfl, Nat.le_refl _, rfl, rfl, rfl, fun _ r h => ⟨r, h⟩, fun _ => rfl⟩

section keep
variable {m m' : Mu} {S S' : Sett} {w w' : World}
mutual
theorem Rep.keep (hm : ∀ nm p, m nm = some p → m' nm = some p) (hS : ∀ b j, S b j → S' b j) (hc : ∀ b j, S b j → w'.cell? ⟨b, j, none⟩ = w.cell? ⟨b, j, none⟩)
    (hs : ∀ b e n, Shape w b e n → Shape w' b e n) : ∀ {nf : Bool} {v : Value} {x : AV}, Rep m S w nf v x → Rep m' S' w' nf v x
  | _, _, _, .undef v => .undef v
  | _, _, _, .bool nf b => .bool nf b
  | _, _, _, .int nf k n => .int nf k n
  | _, _, _, .str nf s l h => .str nf s l h
  | _, _, _, .nilsl nf f => .nilsl nf f
  | _, _, _, .sl nf a n c cells full h1 h2 h3 => .sl nf a n c cells full h1 h2 (Row.keep hm hS hc hs h3)
  | _, _, _, .own nm off n sz c b o h1 h2 h3 => .own nm off n sz c b o (hm _ _ h1) h2 (by obtain ⟨e, k, a, c'⟩ := h3; exact ⟨e, k, hs _ _ _ a, c'⟩)
  | _, _, _, .own0 nm off sz b o a h1 => .own0 nm off sz b o a (hm _ _ h1)
  | _, _, _, .agg nf cs xs h h1 => .agg nf cs xs (RepL.keep hm hS hc hs h) h1
  | _, _, _, .tup nf cs xs h => .tup nf cs xs (RepL.keep hm hS hc hs h)
  | _, _, _, .clo nf f cs xs h => .clo nf f cs xs (RepL.keep hm hS hc hs h)
  | _, _, _, .yield l b h => .yield l b (hm _ _ h)
  | _, _, _, .nilFunc nf => .nilFunc nf
  | _, _, _, .nilIface nf => .nilIface nf
  | _, _, _, .iface nf t v x h => .iface nf t v x (Rep.keep hm hS hc hs h)
  | _, _, _, .ref nf a cells h h1 => .ref nf a cells (Row.keep hm hS hc hs h) h1
  | _, _, _, .loc nm off b o h => .loc nm off b o (hm _ _ h)
  | _, _, _, .nilptr nf => .nilptr nf
  | _, _, _, .map nm b h => .map nm b (hm _ _ h)
  | _, _, _, .nilmap nf => .nilmap nf
  | _, _, _, .res nf k n r M h0 h1 => .res nf k n r M h0 h1
theorem RepL.keep (hm : ∀ nm p, m nm = some p → m' nm = some p) (hS : ∀ b j, S b j → S' b j) (hc : ∀ b j, S b j → w'.cell? ⟨b, j, none⟩ = w.cell? ⟨b, j, none⟩)
    (hs : ∀ b e n, Shape w b e n → Shape w' b e n) : ∀ {nf : Bool} {v : List Value} {x : List AV}, RepL m S w nf v x → RepL m' S' w' nf v x
  | _, _, _, .nil nf => .nil nf
  | _, _, _, .cons nf v x vs xs h t => .cons nf v x vs xs (Rep.keep hm hS hc hs h) (RepL.keep hm hS hc hs t)
theorem Row.keep (hm : ∀ nm p, m nm = some p → m' nm = some p) (hS : ∀ b j, S b j → S' b j) (hc : ∀ b j, S b j → w'.cell? ⟨b, j, none⟩ = w.cell? ⟨b, j, none⟩)
    (hs : ∀ b e n, Shape w b e n → Shape w' b e n) : ∀ {a : Addr} {x : List AV}, Row m S w a x → Row m' S' w' a x
  | _, _, .nil a => .nil a
  | _, _, .cons b off v x xs h1 h2 h3 h4 t => .cons b off v x xs (hS _ _ h1) ((hc _ _ h1).trans h2) (Rep.keep hm hS hc hs h3) h4 (Row.keep hm hS hc hs t)
end
mutual
/-- What names nothing doesn't hang on the names. -/
theorem Rep.plain (hS : ∀ b j, S b j → S' b j) (hc : ∀ b j, S b j → w'.cell? ⟨b, j, none⟩ = w.cell? ⟨b, j, none⟩) (nf' : Bool) : ∀ {v : Value} {x : AV}, Rep m S w true v x → Rep m' S' w' nf' v x
  | _, _, .bool _ b => .bool _ b
  | _, _, .int _ k n => .int _ k n
  | _, _, .str _ s l h => .str _ s l h
  | _, _, .nilsl _ f => .nilsl _ f
  | _, _, .sl _ a n c cells full h1 h2 h3 => .sl _ a n c cells full h1 h2 (Row.plain hS hc h3)
  | _, _, .agg _ cs xs h h1 => .agg _ cs xs (RepL.plain hS hc nf' h) h1
  | _, _, .tup _ cs xs h => .tup _ cs xs (RepL.plain hS hc nf' h)
  | _, _, .clo _ f cs xs h => .clo _ f cs xs (RepL.plain hS hc nf' h)
  | _, _, .nilFunc _ => .nilFunc _
  | _, _, .nilIface _ => .nilIface _
  | _, _, .iface _ t v x h => .iface _ t v x (Rep.plain hS hc nf' h)
  | _, _, .ref _ a cells h h1 => .ref _ a cells (Row.plain hS hc h) h1
  | _, _, .nilptr _ => .nilptr _
  | _, _, .nilmap _ => .nilmap _
  | _, _, .res _ k n r M h0 h1 => .res _ k n r M h0 h1
theorem RepL.plain (hS : ∀ b j, S b j → S' b j) (hc : ∀ b j, S b j → w'.cell? ⟨b, j, none⟩ = w.cell? ⟨b, j, none⟩) (nf' : Bool) : ∀ {v : List Value} {x : List AV}, RepL m S w true v x → RepL m' S' w' nf' v x
  | _, _, .nil _ => .nil _
  | _, _, .cons _ v x vs xs h t => .cons _ v x vs xs (Rep.plain hS hc nf' h) (RepL.plain hS hc nf' t)
theorem Row.plain (hS : ∀ b j, S b j → S' b j) (hc : ∀ b j, S b j → w'.cell? ⟨b, j, none⟩ = w.cell? ⟨b, j, none⟩) : ∀ {a : Addr} {x : List AV}, Row m S w a x → Row m' S' w' a x
  | _, _, .nil a => .nil a
  | _, _, .cons b off v x xs h1 h2 h3 h4 t => .cons b off v x xs (hS _ _ h1) ((hc _ _ h1).trans h2) (Rep.plain hS hc true h3) h4 (Row.plain hS hc t)
end
end keep

theorem Rep.ext {m m' : Mu} {S S' : Sett} {H : Heap} {w w' : World} (h : Ext m S H w m' S' w') {nf : Bool} {v : Value} {x : AV} (r : Rep m S w nf v x) : Rep m' S' w' nf v x :=
  Rep.keep h.mu h.sub h.cell h.shape r
theorem RepL.ext {m m' : Mu} {S S' : Sett} {H : Heap} {w w' : World} (h : Ext m S H w m' S' w') {nf : Bool} {v : List Value} {x : List AV} (r : RepL m S w nf v x) : RepL m' S' w' nf v x :=
  RepL.keep h.mu h.sub h.cell h.shape r
theorem Row.ext {m m' : Mu} {S S' : Sett} {H : Heap} {w w' : World} (h : Ext m S H w m' S' w') {a : Addr} {x : List AV} (r : Row m S w a x) : Row m' S' w' a x :=
  Row.keep h.mu h.sub h.cell h.shape r

/-- One step behind another: what was no name of the second heap was none of the first, or is new. -/
theorem Ext.trans {m m' m'' : Mu} {S S' S'' : Sett} {H H' : Heap} {w w' w'' : World} (h : Ext m S H w m' S' w') (k : Ext m' S' H' w' m'' S'' w'')
    (hn : ∀ nm b o, live H' nm → m' nm = some (b, o) → b < w.heap.size → ∃ nm o, live H nm ∧ m nm = some (b, o)) : Ext m S H w m'' S'' w'' where
  mu nm p e := k.mu _ _ (h.mu _ _ e)
  sub b j e := k.sub _ _ (h.sub _ _ e)
  cell b j e := (k.cell _ _ (h.sub _ _ e)).trans (h.cell _ _ e)
  shape b e n s := k.shape _ _ _ (h.shape _ _ _ s)
  other b hb hno := by
    refine (k.other b (Nat.lt_of_lt_of_le hb h.size) (fun nm o hl e => ?_)).trans (h.other b hb hno)
    obtain ⟨nm1, o1, hl1, e1⟩ := hn nm b o hl e hb
    exact hno nm1 o1 hl1 e1
  size := Nat.le_trans h.size k.size
  os := k.os.trans h.os
  tape := k.tape.trans h.tape
  output := k.output.trans h.output
  loop b r e := let ⟨r1, e1⟩ := h.loop b r e; k.loop b r1 e1
  froz a := (k.froz a).trans (h.froz a)

/-! ### lists -/
section lists
variable {m : Mu} {S : Sett} {w : World}
theorem RepL.length {nf : Bool} : ∀ {vs : List Value} {xs : List AV}, RepL m S w nf vs xs → vs.length = xs.length
  | _, _, .nil _ => rfl
  | _, _, .cons _ _ _ _ _ _ t => by simp [RepL.length t]
theorem RepL.get {nf : Bool} : ∀ {vs : List Value} {xs : List AV}, RepL m S w nf vs xs → ∀ {i : Nat} {x : AV}, xs[i]? = some x → ∃ v, vs[i]? = some v ∧ Rep m S w nf v x
  | _, _, .nil _, i, x, h => by simp at h
  | _, _, .cons _ v y vs ys h t, 0, x, e => by simp at e; subst e; exact ⟨v, rfl, h⟩
  | _, _, .cons _ v y vs ys h t, i + 1, x, e => by simpa using RepL.get t (i := i) (by simpa using e)
theorem RepL.append {nf : Bool} : ∀ {vs us : List Value} {xs ys : List AV}, RepL m S w nf vs xs → RepL m S w nf us ys → RepL m S w nf (vs ++ us) (xs ++ ys)
  | _, _, _, _, .nil _, k => k
  | _, _, _, _, .cons _ v y vs ys h t, k => .cons _ _ _ _ _ h (RepL.append t k)
theorem RepL.take {nf : Bool} : ∀ {vs : List Value} {xs : List AV}, RepL m S w nf vs xs → ∀ n, RepL m S w nf (vs.take n) (xs.take n)
  | _, _, .nil _, n => by simpa using RepL.nil nf
  | _, _, .cons _ v y vs ys h t, 0 => .nil _
  | _, _, .cons _ v y vs ys h t, n + 1 => .cons _ _ _ _ _ h (RepL.take t n)
theorem RepL.drop {nf : Bool} : ∀ {vs : List Value} {xs : List AV}, RepL m S w nf vs xs → ∀ n, RepL m S w nf (vs.drop n) (xs.drop n)
  | _, _, .nil _, n => by simpa using RepL.nil nf
  | _, _, h@(.cons _ _ _ _ _ _ _), 0 => h
  | _, _, .cons _ v y vs ys h t, n + 1 => RepL.drop t n
theorem RepL.set {nf : Bool} : ∀ {vs : List Value} {xs : List AV}, RepL m S w nf vs xs → ∀ (i : Nat) {v : Value} {x : AV}, Rep m S w nf v x → RepL m S w nf (vs.set i v) (xs.set i x)
  | _, _, .nil _, _, _, _, _ => .nil _
  | _, _, .cons _ v y vs ys h t, 0, _, _, r => .cons _ _ _ _ _ r t
  | _, _, .cons _ v y vs ys h t, i + 1, _, _, r => .cons _ _ _ _ _ h (RepL.set t i r)
theorem RepL.of_get {nf : Bool} : ∀ {vs : List Value} {xs : List AV}, vs.length = xs.length → (∀ (i : Nat) (x : AV), xs[i]? = some x → ∃ v, vs[i]? = some v ∧ Rep m S w nf v x) → RepL m S w nf vs xs
  | [], [], _, _ => .nil _
  | v :: vs, x :: xs, hl, h => by
    obtain ⟨v', e, r⟩ := h 0 x rfl
    simp at e; subst e
    exact .cons _ _ _ _ _ r (RepL.of_get (by simpa using hl) (fun i y e => by simpa using h (i + 1) y (by simpa using e)))
  | [], _ :: _, hl, _ => by simp at hl
  | _ :: _, [], hl, _ => by simp at hl
theorem RepL.undefs (n : Nat) : RepL m S w false (List.replicate n Go.undef) (List.replicate n .undef) := by
  induction n with
  | zero => exact .nil _
  | succ n ih => exact .cons _ _ _ _ _ (.undef _) ih
theorem RepL.getD {vs : List Value} {xs : List AV} (h : RepL m S w false vs xs) (i : Nat) : Rep m S w false (vs.getD i Go.undef) (xs.getD i .undef) := by
  simp only [List.getD_eq_getElem?_getD]
  cases hx : xs[i]? with
  | none => exact .undef _
  | some x =>
    obtain ⟨v, e, r⟩ := h.get hx
    rw [e]; exact r
theorem Rep.weak {nf : Bool} {v : Value} {x : AV} (h : Rep m S w nf v x) : Rep m S w false v x := by
  cases nf
  · exact h
  · exact Rep.plain (fun _ _ h => h) (fun _ _ _ => rfl) false h
theorem RepL.mask (live : List Nat) : ∀ (i : Nat) {vs : List Value} {xs : List AV}, RepL m S w false vs xs → RepL m S w false vs (maskT live i xs)
  | _, _, _, .nil _ => .nil _
  | i, _, _, .cons _ v x vs xs h t => by
    unfold maskT
    refine .cons _ _ _ _ _ ?_ (RepL.mask live (i + 1) t)
    split
    · exact h
    · exact .undef v
theorem RepL.weak {nf : Bool} {v : List Value} {x : List AV} (h : RepL m S w nf v x) : RepL m S w false v x := by
  cases nf
  · exact h
  · exact RepL.plain (fun _ _ h => h) (fun _ _ _ => rfl) false h
theorem Row.get : ∀ {a : Addr} {xs : List AV}, Row m S w a xs → ∀ {i : Nat} {x : AV}, xs[i]? = some x → S a.block (a.off + i) ∧ a.spot = none ∧ ∃ v, w.cell? ⟨a.block, a.off + i, none⟩ = some v ∧ Rep m S w true v x ∧ one x = true
  | _, _, .nil _, i, x, h => by simp at h
  | _, _, .cons b off v y ys h1 h2 h3 h4 t, 0, x, e => by simp at e; subst e; exact ⟨h1, rfl, v, h2, h3, h4⟩
  | _, _, .cons b off v y ys h1 h2 h3 h4 t, i + 1, x, e => by
    obtain ⟨g1, _, v', g2, g3, g4⟩ := Row.get t (i := i) (by simpa using e)
    have e1 : off + 1 + i = off + (i + 1) := by omega
    exact ⟨e1 ▸ g1, rfl, v', e1 ▸ g2, g3, g4⟩
theorem Row.of_get : ∀ {xs : List AV} {b off : Nat}, (∀ (i : Nat) (x : AV), xs[i]? = some x → S b (off + i) ∧ ∃ v, w.cell? ⟨b, off + i, none⟩ = some v ∧ Rep m S w true v x ∧ one x = true) → Row m S w ⟨b, off, none⟩ xs
  | [], _, _, _ => .nil _
  | x :: xs, b, off, h => by
    obtain ⟨h1, v, h2, h3, h4⟩ := h 0 x rfl
    refine .cons b off v x xs h1 h2 h3 h4 (Row.of_get fun i y e => ?_)
    have e1 : off + (i + 1) = off + 1 + i := by omega
    have := h (i + 1) y (by simpa using e)
    rwa [e1] at this
theorem Row.addr {a : Addr} {xs : List AV} (h : Row m S w a xs) (hne : xs ≠ []) : a = ⟨a.block, a.off, none⟩ := by
  cases h with
  | nil => exact absurd rfl hne
  | cons => rfl
theorem Row.drop {a : Addr} {xs : List AV} (h : Row m S w a xs) (n : Nat) : Row m S w (a.add n) (xs.drop n) := by
  rcases Nat.eq_zero_or_pos n with rfl | hn
  · simpa [Addr.add] using h
  · rcases Nat.lt_or_ge n xs.length with hlt | hge
    · have e : a.add n = ⟨a.block, a.off + n, none⟩ := by simp [Addr.add, show n ≠ 0 by omega]
      rw [e]
      refine Row.of_get fun i x hx => ?_
      rw [List.getElem?_drop] at hx
      obtain ⟨g1, _, g2⟩ := h.get hx
      have e1 : a.off + (n + i) = a.off + n + i := by omega
      rw [e1] at g1 g2
      exact ⟨g1, g2⟩
    · rw [List.drop_of_length_le hge]; exact .nil _
theorem Row.take {a : Addr} {xs : List AV} (h : Row m S w a xs) (n : Nat) : Row m S w a (xs.take n) := by
  by_cases hne : xs = []
  · subst hne; simpa using h
  · rw [h.addr hne]
    refine Row.of_get fun i x hx => ?_
    rw [List.getElem?_take] at hx
    split at hx
    · obtain ⟨g1, _, g2⟩ := h.get hx
      exact ⟨g1, g2⟩
    · cases hx
end lists

/-! ### an object that isn't touched -/
theorem ObjIn.keep {P : Program} {base : Nat} {m m' : Mu} {S S' : Sett} {w w' : World} {nm : Nat} {o : AO} (h : ObjIn P base m S w nm o)
    (hm : ∀ nm p, m nm = some p → m' nm = some p) (hS : ∀ b j, S b j → S' b j) (hc : ∀ b j, S b j → w'.cell? ⟨b, j, none⟩ = w.cell? ⟨b, j, none⟩)
    (hs : ∀ b e n, Shape w b e n → Shape w' b e n)
    (hb : ∀ b q, m nm = some (b, q) → w'.heap[b]? = w.heap[b]? ∧ ∀ j, S' b j → S b j) : ObjIn P base m' S' w' nm o := by
  cases o with
  | dead => trivial
  | row e cs fr =>
    obtain ⟨b, q, n, i, r⟩ := h
    obtain ⟨hh, hns⟩ := hb _ _ r.mu
    have hcell : ∀ j, w'.cell? ⟨b, j, none⟩ = w.cell? ⟨b, j, none⟩ := fun j => by simp [World.cell?, hh]
    exact ⟨b, q, n, i, hm _ _ r.mu, r.base, hs _ _ _ r.shape, r.fits, fun j => by have := r.free j; simpa [World.frozen?, hh] using this,
      fun j x hx => by obtain ⟨v, h1, h2, h3⟩ := r.cells j x hx; exact ⟨v, (hcell _).trans h1, Rep.keep hm hS hc hs h2, h3⟩,
      r.info, fun hf j hj => hS _ _ (r.setl hf j hj), fun hf j hj => r.uns hf j (hns j hj), fun j hj => r.top j (hns j hj)⟩
  | loop st pd tm ps asg bd =>
    obtain ⟨b, r, h1, h2, h3, h4, h5, h6, h7, h8, h9⟩ := h
    exact ⟨b, r, hm _ _ h1, h2, (hb _ _ h1).1.trans h3, h4, h5, h6, h7, h8, RepL.keep hm hS hc hs h9⟩
  | map kt vt es bs ck =>
    obtain ⟨b, es', h1, h2, h3, h4, h5, h6⟩ := h
    exact ⟨b, es', hm _ _ h1, h2, (hb _ _ h1).1.trans h3, RepL.keep hm hS hc hs h4, RepL.keep hm hS hc hs h5, h6⟩
  | iter mp since seen last =>
    obtain ⟨b, mb, h1, h2, h3, h4⟩ := h
    refine ⟨b, mb, hm _ _ h1, h2, (hb _ _ h1).1.trans h3, ?_⟩
    cases mp with
    | none => exact h4
    | some mn => obtain ⟨c, h5, h6⟩ := h4; exact ⟨c, hm _ _ h5, h6⟩

theorem ObjIn.mu {P : Program} {base : Nat} {m : Mu} {S : Sett} {w : World} {nm : Nat} {o : AO} (h : ObjIn P base m S w nm o) (hne : o ≠ .dead) : ∃ b q, m nm = some (b, q) ∧ base ≤ b ∧ b < w.heap.size := by
  cases o with
  | dead => exact absurd rfl hne
  | row e cs fr =>
    obtain ⟨b, q, n, i, r⟩ := h
    obtain ⟨arr, rng, hh, _⟩ := r.shape
    exact ⟨b, q, r.mu, r.base, (Array.getElem?_eq_some_iff.1 hh).1⟩
  | loop st pd tm ps asg bd =>
    obtain ⟨b, r, h1, h2, h3, _⟩ := h
    exact ⟨b, 0, h1, h2, (Array.getElem?_eq_some_iff.1 h3).1⟩
  | map kt vt es bs ck =>
    obtain ⟨b, es', h1, h2, h3, _⟩ := h
    exact ⟨b, 0, h1, h2, (Array.getElem?_eq_some_iff.1 h3).1⟩
  | iter mp since seen last =>
    obtain ⟨b, mb, h1, h2, h3, _⟩ := h
    exact ⟨b, 0, h1, h2, (Array.getElem?_eq_some_iff.1 h3).1⟩

/-! ### steps -/
structure Step (P : Program) (base : Nat) (m : Mu) (S : Sett) (H : Heap) (w : World) (m' : Mu) (S' : Sett) (H' : Heap) (w' : World) : Prop where
  rel : Rel P base m' S' H' w'
  ext : Ext m S H w m' S' w'
  back : ∀ nm b o, live H' nm → m' nm = some (b, o) → b < w.heap.size → ∃ nm0 o0, live H nm0 ∧ m nm0 = some (b, o0)
  len : H.length ≤ H'.length
  grow : ∀ b j, S' b j → S b j ∨ base ≤ b

theorem Step.refl {P : Program} {base : Nat} {m : Mu} {S : Sett} {H : Heap} {w : World} (h : Rel P base m S H w) : Step P base m S H w m S H w :=
  ⟨h, Ext.refl _ _ _ _, fun nm b o hl e _ => ⟨nm, o, hl, e⟩, Nat.le_refl _, fun _ _ h => .inl h⟩

theorem Step.trans {P : Program} {base : Nat} {m m' m'' : Mu} {S S' S'' : Sett} {H H' H'' : Heap} {w w' w'' : World} (h : Step P base m S H w m' S' H' w') (k : Step P base m' S' H' w' m'' S'' H'' w'') :
    Step P base m S H w m'' S'' H'' w'' where
  rel := k.rel
  ext := h.ext.trans k.ext (fun nm b o hl e hb => h.back nm b o hl e hb)
  back nm b o hl e hb := by
    obtain ⟨nm0, o0, hl0, e0⟩ := k.back nm b o hl e (Nat.lt_of_lt_of_le hb h.ext.size)
    exact h.back nm0 b o0 hl0 e0 hb
  len := Nat.le_trans h.len k.len
  grow b j e := (k.grow b j e).elim (h.grow b j) .inr

/-- A name that is laid. -/
structure Lay (H : Heap) (nm : Nat) (o : AO) (H' : Heap) : Prop where
  new : H'[nm]? = some o
  old : ∀ k, k ≠ nm → H'[k]? = H[k]?
  was : ¬ live H nm
  len : H.length ≤ H'.length
  lt : nm < H'.length

theorem Lay.append (H : Heap) (o : AO) : Lay H H.length o (H ++ [o]) where
  new := by simp
  old k hk := by
    rcases Nat.lt_or_ge k H.length with h | h
    · rw [List.getElem?_append_left h]
    · rw [List.getElem?_append_right h, List.getElem?_eq_none (by simp; omega), List.getElem?_eq_none (by omega)]
  was := fun ⟨o, h, _⟩ => by simp at h
  len := by simp
  lt := by simp

theorem Lay.set {H : Heap} {nm : Nat} (h : H[nm]? = some .dead) (o : AO) : Lay H nm o (H.set nm o) := by
  have hlt : nm < H.length := (List.getElem?_eq_some_iff.1 h).1
  exact ⟨by simp [hlt], fun k hk => by rw [List.getElem?_set_ne (Ne.symm hk)], fun ⟨o', e, hne⟩ => by rw [h] at e; cases e; exact hne rfl, by simp, by simpa using hlt⟩

/-- The world has a new block; all else is as it was. -/
structure Born (w w' : World) : Prop where
  size : w'.heap.size = w.heap.size + 1
  old : ∀ b, b < w.heap.size → w'.heap[b]? = w.heap[b]?
  os : w'.os = w.os
  tape : w'.tape = w.tape
  output : w'.output = w.output
  froz : ∀ a : Addr, w'.frozen? a = w.frozen? a

theorem Born.cell {w w' : World} (h : Born w w') {b : Nat} (hb : b < w.heap.size) (j : Nat) : w'.cell? ⟨b, j, none⟩ = w.cell? ⟨b, j, none⟩ := by simp [World.cell?, h.old b hb]
theorem Born.shape {w w' : World} (h : Born w w') {b : Nat} {e : TypeId} {n : Nat} (hs : Shape w b e n) : Shape w' b e n := by
  obtain ⟨arr, rng, hh, hn⟩ := hs
  exact ⟨arr, rng, (h.old b (Array.getElem?_eq_some_iff.1 hh).1).trans hh, hn⟩
theorem cell_lt {w : World} {b j : Nat} (h : (w.cell? ⟨b, j, none⟩).isSome = true) : b < w.heap.size := by
  obtain ⟨v, hv⟩ := Option.isSome_iff_exists.1 h
  exact World.block_lt_of_cell? w _ hv

def muPut (m : Mu) (nm b o : Nat) : Mu := fun k => if k = nm then some (b, o) else m k

/-- A new object under a new name. -/
theorem Rel.born {P : Program} {base : Nat} {m : Mu} {S S' : Sett} {H H' : Heap} {w w' : World} {nm : Nat} {o : AO} (h : Rel P base m S H w) (hl : Lay H nm o H') (hm : m nm = none) (hb : Born w w')
    (hne : o ≠ .dead) (hS1 : ∀ b j, S b j → S' b j) (hS2 : ∀ b j, S' b j → b < w.heap.size → S b j) (hS3 : ∀ j, S' w.heap.size j → (w'.cell? ⟨w.heap.size, j, none⟩).isSome = true) (hS4 : ∀ b j, S' b j → b ≤ w.heap.size)
    (ho : ObjIn P base (muPut m nm w.heap.size 0) S' w' nm o) : Step P base m S H w (muPut m nm w.heap.size 0) S' H' w' := by
  have hmu : ∀ k p, m k = some p → muPut m nm w.heap.size 0 k = some p := fun k p e => by
    unfold muPut; split
    · rename_i hk; subst hk; rw [hm] at e; cases e
    · exact e
  have hcell : ∀ b j, S b j → w'.cell? ⟨b, j, none⟩ = w.cell? ⟨b, j, none⟩ := fun b j hs => hb.cell (cell_lt (h.sett b j hs)) j
  have hshape : ∀ b e n, Shape w b e n → Shape w' b e n := fun _ _ _ hs => hb.shape hs
  have hlive : ∀ k, k ≠ nm → live H' k → live H k := fun k hk ⟨o, e, hne⟩ => ⟨o, (hl.old k hk) ▸ e, hne⟩
  have hlt : ∀ k, live H k → ∀ b q, m k = some (b, q) → b < w.heap.size := fun k ⟨o, e, hne⟩ b q e2 => by
    obtain ⟨b', q', e3, _, h4⟩ := (h.obj k o e).mu hne
    rw [e2] at e3; cases e3; exact h4
  refine ⟨⟨by have := h.size; have := hb.size; omega, ?_, ?_, ?_, ?_⟩, ⟨hmu, hS1, hcell, hshape, fun b hb' _ => hb.old b hb', by have := hb.size; omega, hb.os, hb.tape, hb.output, fun b r e => ⟨r, (hb.old b (Array.getElem?_eq_some_iff.1 e).1).trans e⟩, hb.froz⟩, ?_, hl.len, fun b j e => (Nat.lt_or_ge b w.heap.size).imp (hS2 b j e) (Nat.le_trans h.size)⟩
  · intro k p e
    unfold muPut at e; split at e
    · rename_i hk; subst hk; exact hl.lt
    · exact Nat.lt_of_lt_of_le (h.dom k p e) hl.len
  · intro k o' e
    by_cases hk : k = nm
    · subst hk; rw [hl.new] at e; cases e; exact ho
    · rw [hl.old k hk] at e
      by_cases hd : o' = .dead
      · subst hd; trivial
      · refine (h.obj k o' e).keep hmu hS1 hcell hshape fun b q e2 => ⟨hb.old b (hlt k ⟨o', e, hd⟩ b q e2), fun j hj => hS2 b j hj (hlt k ⟨o', e, hd⟩ b q e2)⟩
  · intro k k' b q q' hk hk' e e'
    by_cases h1 : k = nm <;> by_cases h2 : k' = nm
    · rw [h1, h2]
    · subst h1
      simp only [muPut, if_true, if_neg h2] at e e'
      cases e
      exact absurd (hlt k' (hlive k' h2 hk') _ _ e') (Nat.lt_irrefl _)
    · subst h2
      simp only [muPut, if_true, if_neg h1] at e e'
      cases e'
      exact absurd (hlt k (hlive k h1 hk) _ _ e) (Nat.lt_irrefl _)
    · simp only [muPut, if_neg h1, if_neg h2] at e e'
      exact h.inj k k' b q q' (hlive k h1 hk) (hlive k' h2 hk') e e'
  · intro b j hs
    rcases Nat.lt_or_ge b w.heap.size with hlt' | hge
    · have hs' := hS2 b j hs hlt'
      rw [hcell b j hs']; exact h.sett b j hs'
    · have : b = w.heap.size := Nat.le_antisymm (hS4 b j hs) hge
      subst this; exact hS3 j hs
  · intro k b q hk e hlt'
    by_cases h1 : k = nm
    · subst h1; simp only [muPut, if_true] at e; cases e; omega
    · simp only [muPut, if_neg h1] at e
      exact ⟨k, q, hlive k h1 hk, e⟩

/-- An object's own block, and it alone, turns. -/
theorem Rel.touch {P : Program} {base : Nat} {m : Mu} {S : Sett} {H H' : Heap} {w w' : World} {nm b q : Nat} (h : Rel P base m S H w) (hlv : live H nm) (hmu : m nm = some (b, q))
    (hH : ∀ k, k ≠ nm → H'[k]? = H[k]?) (hlen : H'.length = H.length) (hlv' : ∀ o, H'[nm]? = some o → ObjIn P base m S w' nm o)
    (hw : ∀ b', b' ≠ b → w'.heap[b']? = w.heap[b']?) (hsz : w'.heap.size = w.heap.size) (hshape : ∀ b e n, Shape w b e n → Shape w' b e n)
    (hcell : ∀ b j, S b j → w'.cell? ⟨b, j, none⟩ = w.cell? ⟨b, j, none⟩) (hos : w'.os = w.os) (ht : w'.tape = w.tape) (hout : w'.output = w.output) (hlp : ∀ (b : Nat) (r : Loop), w.heap[b]? = some (Obj.loop r) → ∃ r', w'.heap[b]? = some (Obj.loop r')) (hfz : ∀ a : Addr, w'.frozen? a = w.frozen? a) : Step P base m S H w m S H' w' := by
  have hlive : ∀ k, live H' k → live H k := fun k ⟨o, e, hne⟩ => by
    by_cases hk : k = nm
    · subst hk; exact hlv
    · exact ⟨o, (hH k hk) ▸ e, hne⟩
  refine ⟨⟨by have := h.size; omega, fun k p e => by rw [hlen]; exact h.dom k p e, ?_, fun k k' b q q' hk hk' => h.inj k k' b q q' (hlive k hk) (hlive k' hk'), fun b j hs => by rw [hcell b j hs]; exact h.sett b j hs⟩,
    ⟨fun _ _ e => e, fun _ _ e => e, hcell, hshape, fun b' _ hno => hw b' (fun e => hno nm q hlv (e ▸ hmu)), by omega, hos, ht, hout, hlp, hfz⟩, fun k b q hk e _ => ⟨k, q, hlive k hk, e⟩, by omega, fun _ _ h => .inl h⟩
  intro k o e
  by_cases hk : k = nm
  · subst hk; exact hlv' o e
  · rw [hH k hk] at e
    by_cases hd : o = .dead
    · subst hd; trivial
    · refine (h.obj k o e).keep (fun _ _ e => e) (fun _ _ e => e) hcell hshape fun b' q' e2 => ⟨hw b' (fun eb => hk (h.inj k nm b q' q ⟨o, e, hd⟩ hlv (eb ▸ e2) hmu)), fun _ e => e⟩

/-- A name dies. -/
theorem Rel.kill {P : Program} {base : Nat} {m : Mu} {S : Sett} {H : Heap} {w : World} (h : Rel P base m S H w) (nm : Nat) : Step P base m S H w m S (H.set nm .dead) w := by
  have hlive : ∀ k, live (H.set nm .dead) k → live H k := fun k ⟨o, e, hne⟩ => by
    by_cases hk : k = nm
    · subst hk
      rw [List.getElem?_set_self' ] at e
      cases h2 : H[k]? with
      | none => simp [h2] at e
      | some y => simp [h2] at e; exact absurd e.symm hne
    · rw [List.getElem?_set_ne (Ne.symm hk)] at e; exact ⟨o, e, hne⟩
  refine ⟨⟨h.size, fun k p e => by simpa using h.dom k p e, ?_, fun k k' b q q' hk hk' => h.inj k k' b q q' (hlive k hk) (hlive k' hk'), h.sett⟩, Ext.refl _ _ _ _, fun k b q hk e _ => ⟨k, q, hlive k hk, e⟩, by simp, fun _ _ h => .inl h⟩
  intro k o e
  by_cases hd : o = .dead
  · subst hd; trivial
  · obtain ⟨o', e', hne'⟩ := hlive k ⟨o, e, hd⟩
    by_cases hk : k = nm
    · subst hk
      rw [List.getElem?_set_self', e'] at e
      simp at e; exact absurd e.symm hd
    · rw [List.getElem?_set_ne (Ne.symm hk)] at e
      exact h.obj k o e

/-- A name dies; a new one has its block. -/
theorem Rel.heir {P : Program} {base : Nat} {m : Mu} {S S' : Sett} {H H' : Heap} {w w' : World} {nm nm' b q q' : Nat} {o : AO} (h : Rel P base m S H w) (hlv : live H nm) (hmu : m nm = some (b, q))
    (hl : Lay (H.set nm .dead) nm' o H') (hm : m nm' = none) (hne : o ≠ .dead)
    (hS1 : ∀ b j, S b j → S' b j) (hS2 : ∀ b' j, S' b' j → b' ≠ b → S b' j) (hS3 : ∀ j, S' b j → (w'.cell? ⟨b, j, none⟩).isSome = true)
    (ho : ObjIn P base (muPut m nm' b q') S' w' nm' o)
    (hw : ∀ b', b' ≠ b → w'.heap[b']? = w.heap[b']?) (hsz : w'.heap.size = w.heap.size) (hshape : ∀ b e n, Shape w b e n → Shape w' b e n)
    (hcell : ∀ b j, S b j → w'.cell? ⟨b, j, none⟩ = w.cell? ⟨b, j, none⟩) (hos : w'.os = w.os) (ht : w'.tape = w.tape) (hout : w'.output = w.output) (hlp : ∀ (b : Nat) (r : Loop), w.heap[b]? = some (Obj.loop r) → ∃ r', w'.heap[b]? = some (Obj.loop r')) (hfz : ∀ a : Addr, w'.frozen? a = w.frozen? a) : Step P base m S H w (muPut m nm' b q') S' H' w' := by
  have hk0 := h.kill nm
  have hnn : nm' ≠ nm := fun e => by rw [e, hmu] at hm; cases hm
  have hmu' : ∀ k p, m k = some p → muPut m nm' b q' k = some p := fun k p e => by
    unfold muPut; split
    · rename_i hk; subst hk; rw [hm] at e; cases e
    · exact e
  have hlive : ∀ k, k ≠ nm' → live H' k → live (H.set nm .dead) k := fun k hk ⟨o, e, hne⟩ => ⟨o, (hl.old k hk) ▸ e, hne⟩
  have hliveH : ∀ k, live (H.set nm .dead) k → live H k ∧ k ≠ nm := fun k ⟨o, e, hne⟩ => by
    by_cases hk : k = nm
    · subst hk
      rw [List.getElem?_set_self'] at e
      cases h2 : H[k]? with
      | none => simp [h2] at e
      | some y => simp [h2] at e; exact absurd e.symm hne
    · rw [List.getElem?_set_ne (Ne.symm hk)] at e; exact ⟨⟨o, e, hne⟩, hk⟩
  have hapart : ∀ k, live (H.set nm .dead) k → ∀ b' q1, m k = some (b', q1) → b' ≠ b := fun k hk b' q1 e eb => by
    obtain ⟨h1, h2⟩ := hliveH k hk
    subst eb
    exact h2 (h.inj k nm _ q1 q h1 hlv e hmu)
  refine ⟨⟨by have := h.size; omega, ?_, ?_, ?_, ?_⟩, ⟨hmu', hS1, hcell, hshape, fun b' _ hno => hw b' (fun e => hno nm q hlv (e ▸ hmu)), by omega, hos, ht, hout, hlp, hfz⟩, ?_, by have := hl.len; simpa using this, fun b' j e => (Decidable.em (b' = b)).elim (fun q => .inr (by subst q; obtain ⟨o0, e0, ne0⟩ := hlv; obtain ⟨b1, q1, m1, l1, _⟩ := (h.obj nm o0 e0).mu ne0; rw [hmu] at m1; cases m1; exact l1)) (fun q => .inl (hS2 b' j e q))⟩
  · intro k p e
    unfold muPut at e; split at e
    · rename_i hk; subst hk; exact hl.lt
    · exact Nat.lt_of_lt_of_le (hk0.rel.dom k p e) hl.len
  · intro k o' e
    by_cases hk : k = nm'
    · subst hk; rw [hl.new] at e; cases e; exact ho
    · rw [hl.old k hk] at e
      by_cases hd : o' = .dead
      · subst hd; trivial
      · have hkl : live (H.set nm .dead) k := ⟨o', e, hd⟩
        refine (hk0.rel.obj k o' e).keep hmu' hS1 hcell hshape fun b' q1 e2 => ⟨hw b' (hapart k hkl b' q1 e2), fun j hj => hS2 b' j hj (hapart k hkl b' q1 e2)⟩
  · intro k k' b1 q1 q2 hk hk' e e'
    by_cases h1 : k = nm' <;> by_cases h2 : k' = nm'
    · rw [h1, h2]
    · subst h1
      simp only [muPut, if_true, if_neg h2] at e e'
      cases e
      exact absurd rfl (hapart k' (hlive k' h2 hk') _ _ e')
    · subst h2
      simp only [muPut, if_true, if_neg h1] at e e'
      cases e'
      exact absurd rfl (hapart k (hlive k h1 hk) _ _ e)
    · simp only [muPut, if_neg h1, if_neg h2] at e e'
      exact h.inj k k' b1 q1 q2 (hliveH k (hlive k h1 hk)).1 (hliveH k' (hlive k' h2 hk')).1 e e'
  · intro b' j hs
    by_cases hb' : b' = b
    · subst hb'; exact hS3 j hs
    · have := hS2 b' j hs hb'
      rw [hcell b' j this]; exact h.sett b' j this
  · intro k b1 q1 hk e hlt'
    by_cases h1 : k = nm'
    · subst h1; simp only [muPut, if_true] at e; cases e; exact ⟨nm, q, hlv, hmu⟩
    · simp only [muPut, if_neg h1] at e
      exact ⟨k, q1, (hliveH k (hlive k h1 hk)).1, e⟩
end Go.Px
