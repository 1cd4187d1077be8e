/- One operation: all of it. -/
import Derived.Test.YtefondfmngjekaaGreatPxG
import Derived.Test.YtefondfmngjekaaGreatPxGa
import Derived.Test.YtefondfmngjekaaGreatPxFa
import Derived.Laws.BytesString
import Derived.CallsIn
set_option linter.unusedVariables false
set_option linter.unusedSimpArgs false
namespace Go.Px
open Go Go.RowKit

def OutN (P : Program) (base : Nat) (sl : Option Nat) (m : Mu) (S : Sett) (H : Heap) (w : World) (res : Result Next) (H' : Heap) (x : AV) : Prop :=
  ∃ nx v' w' m' S', res = .ok nx w' ∧ (nx = .value v' ∨ (nx = .skip ∧ v' = Go.undef)) ∧ Step P base m S H w m' S' H' w' ∧ Gaps sl m H m' H' ∧ Rep m' S' w' false v' x

/-- What an effect says of the model's next step. -/
def NextOk (P : Program) (base : Nat) (sl : Option Nat) (m : Mu) (S : Sett) (H : Heap) (w : World) (res : Result Next) : Eff → Prop
  | .val x => OutN P base sl m S H w res H x
  | .new o f => OutN P base sl m S H w res (layNew sl H o).2 (f (layNew sl H o).1)
  | .put nm o x => OutN P base sl m S H w res (H.set nm o) x
  | .app nm o n sz => OutN P base sl m S H w res (layNew sl (H.set nm .dead) o).2 (.own (layNew sl (H.set nm .dead) o).1 0 n sz)
  | .call (.func f) args => ∃ args', res = (callFunc f args').run P w ∧ RepL m S w false args'.toList args
  | .call (.yield l) args => ∃ args' b, m l = some (b, 0) ∧ res = (Instr.yield b args').run P w ∧ RepL m S w false args'.toList args

section ops
variable {P : Program} {E : Env} {base : Nat} {m : Mu} {S : Sett} {H : Heap} {w : World} {slot : Option Nat}

theorem nextV {s : Sem Value} {H' : Heap} {x : AV} (h : Out P base slot m S H w (s.run P w) H' x) : OutN P base slot m S H w ((do pure (.value (← s)) : Sem Next).run P w) H' x := by
  obtain ⟨v', w', m', S', h1, h2, h3, h4⟩ := h
  exact ⟨.value v', v', w', m', S', by simp [Sem.run_bind, h1], .inl rfl, h2, h3, h4⟩

theorem nextP (hR : Rel P base m S H w) {s : Sem Value} {x : AV} (h : ∃ v', s.run P w = .ok v' w ∧ Rep m S w false v' x) : OutN P base slot m S H w ((do pure (.value (← s)) : Sem Next).run P w) H x := by
  obtain ⟨v', h1, h2⟩ := h
  exact ⟨.value v', v', w, m, S, by simp [Sem.run_bind, h1], .inl rfl, Step.refl hR, Gaps.refl _ _ _, h2⟩

theorem nextE {s : Sem Value} {eff : Eff} (hR : Rel P base m S H w) (h : EffOk P base slot m S H w (s.run P w) eff) : NextOk P base slot m S H w ((do pure (.value (← s)) : Sem Next).run P w) eff := by
  cases eff with
  | val x => exact nextP hR h
  | new o f => exact nextV h
  | put nm o x => exact nextV h
  | app nm o n sz => exact nextV h
  | call t args => exact h.elim

theorem op_ok {a : Act} {tm : List AV} (hT : RepL m S w false a.tmps.toList tm) (o : Operand) : Rep m S w false (a.eval o) (opA tm o) := by
  cases o with
  | tmp t =>
    have := hT.getD t
    simpa [Act.eval, opA, Array.getD_eq_getD_getElem?, List.getD_eq_getElem?_getD] using this
  | const v =>
    by_cases h : ofVal v = .undef
    · simp only [opA, h]; exact .undef _
    · exact (ofVal_rep v h).weak
  | func f => exact .clo false f [] [] (.nil _)
  | global g => exact .undef _

theorem ops_ok {a : Act} {tm : List AV} (hT : RepL m S w false a.tmps.toList tm) : ∀ (l : List Operand), RepL m S w false (l.map a.eval) (l.map (opA tm))
  | [] => .nil _
  | o :: l => .cons _ _ _ _ _ (op_ok hT o) (ops_ok hT l)

theorem parts_ok {a : Act} {tm : List AV} (hT : RepL m S w false a.tmps.toList tm) : ∀ (l : List (Nat × Operand)), RepP m S w (l.map fun (i, x) => (i, a.eval x)) (l.map fun (i, x) => (i, opA tm x))
  | [] => .nil
  | (i, o) :: l => .cons _ _ _ _ _ (op_ok hT o) (parts_ok hT l)

theorem opt_some {a : Act} {tm : List AV} (hT : RepL m S w false a.tmps.toList tm) (o : Option Operand) : ∀ y, o.map (opA tm) = some y → ∃ v, o.map a.eval = some v ∧ Rep m S w false v y := by
  intro y hy
  cases o with
  | none => simp at hy
  | some x => simp at hy; subst hy; exact ⟨_, rfl, op_ok hT x⟩
theorem opt_none {a : Act} {tm : List AV} (o : Option Operand) : o.map (opA tm) = none → o.map a.eval = none := by
  intro h; cases o <;> simp_all

theorem foldl_push : ∀ (ns : List Int) (r : ByteArray), (ns.foldl (fun r n => r.push (UInt8.ofNat n.toNat)) r).data.toList = r.data.toList ++ ns.map fun n => UInt8.ofNat n.toNat
  | [], r => by simp
  | n :: ns, r => by
    rw [List.foldl_cons, foldl_push ns]
    simp [ByteArray.push]

theorem bytes_rep : ∀ {vs : List Value} {cs : List AV} {l : List Nat}, RepL m S w false vs cs → bytesA cs = some l → ∃ ns : List Int, vs = ns.map (Value.int .u8) ∧ (ns.map fun n => (UInt8.ofNat n.toNat).toNat) = l
  | _, _, l, .nil _, h => by simp [bytesA] at h; subst h; exact ⟨[], rfl, rfl⟩
  | _, _, l, .cons _ v x vs xs hv t, h => by
    cases x with
    | int k n =>
      cases k <;> simp only [bytesA] at h <;> try (cases h; done)
      split at h
      · rename_i hn
        simp only [Option.map_eq_some_iff] at h
        obtain ⟨l', h1, rfl⟩ := h
        obtain ⟨ns, rfl, h2⟩ := bytes_rep t h1
        obtain rfl := rep_int hv
        refine ⟨n :: ns, rfl, ?_⟩
        simp only [List.map_cons, h2]
        congr 1
        simp only [UInt8.toNat_ofNat']
        omega
      · cases h
    | _ => simp [bytesA] at h

theorem bstr_ok (hE : EnvOk P E) (hR : Rel P base m S H w) {src dst e : TypeId} {x' : Value} {x : AV} {eff : Eff} {acc : Acc} (hx : Rep m S w false x' x) (hu1 : P.underlying src = some (.slice e)) (hu2 : P.underlying dst = some .string) (hsl : (∃ n cs f, x = .sl n cs f) ∨ ∃ nm off n sz, x = .own nm off n sz)
    (h : bstrA E H e x = some (eff, acc)) : EffOk P base slot m S H w ((convert src dst x').run P w) eff := by
  unfold bstrA at h
  split at h
  · rename_i n cs ac he hc
    simp only [Option.map_eq_some_iff] at h he
    obtain ⟨l, hl, he2⟩ := h
    cases he2
    obtain ⟨ei, hei, hed⟩ := he
    obtain ⟨d3, _, _, hu3, _, hd3, _⟩ := hE.ty e ei hei
    obtain rfl := desc_int (hd3.symm.trans hed)
    obtain ⟨news, n1, n2, n3, hsrc⟩ := content_ok (P := P) hR hx hc (.inl ⟨_, hu1⟩)
    obtain ⟨ns, rfl, hns⟩ := bytes_rep n1 hl
    have hval : ∃ a n c, x' = .slice a n c ∧ (a = none → n = 0) := by
      rcases hsl with ⟨n, cs, f, rfl⟩ | ⟨nm, off, n, sz, rfl⟩
      · cases hx with
        | nilsl => exact ⟨none, 0, 0, rfl, fun _ => rfl⟩
        | sl _ a n c cells full h1 h2 h3 => exact ⟨some a, n, c, rfl, fun h => by cases h⟩
      · cases hx with
        | own nm off n sz c b o h1 h2 h3 => exact ⟨_, n, c, rfl, fun h => by cases h⟩
        | own0 nm off sz b o a h1 => exact ⟨a, 0, 0, rfl, fun _ => rfl⟩
    obtain ⟨a, n', c, rfl, ha⟩ := hval
    have hlen : n = n' := by
      have := hsrc.len w
      simp [Builtin.lenOf] at this
      exact this.symm
    subst hlen
    have hconv : (convert src dst (.slice a n c)).run P w = (Conv.bytesToString (.slice a n c)).run P w := by
      simp [convert, Sem.run_bind, run_underlying hu1, run_underlying hu2, run_underlying hu3]
    have hstr : (ns.foldl (fun r n => r.push (UInt8.ofNat n.toNat)) ByteArray.empty).data.toList.map UInt8.toNat = l := by
      rw [foldl_push]
      simp only [show (ByteArray.empty).data.toList = [] from rfl, List.nil_append, List.map_map]
      exact hns
    simp only [EffOk]
    rw [hconv]
    cases a with
    | none =>
      obtain rfl := ha rfl
      have h0 : ns = [] := by
        have := n1.length
        rw [n3] at this
        simpa using this
      subst h0
      exact ⟨.string .empty, by simp [Conv.bytesToString], .str _ _ _ hstr⟩
    | some a =>
      have hl2 : (loadCells a n).run P w = .ok (ns.map (Value.int .u8)).toArray w := by
        have := hsrc.cells
        simpa [Builtin.firstCells] using this
      exact ⟨_, run_bytesToString w a n c ns hl2, .str _ _ _ hstr⟩
  · cases h

theorem conv_ok (hE : EnvOk P E) (hR : Rel P base m S H w) {src dst : TypeId} {x' : Value} {x : AV} {eff : Eff} {acc : Acc} (hx : Rep m S w false x' x) (h : convA E H src dst x = some (eff, acc)) : EffOk P base slot m S H w ((convert src dst x').run P w) eff := by
  unfold convA at h
  cases hi : E.ty src with
  | none => simp [hi] at h
  | some i =>
    simp only [hi, Option.bind_eq_bind, Option.bind_some] at h
    cases hj : E.ty dst with
    | none => simp [hj] at h
    | some j =>
      simp only [hj, Option.bind_some] at h
      obtain ⟨d1, _, _, hu1, _, hd1, _⟩ := hE.ty src i hi
      obtain ⟨d2, _, _, hu2, _, hd2, _⟩ := hE.ty dst j hj
      split at h
      · rename_i k1 k2 k n e1 e2
        obtain rfl := desc_int (hd1.symm.trans e1)
        obtain rfl := desc_int (hd2.symm.trans e2)
        obtain rfl := rep_int hx
        simp at h; obtain ⟨rfl, _⟩ := h
        exact ⟨_, by simp [convert, Sem.run_bind, run_underlying hu1, run_underlying hu2, Conv.intToInt], .int _ _ _⟩
      · rename_i s e1 e2
        obtain rfl := desc_str (hd1.symm.trans e1)
        obtain rfl := desc_str (hd2.symm.trans e2)
        obtain ⟨b, rfl, hb⟩ := rep_str hx
        simp at h; obtain ⟨rfl, _⟩ := h
        exact ⟨_, by simp [convert, Sem.run_bind, run_underlying hu1, run_underlying hu2], .str _ _ _ hb⟩
      · rename_i e n cs f e1 e2
        obtain rfl := desc_slice (hd1.symm.trans e1)
        obtain rfl := desc_str (hd2.symm.trans e2)
        exact bstr_ok hE hR hx hu1 hu2 (.inl ⟨_, _, _, rfl⟩) h
      · rename_i e nm off n sz e1 e2
        obtain rfl := desc_slice (hd1.symm.trans e1)
        obtain rfl := desc_str (hd2.symm.trans e2)
        exact bstr_ok hE hR hx hu1 hu2 (.inr ⟨_, _, _, _, rfl⟩) h
      · cases h

theorem rep_clo {nf : Bool} {v : Value} {f : FuncId} {xs : List AV} (h : Rep m S w nf v (.clo f xs)) : ∃ cs, v = .func (.func f) #[] cs.toArray ∧ RepL m S w nf cs xs := by cases h; exact ⟨_, rfl, by assumption⟩
theorem rep_yield {nf : Bool} {v : Value} {l : Nat} (h : Rep m S w nf v (.yield l)) : ∃ b, v = .func (.yield b) #[] #[] ∧ m l = some (b, 0) := by cases h; exact ⟨_, rfl, by assumption⟩
theorem rep_tup {nf : Bool} {v : Value} {xs : List AV} (h : Rep m S w nf v (.tup xs)) : ∃ cs, v = .tuple cs.toArray ∧ RepL m S w nf cs xs := by cases h; exact ⟨_, rfl, by assumption⟩

theorem callee_ok (hR : Rel P base m S H w) {a : Act} {tm : List AV} (hT : RepL m S w false a.tmps.toList tm) {f : Operand} {t : Tgt} {caps : List AV} (h : calleeA tm f = some (t, caps)) {args' : Array Value} {args : List AV} (ha : RepL m S w false args'.toList args) :
    NextOk P base slot m S H w ((do let d ← Deferred.ofValue (a.eval f) args'; invoke d.target d.args : Sem Next).run P w) (.call t (args ++ caps)) := by
  have key : ∀ {x : Operand}, (match opA tm x with
    | .clo f caps => some (Tgt.func f, caps)
    | .yield l => some (.yield l, [])
    | _ => none) = some (t, caps) → NextOk P base slot m S H w ((do let d ← Deferred.ofValue (a.eval x) args'; invoke d.target d.args : Sem Next).run P w) (.call t (args ++ caps)) := by
    intro x hx
    have hr := op_ok hT x
    split at hx
    · rename_i g cs e
      rw [e] at hr
      obtain ⟨vs, hv, hl⟩ := rep_clo hr
      simp at hx; obtain ⟨rfl, rfl⟩ := hx
      refine ⟨args' ++ vs.toArray, ?_, by simpa using ha.append hl⟩
      simp [hv, Deferred.ofValue, Sem.run_bind, invoke]
    · rename_i l e
      rw [e] at hr
      obtain ⟨b, hv, hm⟩ := rep_yield hr
      simp at hx; obtain ⟨rfl, rfl⟩ := hx
      exact ⟨args', b, hm, by simp [hv, Deferred.ofValue, Sem.run_bind, invoke], by simpa using ha⟩
    · cases hx
  cases f with
  | func g =>
    simp [calleeA] at h; obtain ⟨rfl, rfl⟩ := h
    exact ⟨args', by simp [Act.eval, Deferred.ofValue, Sem.run_bind, invoke], by simpa using ha⟩
  | tmp x => exact key (x := .tmp x) h
  | const x => exact key (x := .const x) h
  | global x => exact key (x := .global x) h

set_option maxHeartbeats 8000000 in
theorem evalOp_ok (hE : EnvOk P E) (hR : Rel P base m S H w) (hs : SlotOk m H slot) {a : Act} {tm : List AV} (hT : RepL m S w false a.tmps.toList tm) {o : Oper} {eff : Eff} {acc : Acc} (h : evalOp E tm H o = some (eff, acc)) :
    NextOk P base slot m S H w ((execOp a.eval o).run P w) eff := by
  have hv : ∀ {s : Sem Value} {y : Option AV}, (∀ x, y = some x → ∃ v', s.run P w = .ok v' w ∧ Rep m S w false v' x) → (y.map fun x => (Eff.val x, Acc.none)) = some (eff, acc) → NextOk P base slot m S H w ((do pure (.value (← s)) : Sem Next).run P w) eff := by
    intro s y hy he
    cases y with
    | none => simp at he
    | some x => simp at he; obtain ⟨rfl, _⟩ := he; exact nextP hR (hy x rfl)
  have hva : ∀ {s : Sem Value} {y : Option (AV × Acc)}, (∀ x acc, y = some (x, acc) → ∃ v', s.run P w = .ok v' w ∧ Rep m S w false v' x) → (y.map fun (x, a) => (Eff.val x, a)) = some (eff, acc) → NextOk P base slot m S H w ((do pure (.value (← s)) : Sem Next).run P w) eff := by
    intro s y hy he
    cases y with
    | none => simp at he
    | some q => obtain ⟨x, ac⟩ := q; simp at he; obtain ⟨rfl, _⟩ := he; exact nextP hR (hy x ac rfl)
  unfold evalOp at h
  unfold execOp
  cases hop : o.op with
  | move x =>
    simp [hop] at h ⊢; obtain ⟨rfl, _⟩ := h
    exact ⟨_, _, w, m, S, rfl, .inl rfl, Step.refl hR, Gaps.refl _ _ _, op_ok hT x⟩
  | assign x =>
    simp [hop] at h ⊢; obtain ⟨rfl, _⟩ := h
    exact ⟨_, _, w, m, S, rfl, .inl rfl, Step.refl hR, Gaps.refl _ _ _, op_ok hT x⟩
  | pick c x y =>
    simp only [hop] at h ⊢
    have hc := op_ok hT c
    split at h
    · rename_i b hb
      rw [hb] at hc
      have := rep_bool hc
      simp at h; obtain ⟨rfl, _⟩ := h
      refine ⟨_, (if b then a.eval x else a.eval y), w, m, S, ?_, .inl rfl, Step.refl hR, Gaps.refl _ _ _, ?_⟩
      · simp [Sem.run_bind, this, asBool]
      · cases b
        · exact op_ok hT y
        · exact op_ok hT x
    · cases h
  | alloc t =>
    simp only [hop] at h ⊢
    cases hi : E.ty t with
    | none => simp [hi] at h
    | some i => simp [hi] at h; obtain ⟨rfl, _⟩ := h; exact nextV (alloc_ok hE hR hs hi)
  | box t x =>
    simp only [hop] at h ⊢
    cases hi : E.ty t with
    | none => simp [hi] at h
    | some i => simp [hi] at h; obtain ⟨rfl, _⟩ := h; exact nextV (box_ok hE hR hs hi (op_ok hT x))
  | build t parts =>
    simp only [hop] at h ⊢
    exact hv (fun x hx => build_ok hE (ps' := parts.map fun (i, x) => (i, a.eval x)) (by simpa using parts_ok hT parts.toList) hx) h
  | buildSlice t len parts =>
    simp only [hop] at h ⊢
    cases hb : buildSliceA E t len (parts.toList.map fun (i, x) => (i, opA tm x)) with
    | none => simp [hb] at h
    | some ef =>
      simp [hb] at h; obtain ⟨rfl, _⟩ := h
      have hn : ∃ o f, ef = .new o f := by
        unfold buildSliceA at hb
        simp only [Option.bind_eq_bind] at hb
        cases h1 : E.ty t with
        | none => simp [h1] at hb
        | some i =>
          simp only [h1, Option.bind_some] at hb
          split at hb
          · cases h2 : E.ty ‹Nat› with
            | none => simp [h2] at hb
            | some ei =>
              simp only [h2, Option.bind_some] at hb
              split at hb
              · cases hb
              · rename_i e _ _
                cases h3 : fillA (fun k => some (k * ei.size, ei.size)) (zerosA ei.zero len) (parts.toList.map fun (i, x) => (i, opA tm x)) with
                | none => simp [h3] at hb
                | some cs => simp [h3] at hb; exact ⟨_, _, hb.symm⟩
          · cases hb
      obtain ⟨o1, f1, rfl⟩ := hn
      exact nextV (buildSlice_ok hE hR hs (ps' := parts.map fun (i, x) => (i, a.eval x)) (by simpa using parts_ok hT parts.toList) hb)
  | load t x =>
    simp only [hop] at h ⊢
    exact hva (fun x ac hx => load_ok hE hR (op_ok hT _) hx) h
  | store t x y =>
    simp only [hop] at h ⊢
    have hput : ∃ nm ob x, eff = .put nm ob x := by
      unfold storeA at h
      simp only [Option.bind_eq_bind] at h
      cases h1 : E.ty t with
      | none => simp [h1] at h
      | some i =>
        simp only [h1, Option.bind_some] at h
        split at h
        · split at h
          · split at h
            · simp at h; exact ⟨_, _, _, h.1.symm⟩
            · simp at h
          · simp at h
        · simp at h
    obtain ⟨nm, ob, xx, rfl⟩ := hput
    obtain ⟨w', m', S', h1, h2, h3, rfl⟩ := store_ok (slot := slot) hE hR (op_ok hT x) (op_ok hT y) h
    exact ⟨.skip, Go.undef, w', m', S', by simp [Sem.run_bind, h1], .inr ⟨rfl, rfl⟩, h2, h3, .tup false [] [] (.nil _)⟩
  | mapUpdate t x k y =>
    simp only [hop] at h ⊢
    obtain ⟨nm, ob, xx, rfl⟩ := updateA_put h
    obtain ⟨w', h1, h2, h3, rfl⟩ := update_ok (slot := slot) hE hR (op_ok hT x) (op_ok hT k) (op_ok hT y) h
    exact ⟨.skip, Go.undef, w', m, S, by simp [Sem.run_bind, h1], .inr ⟨rfl, rfl⟩, h2, h3, .tup false [] [] (.nil _)⟩
  | range t x =>
    simp only [hop] at h ⊢
    exact nextE hR (range_ok hE hR hs (op_ok hT x) h)
  | next x isS =>
    simp only [hop, extA] at h ⊢
    cases isS with
    | true => cases h
    | false => exact nextE hR (next_ok hR (op_ok hT x) h)
  | entry x =>
    simp only [hop] at h ⊢
    exact nextE hR (entry_ok hR (op_ok hT x) h)
  | mapEntry t x k =>
    simp only [hop] at h ⊢
    exact nextE hR (mapEntry_ok hE hR (op_ok hT x) (op_ok hT k) h)
  | entryStore t x k y =>
    simp only [hop] at h ⊢
    obtain ⟨nm, ob, w', rfl, h1, h2, h3⟩ := entryStore_ok (slot := slot) (t := t) hR (op_ok hT x) (op_ok hT k) (op_ok hT y) h
    exact ⟨.skip, Go.undef, w', m, S, by simp [Sem.run_bind, h1], .inr ⟨rfl, rfl⟩, h2, h3, .tup false [] [] (.nil _)⟩
  | makeSlice t n c =>
    simp only [hop] at h ⊢
    exact nextE hR (makeSlice_ok hE hR hs (op_ok hT n) (op_ok hT c) h)
  | nilCheck x =>
    simp only [hop] at h ⊢
    have hx := op_ok hT x
    split at h
    · rename_i cs e
      rw [e] at hx
      simp at h; obtain ⟨rfl, _⟩ := h
      cases hq : a.eval x <;> rw [hq] at hx <;> first
        | (cases hx; done)
        | skip
      rename_i p
      cases p with
      | none => cases hx
      | some p => exact ⟨_, _, w, m, S, rfl, .inl rfl, Step.refl hR, Gaps.refl _ _ _, hx⟩
    · rename_i nm off e
      rw [e] at hx
      simp at h; obtain ⟨rfl, _⟩ := h
      cases hq : a.eval x <;> rw [hq] at hx <;> first
        | (cases hx; done)
        | skip
      rename_i p
      cases p with
      | none => cases hx
      | some p => exact ⟨_, _, w, m, S, rfl, .inl rfl, Step.refl hR, Gaps.refl _ _ _, hx⟩
    · rename_i f caps e
      rw [e] at hx
      simp at h; obtain ⟨rfl, _⟩ := h
      obtain ⟨cs, hq, _⟩ := rep_clo hx
      rw [hq] at hx ⊢
      exact ⟨_, _, w, m, S, rfl, .inl rfl, Step.refl hR, Gaps.refl _ _ _, hx⟩
    · cases h
  | binOp op t x y c =>
    simp only [hop] at h ⊢
    exact hv (fun z hz => bin_ok hE (op_ok hT x) (op_ok hT y) hz) h
  | unOp op t x =>
    simp only [hop] at h ⊢
    exact hv (fun z hz => un_ok (op_ok hT x) hz) h
  | convert s d x =>
    simp only [hop] at h ⊢
    exact nextE hR (conv_ok hE hR (op_ok hT x) h)
  | makeInterface t x =>
    simp only [hop] at h ⊢
    cases hi : E.ty t with
    | none => simp [hi] at h
    | some i =>
      simp only [hi, Option.bind_some] at h
      obtain ⟨d, _, _, hu, _, hd, _⟩ := hE.ty t i hi
      split at h
      · cases h
      · rename_i hne
        refine hv (y := some (.iface t (opA tm x))) (fun z hz => ?_) h
        cases hz
        refine ⟨.iface t (a.eval x), ?_, .iface _ _ _ _ (op_ok hT x)⟩
        rw [Instr.makeInterface, Sem.run_bind, run_underlying hu, Result.andThen_ok]
        cases d <;> first
          | rfl
          | exact absurd (hd.trans rfl) (hne)
  | makeFunc f first captured =>
    simp only [hop] at h ⊢
    cases f <;> simp only at h <;> first
      | (cases h; done)
      | skip
    rename_i f
    split at h
    · rename_i hf
      refine hv (y := some (.clo f (captured.toList.map (opA tm)))) (fun z hz => ?_) h
      cases hz
      have he : first = #[] := by simpa using hf
      subst he
      have := Rep.clo false f _ _ (ops_ok hT captured.toList)
      refine ⟨_, rfl, ?_⟩
      rw [show captured.map a.eval = (captured.toList.map a.eval).toArray from by apply Array.ext'; simp, show Array.map a.eval #[] = #[] from by simp]
      exact this
    · cases h
  | makeMap t r =>
    simp only [hop] at h ⊢
    cases r with
    | some r => simp at h
    | none =>
      simp only [Option.map_none] at h ⊢
      cases hi : E.ty t with
      | none => simp [hi] at h
      | some i =>
        simp only [hi, Option.bind_some] at h
        split at h
        · simp at h; obtain ⟨rfl, _⟩ := h
          exact nextV (makeMap_ok hE hR hs)
        · cases h
  | slice t x lo hi mx =>
    simp only [hop] at h ⊢
    exact hv (fun z hz => slice_ok hE (op_ok hT x) (opt_some hT lo) (opt_none lo) (opt_some hT hi) (opt_none hi) (opt_some hT mx) (opt_none mx) hz) h
  | fieldAddr t x k =>
    simp only [hop] at h ⊢
    exact hv (fun z hz => fieldAddr_ok hE (op_ok hT x) hz) h
  | field t x k =>
    simp only [hop] at h ⊢
    exact hv (fun z hz => field_ok hE (op_ok hT x) hz) h
  | indexAddr t x k =>
    simp only [hop] at h ⊢
    exact hv (fun z hz => indexAddr_ok hE (op_ok hT x) (op_ok hT k) hz) h
  | index t x k =>
    simp only [hop] at h ⊢
    exact hv (fun z hz => index_ok hE (op_ok hT x) (op_ok hT k) hz) h
  | lookup t x k ok =>
    simp only [hop] at h ⊢
    exact hva (fun z ac hz => lookup_ok hE hR (op_ok hT x) (op_ok hT k) hz) h
  | typeAssert x xt t ok =>
    simp only [hop] at h ⊢
    exact hv (fun z hz => assert_ok hE (op_ok hT x) hz) h
  | extract t i =>
    simp only [hop] at h ⊢
    have hx := op_ok hT t
    split at h
    · rename_i vs e
      rw [e] at hx
      obtain ⟨cs, hq, hl⟩ := rep_tup hx
      refine hv (y := vs[i]?) (fun z hz => ?_) h
      obtain ⟨v, g1, g2⟩ := hl.get hz
      exact ⟨v, by simp [hq, Instr.extract, g1], g2⟩
    · cases h
  | call c =>
    simp only [hop] at h ⊢
    cases hcal : c.callee with
    | value f =>
      simp only [hcal] at h ⊢
      cases hc : calleeA tm f with
      | none => simp [hc] at h
      | some q =>
        obtain ⟨t, caps⟩ := q
        simp [hc] at h; obtain ⟨rfl, _⟩ := h
        have := callee_ok (slot := slot) hR hT hc (args' := c.args.map a.eval) (args := c.args.toList.map (opA tm)) (by simpa using ops_ok hT c.args.toList)
        simpa [resolve, hcal] using this
    | invoke r n => simp [hcal] at h
    | builtin b =>
      simp only [hcal] at h
      have hargs := ops_ok hT c.args.toList
      have hx3 : ∀ {t : TypeId} {ts : List TypeId}, c.argTypes.toList = t :: ts → c.argTypes = (t :: ts).toArray := fun e => by apply Array.ext'; simpa using e
      cases b <;> simp only at h <;> first
        | (cases h; done)
        | (exfalso; revert h; cases c.argTypes.toList <;> simp [builtinX]; done)
        | skip
      case delete =>
        split at h
        · rename_i t ts h1
          simp only [builtinX, Option.bind_some, extA] at h
          have h0 := h
          unfold xDelete at h0
          split at h0
          · rename_i nm k h2
            clear h0
            rw [h2] at h hargs
            have hl : c.args.toList.length = 2 := by have := congrArg List.length h2; simpa using this
            obtain ⟨p, q, e2⟩ : ∃ p q, c.args.toList = [p, q] := by
              match hc2 : c.args.toList, hl with
              | [p, q], _ => exact ⟨p, q, rfl⟩
            rw [e2] at h2
            simp only [List.map_cons, List.map_nil, List.cons.injEq, and_true] at h2
            have hp := op_ok hT p
            have hq := op_ok hT q
            rw [h2.1] at hp
            rw [h2.2] at hq
            have e3 : c.args = #[p, q] := by apply Array.ext'; simpa using e2
            have := nextE hR (delete_ok (slot := slot) (ty := o.type) (ts := ts) hE hR hp hq h)
            simpa [resolve, hcal, invoke, builtin, hx3 h1, e3] using this
          · cases h0
        · cases h
      case cap =>
        split at h
        · rename_i t ts h1
          simp only [builtinX, Option.bind_some, extA] at h
          have hl : ∃ p, c.args.toList = [p] := by
            cases e2 : c.args.toList with
            | nil => rw [e2] at h; simp [xCap] at h
            | cons p l =>
              cases l with
              | nil => exact ⟨p, rfl⟩
              | cons q l => rw [e2] at h; simp [xCap] at h
          obtain ⟨p, e2⟩ := hl
          rw [e2] at h
          have e3 : c.args = #[p] := by apply Array.ext'; simpa using e2
          have := nextE hR (cap_ok (P := P) (slot := slot) (base := base) (ty := o.type) (ts := ts) (H := H) hE (op_ok hT p) h)
          simpa [resolve, hcal, invoke, builtin, hx3 h1, e3] using this
        · cases h
      case clear =>
        split at h
        · rename_i t ts h1
          simp only [builtinX, Option.bind_some, extA] at h
          have hl : ∃ p, c.args.toList = [p] := by
            cases e2 : c.args.toList with
            | nil => rw [e2] at h; simp [xClear] at h
            | cons p l =>
              cases l with
              | nil => exact ⟨p, rfl⟩
              | cons q l => rw [e2] at h; simp [xClear] at h
          obtain ⟨p, e2⟩ := hl
          rw [e2] at h
          have e3 : c.args = #[p] := by apply Array.ext'; simpa using e2
          have := nextE hR (clear_ok (P := P) (slot := slot) (ty := o.type) (ts := ts) hE hR (op_ok hT p) h)
          simpa [resolve, hcal, invoke, builtin, hx3 h1, e3] using this
        · cases h
      · -- append
        split at h
        · rename_i t t2 s x h1 h2
          have e1 : c.argTypes = #[t, t2] := by apply Array.ext'; simpa using h1
          have e2 : c.args = #[s, x] := by apply Array.ext'; simpa using h2
          cases hi : E.ty t2 with
          | none => simp [hi] at h
          | some i =>
            simp only [hi, Option.bind_some] at h
            obtain ⟨d, _, _, hu, _, hd, _⟩ := hE.ty t2 i hi
            have fin : (∃ e', P.underlying t2 = some (.slice e')) ∨ P.underlying t2 = some .string → appendA E H t (opA tm s) (opA tm x) = some (eff, acc) → _ := fun hk h' => nextE hR (append_ok (slot := slot) (ty := o.type) hE hR hs (op_ok hT s) (op_ok hT x) hk h')
            split at h
            · rename_i e he
              obtain rfl := desc_slice (hd.symm.trans he)
              have := fin (.inl ⟨_, hu⟩) h
              simpa [resolve, hcal, invoke, builtin, e1, e2] using this
            · rename_i he
              obtain rfl := desc_str (hd.symm.trans he)
              have := fin (.inr hu) h
              simpa [resolve, hcal, invoke, builtin, e1, e2] using this
            · rename_i kn he
              obtain rfl := desc_int (hd.symm.trans he)
              have := nextE hR (appendZ_ok (slot := slot) (ty := o.type) hE hR hs (op_ok hT s) (op_ok hT x) hu h)
              simpa [resolve, hcal, invoke, builtin, e1, e2] using this
            · cases h
        · cases h
      · -- len
        split at h
        · rename_i t x h1 h2
          have e1 : c.argTypes = #[t] := by apply Array.ext'; simpa using h1
          have e2 : c.args = #[x] := by apply Array.ext'; simpa using h2
          have := hva (fun z ac hz => len_ok hE hR (op_ok hT x) hz o.type) h
          simpa [resolve, hcal, invoke, builtin, e1, e2] using this
        · cases h
      · -- max
        have hm : ∀ z, mostA true (c.args.toList.map (opA tm)) = some z → ∃ v', (Builtin.max_ c.argTypes o.type (c.args.map a.eval)).run P w = .ok v' w ∧ Rep m S w false v' z := by
          intro z hz
          unfold Builtin.max_
          rw [Array.toList_map]
          cases hl : c.args.toList with
          | nil => simp [hl, mostA] at hz
          | cons q l =>
            rw [hl] at hz hargs
            simp only [List.map_cons, mostA] at hz ⊢
            exact most_ok (op_ok hT q) (ops_ok hT l) hz
        have := hv hm h
        simpa [resolve, hcal, invoke, builtin] using this
      · -- min
        have hm : ∀ z, mostA false (c.args.toList.map (opA tm)) = some z → ∃ v', (Builtin.min_ c.argTypes o.type (c.args.map a.eval)).run P w = .ok v' w ∧ Rep m S w false v' z := by
          intro z hz
          unfold Builtin.min_
          rw [Array.toList_map]
          cases hl : c.args.toList with
          | nil => simp [hl, mostA] at hz
          | cons q l =>
            rw [hl] at hz hargs
            simp only [List.map_cons, mostA] at hz ⊢
            exact most_ok (big := false) (op_ok hT q) (ops_ok hT l) hz
        have := hv hm h
        simpa [resolve, hcal, invoke, builtin] using this
  | _ => simp [hop] at h
end ops
end Go.Px
