/- One operation: what the abstract machine reckons is what the model does. -/
import Derived.Test.YtefondfmngjekaaGreatPxB
import Derived.WalkKit
import Derived.Lib.Strings
import Derived.Laws.Tables
import Derived.Laws.StructEq
import Derived.ChangeKeysEq
import Derived.Great.BuildSlice
set_option linter.unusedVariables false
namespace Go.Px
open Go Go.RowKit

def descA : TypeDesc → TD
  | .bool => .bool
  | .int k => .int k
  | .string => .str
  | .pointer e => .ptr e
  | .slice e => .slice e
  | .array n e => .array n e
  | .map k v => .map k v
  | .struct fs => .struct (fs.toList.map fun f => (f.offset, f.type))
  | .func _ _ _ => .func
  | .interface _ => .iface
  | _ => .other

/-- A type's row of the table is what the program says. -/
def TyOk (P : Program) (t : TypeId) (i : TyI) : Prop :=
  ∃ d info z, P.underlying t = some d ∧ P.info? t = some info ∧ i.desc = descA d ∧ info.size = i.size ∧ info.bytes = i.bytes ∧ info.zero = some z ∧
    z.cells.toList.map ofVal = i.zero ∧ (∀ x ∈ i.zero, one x = true) ∧ i.zero.length = i.size ∧ (i.desc.isAgg = true → ∃ cs, z = .agg cs) ∧ (i.desc.isAgg = false → i.size = 1 ∧ z.cells = #[z]) ∧
    (∀ fs, d = .struct fs → (∀ f ∈ fs.toList, (P.info? f.type).isSome = true ∧ f.name ≠ "_") ∧ P.stoodInHeld t = false ∧ P.eqGuardType P.depth t = false) ∧ (∀ k, d = .int k → info.comparable = true)

structure EnvOk (P : Program) (E : Env) : Prop where
  ty : ∀ t i, E.ty t = some i → TyOk P t i
  fn : ∀ f g, E.fn f = some g → P.funcs[f]? = some g ∧ (g.name == "runtime.NumGoroutine") = false

theorem isAgg_descA (d : TypeDesc) : (descA d).isAgg = d.isRow := by cases d <;> rfl

section ops
variable {P : Program} {E : Env} {base : Nat} {m : Mu} {S : Sett} {H : Heap} {w : World}

/-- The values of a row. -/
theorem Row.vals : ∀ {a : Addr} {xs : List AV}, Row m S w a xs → ∃ vs, RepL m S w true vs xs ∧ (∀ x ∈ xs, one x = true) ∧ w.rangeAt a.block a.off vs
  | _, _, .nil a => ⟨[], .nil _, (fun _ h => by cases h), (fun j v h => by simp at h)⟩
  | _, _, .cons b off v x xs h1 h2 h3 h4 t => by
    obtain ⟨vs, g1, g2, g3⟩ := Row.vals t
    refine ⟨v :: vs, .cons _ _ _ _ _ h3 g1, fun y hy => ?_, fun j u hj => ?_⟩
    · rcases List.mem_cons.1 hy with rfl | hy
      · exact h4
      · exact g2 y hy
    · cases j with
      | zero => simp at hj; subst hj; simpa using h2
      | succ j =>
        have := g3 j u (by simpa using hj)
        have e1 : off + 1 + j = off + (j + 1) := by omega
        simpa [e1] using this

/-- The values of a piece of a heap's row. -/
theorem RowIn.vals {nm : Nat} {e : TypeId} {cs : List AV} {fr : Bool} {b o n : Nat} {i : TypeInfo} (h : RowIn P base m S w nm e cs fr b o n i) (off k : Nat) :
    ∃ vs, RepL m S w false vs ((cs.drop off).take k) ∧ (∀ x ∈ (cs.drop off).take k, one x = true) ∧ w.rangeAt b (o + off) vs := by
  have key : ∀ (l : List AV) (q : Nat), (∀ j x, l[j]? = some x → ∃ v, w.cell? ⟨b, q + j, none⟩ = some v ∧ Rep m S w false v x ∧ one x = true) →
      ∃ vs, RepL m S w false vs l ∧ (∀ x ∈ l, one x = true) ∧ w.rangeAt b q vs := by
    intro l
    induction l with
    | nil => exact fun q _ => ⟨[], .nil _, (fun _ h => by cases h), (fun j v h => by simp at h)⟩
    | cons x l ih =>
      intro q hq
      obtain ⟨v, g1, g2, g3⟩ := hq 0 x rfl
      obtain ⟨vs, k1, k2, k3⟩ := ih (q + 1) (fun j y hy => by
        have := hq (j + 1) y (by simpa using hy)
        have e1 : q + (j + 1) = q + 1 + j := by omega
        rwa [e1] at this)
      refine ⟨v :: vs, .cons _ _ _ _ _ g2 k1, fun y hy => ?_, fun j u hj => ?_⟩
      · rcases List.mem_cons.1 hy with rfl | hy
        · exact g3
        · exact k2 y hy
      · cases j with
        | zero => simp at hj; subst hj; simpa using g1
        | succ j =>
          have := k3 j u (by simpa using hj)
          have e1 : q + 1 + j = q + (j + 1) := by omega
          simpa [e1] using this
  refine key _ _ fun j x hx => ?_
  rw [List.getElem?_take] at hx
  split at hx
  · rw [List.getElem?_drop] at hx
    have := h.cells (off + j) x hx
    have e1 : o + (off + j) = o + off + j := by omega
    rwa [e1] at this
  · cases hx

theorem run_isAgg_false {t : TypeId} {d : TypeDesc} (hu : P.underlying t = some d) (hd : d.isRow = false) (w : World) : (isAgg t).run P w = .ok false w := by
  unfold isAgg
  rw [Sem.run_bind, run_underlying hu w]
  cases d <;> simp_all

theorem mkV_some {agg : Bool} {cs : List AV} {x : AV} (h : mkV agg cs = some x) : (agg = true ∧ x = .agg cs) ∨ (agg = false ∧ cs = [x]) := by
  unfold mkV at h
  cases agg with
  | true => simp at h; exact .inl ⟨rfl, h.symm⟩
  | false =>
    simp at h
    match cs, h with
    | [v], h => simp at h; subst h; exact .inr ⟨rfl, rfl⟩

/-- The load of cells that are known. -/
theorem run_load_range {t : TypeId} {i : TyI} (ht : TyOk P t i) {b o : Nat} {vs : List Value} {xs : List AV} {x : AV} (hr : w.rangeAt b o vs) (hx : RepL m S w false vs xs) (h1 : ∀ y ∈ xs, one y = true)
    (hl : xs.length = i.size) (hk : mkV i.desc.isAgg xs = some x) : ∃ v', (Instr.loadAt t (.pointer (some ⟨b, o, none⟩))).run P w = .ok v' w ∧ Rep m S w false v' x := by
  obtain ⟨d, info, z, hu, hi, hd, hs, _⟩ := ht
  have hd' : i.desc.isAgg = d.isRow := by rw [hd, isAgg_descA]
  rcases mkV_some hk with ⟨ha, rfl⟩ | ⟨ha, rfl⟩
  · refine ⟨_, run_loadAt_mid w b o t vs d hr hu (hd' ▸ ha) ?_, .agg _ _ _ hx h1⟩
    simp [hi, hs, ← hl, hx.length]
  · cases hx with
    | cons _ v _ vs' _ h t' =>
      cases t'
      refine ⟨v, ?_, h⟩
      have hc := hr 0 v rfl
      simp only [Nat.add_zero] at hc
      simp [Instr.loadAt, Instr.sureAddr, loadVar, Sem.run_bind, run_isAgg_false hu (hd' ▸ ha) w, load, Sem.run, hc]

theorem load_ok (hE : EnvOk P E) (hR : Rel P base m S H w) {t : TypeId} {p' : Value} {p x : AV} {acc : Acc} (hp : Rep m S w false p' p) (h : loadA E H t p = some (x, acc)) :
    ∃ v', (Instr.loadAt t p').run P w = .ok v' w ∧ Rep m S w false v' x := by
  unfold loadA at h
  cases hi : E.ty t with
  | none => simp [hi] at h
  | some i =>
    simp only [hi, Option.bind_eq_bind, Option.bind_some] at h
    cases hp with
    | ref _ a cs hrow hne =>
      simp only at h
      split at h
      · rename_i hle
        cases hk : mkV i.desc.isAgg (cs.take i.size) with
        | none => simp [hk] at h
        | some y =>
          simp [hk] at h
          obtain ⟨rfl, _⟩ := h
          obtain ⟨vs, g1, g2, g3⟩ := (hrow.take i.size).vals
          have ha := hrow.addr hne
          rw [ha]
          exact run_load_range (hE.ty t i hi) g3 g1.weak g2 (by simp [hle]) hk
      · cases h
    | loc nm off b o hm =>
      simp only at h
      split at h
      · rename_i e cs fr hrow
        split at h
        · rename_i hle
          cases hk : mkV i.desc.isAgg ((cs.drop off).take i.size) with
          | none => simp [hk] at h
          | some y =>
            simp [hk] at h
            obtain ⟨rfl, _⟩ := h
            obtain ⟨b', o', n, info, r⟩ := hR.obj nm _ hrow
            have hmu := r.mu
            rw [hm] at hmu; cases hmu
            obtain ⟨vs, g1, g2, g3⟩ := r.vals off i.size
            exact run_load_range (hE.ty t i hi) g3 g1 g2 (by simp; omega) hk
        · cases h
      · cases h
    | _ => simp at h

theorem desc_struct {d : TypeDesc} {fs : List (Nat × Nat)} (h : descA d = .struct fs) : ∃ fields, d = .struct fields ∧ fs = fields.toList.map fun f => (f.offset, f.type) := by
  cases d <;> simp [descA] at h
  exact ⟨_, rfl, h.symm⟩
theorem desc_slice {d : TypeDesc} {e : Nat} (h : descA d = .slice e) : d = .slice e := by
  cases d <;> simp [descA] at h
  rw [h]
theorem desc_array {d : TypeDesc} {n e : Nat} (h : descA d = .array n e) : d = .array n e := by
  cases d <;> simp [descA] at h
  rw [h.1, h.2]
theorem desc_str {d : TypeDesc} (h : descA d = .str) : d = .string := by
  cases d <;> simp [descA] at h
  rfl
theorem desc_map {d : TypeDesc} {k v : Nat} (h : descA d = .map k v) : d = .map k v := by
  cases d <;> simp [descA] at h
  rw [h.1, h.2]
theorem desc_int {d : TypeDesc} {k : IntKind} (h : descA d = .int k) : d = .int k := by
  cases d <;> simp [descA] at h
  rw [h]

theorem run_sizeOf {t : TypeId} {i : TyI} (ht : TyOk P t i) (w : World) : (sizeOf t).run P w = .ok i.size w := by
  obtain ⟨d, info, z, hu, hi, hd, hs, _⟩ := ht
  simp [sizeOf, typeInfo, hi, hs]

theorem addr_add (b o n : Nat) : (⟨b, o, none⟩ : Addr).add n = ⟨b, o + n, none⟩ := by
  unfold Addr.add; split <;> simp_all

theorem fieldAddr_ok (hE : EnvOk P E) {t : TypeId} {p' : Value} {p x : AV} {k : Nat} (hp : Rep m S w false p' p) (h : fieldAddrA E t p k = some x) :
    ∃ v', (Instr.fieldAt t p' k).run P w = .ok v' w ∧ Rep m S w false v' x := by
  unfold fieldAddrA at h
  cases hi : E.ty t with
  | none => simp [hi] at h
  | some i =>
    simp only [hi, Option.bind_eq_bind, Option.bind_some] at h
    split at h
    · rename_i fs hfs
      cases hk : fs[k]? with
      | none => simp [hk] at h
      | some q =>
        obtain ⟨off, ft⟩ := q
        simp only [hk, Option.bind_some] at h
        cases hfi : E.ty ft with
        | none => simp [hfi] at h
        | some fi =>
          simp only [hfi, Option.bind_some] at h
          split at h
          · cases h
          · rename_i hsz
            obtain ⟨d, info, z, hu, hinf, hd, _⟩ := hE.ty t i hi
            obtain ⟨fields, rfl, hff⟩ := desc_struct (hd.symm.trans hfs)
            have hso := run_sizeOf (hE.ty ft fi hfi) w
            subst hff
            rw [List.getElem?_map] at hk
            cases hf : fields.toList[k]? with
            | none => simp [hf] at hk
            | some f =>
              simp [hf] at hk
              obtain ⟨rfl, rfl⟩ := hk
              have hfa : fields[k]? = some f := by rw [← Array.getElem?_toList]; exact hf
              cases hp with
              | ref _ a cs hrow hne =>
                simp only at h
                split at h
                · rename_i hlt
                  simp at h; subst h
                  refine ⟨.pointer (some (a.add f.offset)), ?_, .ref _ _ _ (hrow.drop _) (by simp; omega)⟩
                  simp [Instr.fieldAt, run_underlying hu, hfa, Instr.sureAddr, fieldPlace, Sem.run_bind, hso, hsz]
                · cases h
              | loc nm off' b o hm =>
                simp at h; subst h
                refine ⟨.pointer (some ⟨b, o + (off' + f.offset), none⟩), ?_, .loc _ _ _ _ hm⟩
                simp [Instr.fieldAt, run_underlying hu, hfa, Instr.sureAddr, fieldPlace, Sem.run_bind, hso, hsz, addr_add, Nat.add_assoc]
              | _ => simp at h
    · cases h

theorem rep_int {nf : Bool} {v : Value} {k : IntKind} {n : Int} (h : Rep m S w nf v (.int k n)) : v = .int k n := by cases h; rfl
theorem rep_bool {nf : Bool} {v : Value} {b : Bool} (h : Rep m S w nf v (.bool b)) : v = .bool b := by cases h; rfl

theorem indexAddr_ok (hE : EnvOk P E) {t : TypeId} {x' i' : Value} {x ix y : AV} (hx : Rep m S w false x' x) (hi' : Rep m S w false i' ix) (h : indexAddrA E t x ix = some y) :
    ∃ v', (Instr.indexAt t x' i').run P w = .ok v' w ∧ Rep m S w false v' y := by
  unfold indexAddrA at h
  cases hi : E.ty t with
  | none => simp [hi] at h
  | some i =>
    simp only [hi, Option.bind_eq_bind, Option.bind_some] at h
    split at h
    · rename_i k n
      obtain rfl := rep_int hi'
      obtain ⟨d, info, z, hu, hinf, hd, _⟩ := hE.ty t i hi
      split at h
      · rename_i e len cs full hds
        obtain rfl := desc_slice (hd.symm.trans hds)
        cases hei : E.ty e with
        | none => simp [hei] at h
        | some ei =>
          have hso := run_sizeOf (hE.ty e ei hei) w
          simp only [hei, Option.bind_some] at h
          split at h
          · rename_i hc
            simp at h; subst h
            cases hx with
            | nilsl => simp at hc
            | sl _ a _ c _ _ h1 h2 h3 =>
              refine ⟨.pointer (some (a.add (n.toNat * ei.size))), ?_, .ref _ _ _ (h3.drop _) (by simp; omega)⟩
              simp [Instr.indexAt, asIntOf, run_underlying hu, Sem.run_bind, hc.1, hc.2.1, hso]
          · cases h
      · rename_i e nm off len sz hds
        obtain rfl := desc_slice (hd.symm.trans hds)
        cases hei : E.ty e with
        | none => simp [hei] at h
        | some ei =>
          have hso := run_sizeOf (hE.ty e ei hei) w
          simp only [hei, Option.bind_some] at h
          split at h
          · rename_i hc
            simp at h; subst h
            cases hx with
            | own0 => simp at hc; omega
            | own _ _ _ _ c b o h1 h2 h3 =>
              refine ⟨.pointer (some ⟨b, o + (off + n.toNat * ei.size), none⟩), ?_, .loc _ _ _ _ h1⟩
              simp [Instr.indexAt, asIntOf, run_underlying hu, Sem.run_bind, hc.1, hc.2.1, hso, addr_add, Nat.add_assoc]
          · cases h
      · rename_i len e cs hds
        obtain rfl := desc_array (hd.symm.trans hds)
        cases hei : E.ty e with
        | none => simp [hei] at h
        | some ei =>
          have hso := run_sizeOf (hE.ty e ei hei) w
          simp only [hei, Option.bind_some] at h
          split at h
          · rename_i hc
            simp at h; subst h
            cases hx with
            | ref _ a _ h3 hne =>
              refine ⟨.pointer (some (a.add (n.toNat * ei.size))), ?_, .ref _ _ _ (h3.drop _) (by simp; omega)⟩
              simp [Instr.indexAt, asIntOf, run_underlying hu, Sem.run_bind, Instr.sureAddr, hc.1, hc.2.1, hso]
          · cases h
      · rename_i len e nm off hds
        obtain rfl := desc_array (hd.symm.trans hds)
        cases hei : E.ty e with
        | none => simp [hei] at h
        | some ei =>
          have hso := run_sizeOf (hE.ty e ei hei) w
          simp only [hei, Option.bind_some] at h
          split at h
          · rename_i hc
            simp at h; subst h
            cases hx with
            | loc _ _ b o h1 =>
              refine ⟨.pointer (some ⟨b, o + (off + n.toNat * ei.size), none⟩), ?_, .loc _ _ _ _ h1⟩
              simp [Instr.indexAt, asIntOf, run_underlying hu, Sem.run_bind, Instr.sureAddr, hc.1, hc.2, hso, addr_add, Nat.add_assoc]
          · cases h
      · cases h
    · cases h

/-- A piece of a struct's (array's) cells. -/
theorem run_part {t : TypeId} {i : TyI} (ht : TyOk P t i) {vs : List Value} {cs : List AV} {x : AV} {off : Nat} (hr : RepL m S w false vs cs) (h1 : ∀ y ∈ cs, one y = true) (hl : off + i.size ≤ cs.length)
    (hk : mkV i.desc.isAgg ((cs.drop off).take i.size) = some x) (w2 : World) : ∃ v', (part t vs.toArray off).run P w2 = .ok v' w2 ∧ Rep m S w false v' x := by
  have hso := run_sizeOf ht w2
  obtain ⟨d, info, z, hu, hi, hd, hs, _⟩ := ht
  have hd' : i.desc.isAgg = d.isRow := by rw [hd, isAgg_descA]
  have hr2 := (hr.drop off).take i.size
  rcases mkV_some hk with ⟨ha, rfl⟩ | ⟨ha, e⟩
  · refine ⟨.agg ((vs.drop off).take i.size).toArray, ?_, .agg _ _ _ hr2 fun y hy => h1 y (List.mem_of_mem_drop (List.mem_of_mem_take hy))⟩
    have hagg : (isAgg t).run P w2 = .ok true w2 := by
      unfold isAgg
      rw [Sem.run_bind, run_underlying hu w2]
      rw [hd'] at ha
      cases d <;> simp_all
    simp only [part, Sem.run_bind, hagg, Result.andThen_ok, if_true, hso, Sem.run_pure]
    congr 2
    apply Array.ext'
    simp
  · rw [e] at hr2
    have hsz : i.size = 1 ∨ 1 < i.size ∨ i.size = 0 := by omega
    have hlen : ((cs.drop off).take i.size).length = 1 := by rw [e]; rfl
    have hs1 : i.size = 1 := by simp at hlen; omega
    have hg : cs[off]? = some x := by
      have : ((cs.drop off).take i.size)[0]? = some x := by rw [e]; rfl
      rw [hs1, List.getElem?_take] at this
      simpa using this
    obtain ⟨v, hv, hrv⟩ := hr.get hg
    refine ⟨v, ?_, hrv⟩
    simp [part, Sem.run_bind, run_isAgg_false hu (hd' ▸ ha) w2, hv]

theorem field_ok (hE : EnvOk P E) {t : TypeId} {p' : Value} {p x : AV} {k : Nat} (hp : Rep m S w false p' p) (h : fieldA E t p k = some x) :
    ∃ v', (Instr.field t p' k).run P w = .ok v' w ∧ Rep m S w false v' x := by
  unfold fieldA at h
  cases hi : E.ty t with
  | none => simp [hi] at h
  | some i =>
    simp only [hi, Option.bind_eq_bind, Option.bind_some] at h
    split at h
    · rename_i fs hfs
      cases hk : fs[k]? with
      | none => simp [hk] at h
      | some q =>
        obtain ⟨off, ft⟩ := q
        simp only [hk, Option.bind_some] at h
        cases hfi : E.ty ft with
        | none => simp [hfi] at h
        | some fi =>
          simp only [hfi, Option.bind_some] at h
          split at h
          · rename_i cs
            split at h
            · rename_i hle
              obtain ⟨d, info, z, hu, hinf, hd, _⟩ := hE.ty t i hi
              obtain ⟨fields, rfl, hff⟩ := desc_struct (hd.symm.trans hfs)
              subst hff
              rw [List.getElem?_map] at hk
              cases hf : fields.toList[k]? with
              | none => simp [hf] at hk
              | some f =>
                simp [hf] at hk
                obtain ⟨rfl, rfl⟩ := hk
                have hfa : fields[k]? = some f := by rw [← Array.getElem?_toList]; exact hf
                cases hp with
                | agg _ vs _ hr h1 =>
                  obtain ⟨v', g1, g2⟩ := run_part (hE.ty _ fi hfi) hr h1 hle h w
                  exact ⟨v', by simp [Instr.field, run_underlying hu, hfa, asAgg, g1], g2⟩
            · cases h
          · cases h
    · cases h

theorem rep_str {nf : Bool} {v : Value} {l : List Nat} (h : Rep m S w nf v (.str l)) : ∃ s : ByteArray, v = .string s ∧ s.data.toList.map UInt8.toNat = l := by
  cases h with
  | str _ s _ h => exact ⟨s, rfl, h⟩
theorem str_size {s : ByteArray} {l : List Nat} (h : s.data.toList.map UInt8.toNat = l) : s.size = l.length := by
  rw [← h, List.length_map, Array.length_toList]; rfl
theorem str_get {s : ByteArray} {l : List Nat} (h : s.data.toList.map UInt8.toNat = l) (i : Nat) : (s[i]?).map UInt8.toNat = l[i]? := by
  subst h
  rw [List.getElem?_map]
  congr 1
  have : s[i]? = s.data[i]? := by
    by_cases hi : i < s.size
    · rw [ByteArray.getElem?_lt' s i hi]
      have : i < s.data.size := hi
      rw [Array.getElem?_eq_getElem this]; rfl
    · have h1 : ¬ i < s.data.size := hi
      rw [Array.getElem?_eq_none (by omega)]
      simp [hi]
  rw [this, Array.getElem?_toList]

theorem index_ok (hE : EnvOk P E) {t : TypeId} {x' i' : Value} {x ix y : AV} (hx : Rep m S w false x' x) (hi' : Rep m S w false i' ix) (h : indexA E t x ix = some y) :
    ∃ v', (Instr.index t x' i').run P w = .ok v' w ∧ Rep m S w false v' y := by
  unfold indexA at h
  cases hi : E.ty t with
  | none => simp [hi] at h
  | some i =>
    simp only [hi, Option.bind_eq_bind, Option.bind_some] at h
    split at h
    · rename_i k n
      obtain rfl := rep_int hi'
      obtain ⟨d, info, z, hu, hinf, hd, _⟩ := hE.ty t i hi
      split at h
      · rename_i l hds
        obtain rfl := desc_str (hd.symm.trans hds)
        obtain ⟨s, rfl, hs⟩ := rep_str hx
        split at h
        · rename_i h0
          cases hg : l[n.toNat]? with
          | none => simp [hg] at h
          | some c =>
            simp [hg] at h; subst h
            have := str_get hs n.toNat
            rw [hg] at this
            cases hb : s[n.toNat]? with
            | none => simp [hb] at this
            | some b =>
              simp [hb] at this; subst this
              exact ⟨_, by simp [Instr.index, asIntOf, run_underlying hu, Sem.run_bind, h0, hb], .int _ _ _⟩
        · cases h
      · rename_i len e cs hds
        obtain rfl := desc_array (hd.symm.trans hds)
        cases hei : E.ty e with
        | none => simp [hei] at h
        | some ei =>
          have hso := run_sizeOf (hE.ty e ei hei) w
          simp only [hei, Option.bind_some] at h
          split at h
          · rename_i hc
            cases hx with
            | agg _ vs _ hr h1 =>
              obtain ⟨v', g1, g2⟩ := run_part (hE.ty _ ei hei) hr h1 hc.2.2 h w
              exact ⟨v', by simp [Instr.index, asIntOf, run_underlying hu, Sem.run_bind, hc.1, hc.2.1, hso, g1], g2⟩
          · cases h
      · cases h
    · cases h

/-- A bound of a slice expression: left out, or a number. -/
theorem bound_cases {x : Option AV} {x' : Option Value} {dflt most r : Nat} (hx : ∀ y, x = some y → ∃ v, x' = some v ∧ Rep m S w false v y) (hn : x = none → x' = none) (h : boundA x dflt most = some r) :
    (x' = none ∧ r = dflt) ∨ (∃ k, x' = some (.int k r) ∧ r ≤ most) := by
  unfold boundA at h
  split at h
  · simp at h; exact .inl ⟨hn rfl, h.symm⟩
  · rename_i k n
    split at h
    · rename_i hc
      simp at h
      obtain ⟨v, hv, hr⟩ := hx _ rfl
      obtain rfl := rep_int hr
      obtain ⟨q, rfl⟩ := Int.eq_ofNat_of_zero_le hc.1
      simp at h; subst h
      exact .inr ⟨k, hv, by omega⟩
    · cases h
  · cases h

theorem bounds2_run {lo hi : Option AV} {lo' hi' : Option Value} {len cap l h : Nat} (isS : Bool) (hlo : ∀ y, lo = some y → ∃ v, lo' = some v ∧ Rep m S w false v y) (hlo' : lo = none → lo' = none)
    (hhi : ∀ y, hi = some y → ∃ v, hi' = some v ∧ Rep m S w false v y) (hhi' : hi = none → hi' = none) (hlc : len ≤ cap)
    (e1 : boundA hi len len = some h) (e2 : boundA lo 0 h = some l) (w2 : World) : (Instr.sliceBounds isS len cap lo' hi' none).run P w2 = .ok (l, h, cap) w2 ∧ l ≤ h ∧ h ≤ len := by
  rcases bound_cases hhi hhi' e1 with ⟨rfl, rfl⟩ | ⟨k, rfl, a1⟩ <;> rcases bound_cases hlo hlo' e2 with ⟨rfl, rfl⟩ | ⟨k2, rfl, b1⟩
  · exact ⟨by simp [Instr.sliceBounds], by omega, by omega⟩
  · exact ⟨by simp [Instr.sliceBounds, Instr.sliceBound, asIntOf, b1], by omega, by omega⟩
  · have c : h ≤ cap := by omega
    exact ⟨by simp [Instr.sliceBounds, Instr.sliceBound, asIntOf, c], by omega, by omega⟩
  · have c : h ≤ cap := by omega
    exact ⟨by simp [Instr.sliceBounds, Instr.sliceBound, asIntOf, c, b1], by omega, by omega⟩

/-- With a third bound. -/
theorem bounds3_run {lo hi : Option AV} {mx : AV} {lo' hi' : Option Value} {mx' : Value} {len cap l h k : Nat} (hlo : ∀ y, lo = some y → ∃ v, lo' = some v ∧ Rep m S w false v y) (hlo' : lo = none → lo' = none)
    (hhi : ∀ y, hi = some y → ∃ v, hi' = some v ∧ Rep m S w false v y) (hsome : hi ≠ none) (hmx : Rep m S w false mx' mx) (hlc : len ≤ cap)
    (e0 : boundA (some mx) 0 len = some k) (e1 : boundA hi 0 k = some h) (e2 : boundA lo 0 h = some l) (w2 : World) : (Instr.sliceBounds true len cap lo' hi' (some mx')).run P w2 = .ok (l, h, k) w2 ∧ l ≤ h ∧ h ≤ k ∧ k ≤ len := by
  rcases bound_cases (x' := some mx') (fun y e => by cases e; exact ⟨_, rfl, hmx⟩) (fun e => by cases e) e0 with ⟨e, _⟩ | ⟨k0, e, a1⟩
  · cases e
  · cases e
    have c0 : k ≤ cap := by omega
    rcases bound_cases hhi (fun e => absurd e hsome) e1 with ⟨rfl, _⟩ | ⟨k1, rfl, b1⟩
    · cases hi with
      | none => exact absurd rfl hsome
      | some y => obtain ⟨v, e, _⟩ := hhi y rfl; cases e
    · rcases bound_cases hlo hlo' e2 with ⟨rfl, rfl⟩ | ⟨k2, rfl, d1⟩
      · exact ⟨by simp [Instr.sliceBounds, Instr.sliceBound, asIntOf, c0, b1], by omega, by omega, by omega⟩
      · exact ⟨by simp [Instr.sliceBounds, Instr.sliceBound, asIntOf, c0, b1, d1], by omega, by omega, by omega⟩

theorem rep_sl_nil {a : Option Addr} {c : Nat} {full : Bool} (hf : full = true → c = 0) (ha : a = none → c = 0) : Rep m S w false (.slice a 0 c) (.sl 0 [] full) := by
  cases a with
  | none => rw [ha rfl]; exact .nilsl _ _
  | some a => exact .sl _ _ _ _ _ _ (Nat.zero_le _) hf (.nil _)

/-- A piece of a slice: l to h, room to k. -/
theorem rep_slice_piece {a : Option Addr} {n c l h k sz : Nat} {cells : List AV} {full fl : Bool} (hx : Rep m S w false (.slice a n c) (.sl n cells full)) (hlen : cells.length = n * sz) (h1 : l ≤ h) (h2 : h ≤ k) (h4 : h ≤ n) (h3 : k ≤ c)
    (hf : fl = true → k = h) : Rep m S w false (.slice (if k = l then a else a.map (·.add (l * sz))) (h - l) (k - l)) (.sl (h - l) ((cells.take (h * sz)).drop (l * sz)) fl) := by
  cases hx with
  | nilsl =>
    obtain rfl : h = 0 := by omega
    obtain rfl : l = 0 := by omega
    have : k = 0 := by omega
    subst this
    simpa using rep_sl_nil (by simp) (by simp)
  | sl _ a _ _ _ _ g1 g2 g3 =>
    by_cases e : k = l
    · have : h = l := by omega
      subst this
      have hz : (cells.take (h * sz)).drop (h * sz) = [] := by simp
      rw [hz]
      subst e
      simpa using rep_sl_nil (by simp) (by simp)
    · rw [if_neg e]
      exact .sl _ _ _ _ _ _ (by omega) (fun q => by have := hf q; omega) ((g3.take _).drop _)

theorem slice_ok (hE : EnvOk P E) {t : TypeId} {x' : Value} {x y : AV} {lo hi mx : Option AV} {lo' hi' mx' : Option Value} (hx : Rep m S w false x' x)
    (hlo : ∀ y, lo = some y → ∃ v, lo' = some v ∧ Rep m S w false v y) (hlo' : lo = none → lo' = none)
    (hhi : ∀ y, hi = some y → ∃ v, hi' = some v ∧ Rep m S w false v y) (hhi' : hi = none → hi' = none)
    (hmx : ∀ y, mx = some y → ∃ v, mx' = some v ∧ Rep m S w false v y) (hmx' : mx = none → mx' = none) (h : sliceA E t x lo hi mx = some y) :
    ∃ v', (Instr.sliceAt t x' lo' hi' mx').run P w = .ok v' w ∧ Rep m S w false v' y := by
  unfold sliceA at h
  cases hi0 : E.ty t with
  | none => simp [hi0] at h
  | some i =>
    simp only [hi0, Option.bind_eq_bind, Option.bind_some] at h
    obtain ⟨d, info, z, hu, hinf, hd, _⟩ := hE.ty t i hi0
    split at h
    · rename_i l hds
      obtain rfl := desc_str (hd.symm.trans hds)
      obtain ⟨s, rfl, hs⟩ := rep_str hx
      split at h
      · cases h
      · rename_i hmn
        have hmn' : mx = none := by cases mx <;> simp_all
        have := hmx' hmn'; subst this
        have hsz := str_size hs
        cases e1 : boundA hi l.length l.length with
        | none => simp [e1] at h
        | some hh =>
          simp only [e1, Option.bind_some] at h
          cases e2 : boundA lo 0 hh with
          | none => simp [e2] at h
          | some ll =>
            simp [e2] at h; subst h
            rw [← hsz] at e1
            obtain ⟨g1, g2, g3⟩ := bounds2_run (P := P) false hlo hlo' hhi hhi' (Nat.le_refl _) e1 e2 w
            refine ⟨.string (s.extract ll hh), ?_, .str _ _ _ ?_⟩
            · simp [Instr.sliceAt, Instr.slice, run_underlying hu, Sem.run_bind, g1]
            · rw [Lib.extract_data, List.map_take, List.map_drop, hs, List.drop_take]
    · rename_i e n cs full hds
      obtain rfl := desc_slice (hd.symm.trans hds)
      cases hei : E.ty e with
      | none => simp [hei] at h
      | some ei =>
        have hso := run_sizeOf (hE.ty e ei hei) w
        simp only [hei, Option.bind_some] at h
        split at h
        · cases h
        · rename_i hcl
          have hcl' : cs.length = n * ei.size := Decidable.of_not_not hcl
          obtain ⟨a, c, rfl, hnc⟩ : ∃ a c, x' = .slice a n c ∧ n ≤ c := by
            cases hx with
            | nilsl => exact ⟨none, 0, rfl, Nat.le_refl _⟩
            | sl _ a _ c _ _ h1 _ _ => exact ⟨some a, c, rfl, h1⟩
          have hfc : full = true → c = n := by
            cases hx with
            | nilsl => intro _; rfl
            | sl _ a _ c _ _ _ h2 _ => exact h2
          split at h
          · have := hmx' rfl; subst this
            cases e1 : boundA hi n n with
            | none => simp [e1] at h
            | some hh =>
              simp only [e1, Option.bind_some] at h
              cases e2 : boundA lo 0 hh with
              | none => simp [e2] at h
              | some ll =>
                simp [e2] at h; subst h
                obtain ⟨g1, g2, g3⟩ := bounds2_run (P := P) true hlo hlo' hhi hhi' hnc e1 e2 w
                refine ⟨_, ?_, rep_slice_piece hx hcl' g2 (by omega) g3 (Nat.le_refl c) (fun q => ?_)⟩
                · simp [Instr.sliceAt, Instr.slice, run_underlying hu, Sem.run_bind, g1, hso]
                · simp at q
                  have := hfc q.1
                  omega
          · rename_i mv
            obtain ⟨mv', rfl, hmr⟩ := hmx mv rfl
            cases e0 : boundA (some mv) 0 n with
            | none => simp [e0] at h
            | some k =>
              simp only [e0, Option.bind_some] at h
              cases e1 : boundA hi 0 k with
              | none => simp [e1] at h
              | some hh =>
                simp only [e1, Option.bind_some] at h
                split at h
                · cases h
                · rename_i hsm
                  cases e2 : boundA lo 0 hh with
                  | none => simp [e2] at h
                  | some ll =>
                    simp [e2] at h; subst h
                    obtain ⟨g1, g2, g3, g4⟩ := bounds3_run (P := P) hlo hlo' hhi (by intro q; subst q; simp at hsm) hmr hnc e0 e1 e2 w
                    refine ⟨_, ?_, rep_slice_piece hx hcl' g2 g3 (by omega) (by omega : k ≤ c) (fun q => by simp at q; omega)⟩
                    simp [Instr.sliceAt, Instr.slice, run_underlying hu, Sem.run_bind, g1, hso]
    · rename_i e nm off n sz hds
      obtain rfl := desc_slice (hd.symm.trans hds)
      cases hei : E.ty e with
      | none => simp [hei] at h
      | some ei =>
        have hso := run_sizeOf (hE.ty e ei hei) w
        simp only [hei, Option.bind_some] at h
        split at h
        · cases h
        · rename_i hmn
          have hmn' : mx = none := by cases mx <;> simp_all
          have hsz : sz = ei.size := by
            by_cases q : sz = ei.size
            · exact q
            · exact absurd (Or.inr q) hmn
          have := hmx' hmn'; subst this
          cases e1 : boundA hi n n with
          | none => simp [e1] at h
          | some hh =>
            simp only [e1, Option.bind_some] at h
            cases e2 : boundA lo 0 hh with
            | none => simp [e2] at h
            | some ll =>
              simp [e2] at h; subst h
              cases hx with
              | own0 _ _ _ b o a h1 =>
                obtain ⟨g1, g2, g3⟩ := bounds2_run (P := P) true hlo hlo' hhi hhi' (Nat.le_refl _) e1 e2 w
                obtain rfl : hh = 0 := by omega
                obtain rfl : ll = 0 := by omega
                exact ⟨.slice a 0 0, by simp [Instr.sliceAt, Instr.slice, run_underlying hu, Sem.run_bind, g1, hso], by simpa using Rep.own0 nm off sz b o a h1⟩
              | own _ _ _ _ c b o h1 h2 h3 =>
                obtain ⟨g1, g2, g3⟩ := bounds2_run (P := P) true hlo hlo' hhi hhi' h2 e1 e2 w
                obtain ⟨e', k, hs, hk⟩ := h3
                have hsub : (c - ll) * sz = c * sz - ll * sz := Nat.sub_mul ..
                have hle2 : ll * sz ≤ c * sz := Nat.mul_le_mul_right _ (by omega)
                by_cases q : c = ll
                · have q1 : hh = ll := by omega
                  subst q1; subst q
                  exact ⟨.slice (some ⟨b, o + off, none⟩) 0 0, by simp [Instr.sliceAt, Instr.slice, run_underlying hu, Sem.run_bind, g1, hso], by simpa using Rep.own0 nm (off + c * ei.size) sz b o _ h1⟩
                · refine ⟨_, ?_, .own nm (off + ll * ei.size) (hh - ll) sz (c - ll) b o h1 (by omega) ⟨e', k, hs, by rw [← hsz, hsub]; omega⟩⟩
                  simp [Instr.sliceAt, Instr.slice, run_underlying hu, Sem.run_bind, g1, hso, q, addr_add, Nat.add_assoc]
    · cases h

theorem lay_length {xs ys : List AV} {off : Nat} (h : off + ys.length ≤ xs.length) : (lay xs off ys).length = xs.length := by
  simp [lay]; omega

theorem lay_rep {vs us : List Value} {xs ys : List AV} {nf : Bool} (h : RepL m S w nf vs xs) (k : RepL m S w nf us ys) (off : Nat) : RepL m S w nf (vs.take off ++ us ++ vs.drop (off + us.length)) (lay xs off ys) := by
  unfold lay
  rw [k.length]
  exact ((h.take off).append k).append (h.drop _)

theorem lay_get {xs ys : List AV} {off : Nat} (h : off + ys.length ≤ xs.length) (i : Nat) : (lay xs off ys)[i]? = if off ≤ i ∧ i < off + ys.length then ys[i - off]? else xs[i]? := by
  unfold lay
  rw [List.getElem?_append, List.getElem?_append]
  have h1 : (List.take off xs).length = off := by simp; omega
  simp only [List.length_append, h1]
  by_cases c1 : i < off
  · rw [if_pos (by omega), if_pos c1, if_neg (by omega), List.getElem?_take, if_pos c1]
  · by_cases c2 : i < off + ys.length
    · rw [if_pos c2, if_neg c1, if_pos (by omega)]
    · rw [if_neg c2, if_neg (by omega), List.getElem?_drop]
      congr 1; omega

/-- The model's store of a part's cells, one by one. -/
theorem foldl_get : ∀ (us : List Value) (j : Nat) (off : Nat) (cs : Array Value) (i : Nat), off + j + us.length ≤ cs.size →
    ((us.zipIdx j).foldl (fun cs (c, i) => cs.setIfInBounds (off + i) c) cs)[i]? = (if off + j ≤ i ∧ i < off + j + us.length then us[i - (off + j)]? else cs[i]?) ∧
    ((us.zipIdx j).foldl (fun cs (c, i) => cs.setIfInBounds (off + i) c) cs).size = cs.size
  | [], j, off, cs, i, h => by simp; omega
  | u :: us, j, off, cs, i, h => by
    simp only [List.zipIdx_cons, List.foldl_cons]
    simp at h
    obtain ⟨g1, g2⟩ := foldl_get us (j + 1) off (cs.setIfInBounds (off + j) u) i (by simp; omega)
    refine ⟨?_, by rw [g2]; simp⟩
    rw [g1, Array.getElem?_setIfInBounds]
    by_cases c0 : i = off + j
    · subst c0
      rw [if_neg (by omega), if_pos rfl, if_pos (by omega), if_pos (by simp only [List.length_cons]; omega)]
      simp
    · by_cases c1 : off + (j + 1) ≤ i ∧ i < off + (j + 1) + us.length
      · rw [if_pos c1, if_pos (by simp; omega)]
        have : i - (off + j) = (i - (off + (j + 1))) + 1 := by omega
        rw [this]; simp
      · rw [if_neg c1, if_neg (by omega), if_neg (by simp; omega)]

theorem cells_rep {v' : Value} {v : AV} (h : Rep m S w false v' v) (hne : cellsOf v ≠ []) : RepL m S w false v'.cells.toList (cellsOf v) ∧ (∀ x ∈ cellsOf v, one x = true) ∧ v'.cells.toList.length = (cellsOf v).length := by
  cases h with
  | agg _ cs xs h h1 => exact ⟨by simpa [Value.cells, cellsOf] using h, by simpa [cellsOf] using h1, by simpa [Value.cells, cellsOf] using h.length⟩
  | undef => simp [cellsOf] at hne
  | tup => simp [cellsOf] at hne
  | sl nf a n c cells full h1 h2 h3 => exact ⟨.cons _ _ _ _ _ (.sl _ _ _ _ _ _ h1 h2 h3) (.nil _), by simp [cellsOf, one], rfl⟩
  | own nm off n sz c b o h1 h2 h3 => exact ⟨.cons _ _ _ _ _ (.own _ _ _ _ _ _ _ h1 h2 h3) (.nil _), by simp [cellsOf, one], rfl⟩
  | own0 nm off sz b o a h1 => exact ⟨.cons _ _ _ _ _ (.own0 _ _ _ _ _ _ h1) (.nil _), by simp [cellsOf, one], rfl⟩
  | bool nf b => exact ⟨.cons _ _ _ _ _ (.bool _ _) (.nil _), by simp [cellsOf, one], rfl⟩
  | int nf k n => exact ⟨.cons _ _ _ _ _ (.int _ _ _) (.nil _), by simp [cellsOf, one], rfl⟩
  | str nf s l h => exact ⟨.cons _ _ _ _ _ (.str _ _ _ h) (.nil _), by simp [cellsOf, one], rfl⟩
  | nilsl nf f => exact ⟨.cons _ _ _ _ _ (.nilsl _ _) (.nil _), by simp [cellsOf, one], rfl⟩
  | clo nf f cs xs h => exact ⟨.cons _ _ _ _ _ (.clo _ _ _ _ h) (.nil _), by simp [cellsOf, one], rfl⟩
  | yield l b h => exact ⟨.cons _ _ _ _ _ (.yield _ _ h) (.nil _), by simp [cellsOf, one], rfl⟩
  | nilFunc nf => exact ⟨.cons _ _ _ _ _ (.nilFunc _) (.nil _), by simp [cellsOf, one], rfl⟩
  | nilIface nf => exact ⟨.cons _ _ _ _ _ (.nilIface _) (.nil _), by simp [cellsOf, one], rfl⟩
  | iface nf t v x h => exact ⟨.cons _ _ _ _ _ (.iface _ _ _ _ h) (.nil _), by simp [cellsOf, one], rfl⟩
  | ref nf a cells h h1 => exact ⟨.cons _ _ _ _ _ (.ref _ _ _ h h1) (.nil _), by simp [cellsOf, one], rfl⟩
  | loc nm off b o h => exact ⟨.cons _ _ _ _ _ (.loc _ _ _ _ h) (.nil _), by simp [cellsOf, one], rfl⟩
  | nilptr nf => exact ⟨.cons _ _ _ _ _ (.nilptr _) (.nil _), by simp [cellsOf, one], rfl⟩
  | map nm b h => exact ⟨.cons _ _ _ _ _ (.map _ _ h) (.nil _), by simp [cellsOf, one], rfl⟩
  | nilmap nf => exact ⟨.cons _ _ _ _ _ (.nilmap _) (.nil _), by simp [cellsOf, one], rfl⟩
  | res nf k n r M h0 h1 => exact ⟨.cons _ _ _ _ _ (.res _ k n r M h0 h1) (.nil _), by simp [cellsOf, one], rfl⟩

/-- Parts, with the values that stand for them. -/
inductive RepP (m : Mu) (S : Sett) (w : World) : List (Nat × Value) → List (Nat × AV) → Prop
  | nil : RepP m S w [] []
  | cons (i v x vs xs) (h : Rep m S w false v x) (t : RepP m S w vs xs) : RepP m S w ((i, v) :: vs) ((i, x) :: xs)

theorem fill_ok {place place' : Nat → Option (Nat × Nat)} (hpl : ∀ k q, place k = some q → place' k = some q) : ∀ {ps' : List (Nat × Value)} {ps : List (Nat × AV)}, RepP m S w ps' ps → ∀ {C : Array Value} {cs r : List AV}, RepL m S w false C.toList cs → (∀ x ∈ cs, one x = true) →
    fillA place cs ps = some r → ∃ R, Instr.fill place' C ps' = some R ∧ RepL m S w false R.toList r ∧ (∀ x ∈ r, one x = true) ∧ r.length = cs.length
  | _, _, .nil, C, cs, r, hC, h1, h => by
    simp [fillA] at h; subst h
    exact ⟨C, rfl, hC, h1, rfl⟩
  | _, _, .cons i v x vs xs hv t, C, cs, r, hC, h1, h => by
    unfold fillA at h
    cases hp : place i with
    | none => simp [hp] at h
    | some q =>
      obtain ⟨off, size⟩ := q
      simp only [hp] at h
      split at h
      · cases h
      · rename_i hc
        simp only [not_or, Decidable.not_not, Nat.not_lt] at hc
        obtain ⟨hc1, hc2, hc3⟩ := hc
        obtain ⟨g1, g2, g3⟩ := cells_rep hv (by intro e; rw [e] at hc1; simp at hc1; omega)
        have hCl : C.size = cs.length := by have := hC.length; simpa using this
        have hvs : v.cells.size = size := by have := g3; simp at this; omega
        have hfg := fun i => foldl_get v.cells.toList 0 off C i (by simp; omega)
        obtain ⟨R, k1, k2, k3, k4⟩ := fill_ok hpl t (C := (v.cells.toList.zipIdx 0).foldl (fun cs (c, i) => cs.setIfInBounds (off + i) c) C) (cs := lay cs off (cellsOf x)) (r := r)
          (RepL.of_get (by
              rw [lay_length (by omega), Array.length_toList, (hfg 0).2]; omega) (fun i y hy => by
            rw [lay_get (by omega)] at hy
            have := (hfg i).1
            rw [Array.getElem?_toList, this]
            simp only [Nat.add_zero, Array.length_toList]
            split at hy
            · rename_i hcc
              rw [if_pos (by omega)]
              exact g1.get hy
            · rename_i hcc
              rw [if_neg (by omega)]
              have := hC.get hy
              simpa using this))
          (fun y hy => by
            obtain ⟨i, hi⟩ := List.getElem?_of_mem hy
            rw [lay_get (by omega)] at hi
            split at hi
            · exact g2 y (List.mem_of_getElem? hi)
            · exact h1 y (List.mem_of_getElem? hi)) h
        refine ⟨R, ?_, k2, k3, by rw [k4, lay_length (by omega)]⟩
        unfold Instr.fill
        simp only [hpl _ _ hp]
        rw [if_neg (by simp; omega)]
        rw [← k1]
        congr 1
        rw [← Array.foldl_toList]
        simp

/-- A constant, as it stands. -/
theorem ofVal1_rep (v : Value) (h : ofVal1 v ≠ .undef) : Rep m S w true v (ofVal1 v) := by
  unfold ofVal1 at h ⊢
  split at h
  · exact .bool _ _
  · exact .int _ _ _
  · exact .str _ _ _ rfl
  · exact .nilsl _ _
  · exact .nilptr _
  · exact .nilFunc _
  · exact .nilIface _
  · exact .nilmap _
  · exact .iface _ _ _ _ (.int _ _ _)
  · exact .iface _ _ _ _ (.str _ _ _ rfl)
  · exact absurd rfl h

theorem ofVal1_repL : ∀ (vs : List Value), (vs.map ofVal1).all one = true → RepL m S w true vs (vs.map ofVal1)
  | [], _ => .nil _
  | v :: vs, h => by
    simp only [List.map_cons, List.all_cons, Bool.and_eq_true] at h
    exact .cons _ _ _ _ _ (ofVal1_rep v (fun e => by rw [e] at h; simp [one] at h)) (ofVal1_repL vs h.2)

theorem ofVal_rep (v : Value) (h : ofVal v ≠ .undef) : Rep m S w true v (ofVal v) := by
  unfold ofVal at h ⊢
  split at h
  · rename_i cs
    split at h
    · rename_i ha
      rw [if_pos ha]
      exact .agg _ cs.toList _ (ofVal1_repL cs.toList ha) (fun x hx => List.all_eq_true.1 ha x hx)
    · exact absurd rfl h
  · exact ofVal1_rep _ h

theorem zero_rep : ∀ {vs : List Value} {xs : List AV}, vs.map ofVal = xs → (∀ x ∈ xs, one x = true) → RepL m S w true vs xs
  | [], _, rfl, _ => .nil _
  | v :: vs, _, rfl, h => .cons _ _ _ _ _ (ofVal_rep v (by
      have := h (ofVal v) (by simp)
      intro e; rw [e] at this; simp [one] at this)) (zero_rep rfl fun x hx => h x (by simp at hx ⊢; exact .inr hx))

theorem places_ok (hE : EnvOk P E) : ∀ (fs : List Field), (∀ f ∈ fs, (P.info? f.type).isSome = true) → ∃ pl, fs.mapM (fun f => (P.info? f.type).map fun i => (f.offset, i.size)) = some pl ∧
    ∀ (k : Nat) (q : Nat × Nat), ((fs.map fun f => (f.offset, f.type))[k]?).bind (fun (p : Nat × Nat) => (E.ty p.2).map fun fi => (p.1, fi.size)) = some q → pl[k]? = some q
  | [], _ => ⟨[], by simp, by simp⟩
  | f :: fs, h => by
    obtain ⟨pl, h1, h2⟩ := places_ok hE fs (fun g hg => h g (List.mem_cons_of_mem _ hg))
    obtain ⟨info, hi⟩ := Option.isSome_iff_exists.1 (h f (by simp))
    refine ⟨(f.offset, info.size) :: pl, by simp [List.mapM_cons, hi, h1], fun k q hq => ?_⟩
    cases k with
    | zero =>
      simp at hq
      obtain ⟨fi, e1, rfl⟩ := hq
      obtain ⟨d, info', z, _, hi', _, hs, _⟩ := hE.ty _ _ e1
      rw [hi] at hi'; cases hi'
      simp [hs]
    | succ k => simpa using h2 k q (by simpa using hq)

theorem build_ok (hE : EnvOk P E) {t : TypeId} {ps' : Array (Nat × Value)} {ps : List (Nat × AV)} {x : AV} (hp : RepP m S w ps'.toList ps) (h : buildA E t ps = some x) :
    ∃ v', (Instr.build t ps').run P w = .ok v' w ∧ Rep m S w false v' x := by
  unfold buildA at h
  cases hi : E.ty t with
  | none => simp [hi] at h
  | some i =>
    simp only [hi, Option.bind_eq_bind, Option.bind_some] at h
    obtain ⟨d, info, z, hu, hinf, hd, hs, hby, hz, hzc, hz1, hzl, hag, hnag, hst, hcm⟩ := hE.ty t i hi
    have hzr : RepL m S w false z.cells.toList i.zero := (zero_rep hzc hz1).weak
    split at h
    · rename_i fs hfs
      obtain ⟨fields, rfl, hff⟩ := desc_struct (hd.symm.trans hfs)
      obtain ⟨pl, g1, g2⟩ := places_ok hE fields.toList (fun f hf => ((hst fields rfl).1 f hf).1)
      cases hr : fillA (fun k => (fs[k]?).bind fun p => (E.ty p.2).bind fun fi => some (p.1, fi.size)) i.zero ps with
      | none => simp [hr] at h
      | some r =>
        simp [hr] at h; subst h
        obtain ⟨R, k1, k2, k3, _⟩ := fill_ok (place' := fun k => pl.toArray[k]?) (fun k q hq => by
          have := g2 k q (by
            rw [← hff, ← hq]
            congr 1
            funext p
            cases E.ty p.2 <;> rfl)
          simpa using this) hp hzr hz1 hr
        refine ⟨.agg R, run_build w t ps' R ?_, by simpa using Rep.agg false R.toList r k2 k3⟩
        unfold Program.built
        simp only [hinf, hu, hz, g1, k1]
    · rename_i n e hfs
      obtain rfl := desc_array (hd.symm.trans hfs)
      cases hei : E.ty e with
      | none => simp [hei] at h
      | some ei =>
        simp only [hei, Option.bind_some] at h
        cases hr : fillA (fun k => some (k * ei.size, ei.size)) i.zero ps with
        | none => simp [hr] at h
        | some r =>
          simp [hr] at h; subst h
          obtain ⟨d2, info2, z2, _, hi2, _, hs2, _⟩ := hE.ty _ _ hei
          obtain ⟨R, k1, k2, k3, _⟩ := fill_ok (place' := fun k => some (k * info2.size, info2.size)) (fun k q hq => by rw [hs2]; exact hq) hp hzr hz1 hr
          refine ⟨.agg R, run_build w t ps' R ?_, by simpa using Rep.agg false R.toList r k2 k3⟩
          unfold Program.built
          simp only [hinf, hu, hz, hi2, k1]
    · cases h

theorem intBin_ok {op : BinOp} {k : IntKind} {a b : Int} {x : AV} (h : intBin op k a b = some x) :
    ∃ v', (match op with
    | .add | .sub | .mul => Op.intArith op k a b
    | .quo | .rem => Op.intDiv op k a b
    | .and | .or | .xor | .andNot => Op.intBits op k a b
    | _ => Op.intCmp op a b : Sem Value).run P w = .ok v' w ∧ Rep m S w false v' x := by
  cases op
  case add => obtain rfl := Option.some.inj h; exact ⟨_, rfl, .int _ _ _⟩
  case sub => obtain rfl := Option.some.inj h; exact ⟨_, rfl, .int _ _ _⟩
  case mul => obtain rfl := Option.some.inj h; exact ⟨_, rfl, .int _ _ _⟩
  case and => obtain rfl := Option.some.inj h; exact ⟨_, rfl, .int _ _ _⟩
  case or => obtain rfl := Option.some.inj h; exact ⟨_, rfl, .int _ _ _⟩
  case xor => obtain rfl := Option.some.inj h; exact ⟨_, rfl, .int _ _ _⟩
  case andNot => obtain rfl := Option.some.inj h; exact ⟨_, rfl, .int _ _ _⟩
  case eql => obtain rfl := Option.some.inj h; exact ⟨_, rfl, .bool _ _⟩
  case neq => obtain rfl := Option.some.inj h; exact ⟨_, rfl, .bool _ _⟩
  case lss => obtain rfl := Option.some.inj h; exact ⟨_, rfl, .bool _ _⟩
  case leq => obtain rfl := Option.some.inj h; exact ⟨_, rfl, .bool _ _⟩
  case gtr => obtain rfl := Option.some.inj h; exact ⟨_, rfl, .bool _ _⟩
  case geq => obtain rfl := Option.some.inj h; exact ⟨_, rfl, .bool _ _⟩
  case quo =>
    by_cases hb : b = 0
    · simp [intBin, hb] at h
    · simp [intBin, hb] at h; subst h
      exact ⟨_, by simp [Op.intDiv, hb], .int _ _ _⟩
  case rem =>
    by_cases hb : b = 0
    · simp [intBin, hb] at h
    · simp [intBin, hb] at h; subst h
      exact ⟨_, by simp [Op.intDiv, hb], .int _ _ _⟩
  all_goals simp [intBin] at h

theorem bytes_less : ∀ (x y : List UInt8), Op.bytesLess x y = lessN (x.map UInt8.toNat) (y.map UInt8.toNat)
  | [], [] => rfl
  | _ :: _, [] => rfl
  | [], _ :: _ => rfl
  | a :: x, b :: y => by
    have h1 : decide (a < b) = Nat.blt a.toNat b.toNat := by
      cases hb : Nat.blt a.toNat b.toNat
      · simp only [decide_eq_false_iff_not, UInt8.lt_iff_toNat_lt]
        intro hc
        have : Nat.blt a.toNat b.toNat = true := by rw [Nat.blt_eq]; exact hc
        rw [this] at hb; cases hb
      · simp only [decide_eq_true_eq, UInt8.lt_iff_toNat_lt]
        rwa [Nat.blt_eq] at hb
    have h2 : (a == b) = Nat.beq a.toNat b.toNat := by
      cases hb : Nat.beq a.toNat b.toNat
      · rw [beq_eq_false_iff_ne]
        intro hc
        rw [hc, Nat.beq_refl] at hb; cases hb
      · rw [beq_iff_eq]
        exact UInt8.toNat_inj.1 (Nat.eq_of_beq_eq_true hb)
    show (decide (a < b) || (a == b && Op.bytesLess x y)) = (Nat.blt a.toNat b.toNat || (Nat.beq a.toNat b.toNat && lessN (x.map UInt8.toNat) (y.map UInt8.toNat)))
    rw [h1, h2, bytes_less x y]

theorem map_toNat_inj : ∀ {x y : List UInt8}, x.map UInt8.toNat = y.map UInt8.toNat → x = y
  | [], [], _ => rfl
  | [], _ :: _, h => by cases h
  | _ :: _, [], h => by cases h
  | a :: x, b :: y, h => by
    simp only [List.map_cons, List.cons.injEq] at h
    rw [UInt8.toNat_inj.1 h.1, map_toNat_inj h.2]

theorem bytes_eq (x y : List UInt8) : (x == y) = (x.map UInt8.toNat == y.map UInt8.toNat) := by
  cases h : (x.map UInt8.toNat == y.map UInt8.toNat)
  · rw [beq_eq_false_iff_ne] at h ⊢
    exact fun e => h (by rw [e])
  · rw [beq_iff_eq] at h ⊢
    exact map_toNat_inj h

theorem strBin_ok {op : BinOp} {a b : ByteArray} {la lb : List Nat} {x : AV} (ha : a.data.toList.map UInt8.toNat = la) (hb : b.data.toList.map UInt8.toNat = lb) (h : strBin op la lb = some x) :
    ∃ v', (Op.stringOp op a b).run P w = .ok v' w ∧ Rep m S w false v' x := by
  have hsa := str_size ha
  have hsb := str_size hb
  have he := bytes_eq a.data.toList b.data.toList
  have hl := bytes_less a.data.toList b.data.toList
  rw [ha, hb] at he hl
  cases op
  case eql => obtain rfl := Option.some.inj h; exact ⟨_, by simp only [Op.stringOp, Lib.toList_data, he]; rfl, .bool _ _⟩
  case neq => obtain rfl := Option.some.inj h; exact ⟨_, by simp only [Op.stringOp, Lib.toList_data, he]; rfl, .bool _ _⟩
  case lss => obtain rfl := Option.some.inj h; exact ⟨_, by simp only [Op.stringOp, Lib.toList_data, hl]; rfl, .bool _ _⟩
  case leq => obtain rfl := Option.some.inj h; exact ⟨_, by simp only [Op.stringOp, Lib.toList_data, he, hl]; rfl, .bool _ _⟩
  case gtr => obtain rfl := Option.some.inj h; exact ⟨_, by simp only [Op.stringOp, Lib.toList_data, he, hl]; rfl, .bool _ _⟩
  case geq => obtain rfl := Option.some.inj h; exact ⟨_, by simp only [Op.stringOp, Lib.toList_data, hl]; rfl, .bool _ _⟩
  case add =>
    simp only [strBin] at h
    by_cases hle : la.length + lb.length ≤ mostBytes
    · rw [if_pos hle] at h
      obtain rfl := Option.some.inj h
      refine ⟨.string (a ++ b), ?_, .str _ _ _ ?_⟩
      · unfold mostBytes at hle
        have : ¬ ((a.size + b.size : Nat) : Int) > IntKind.i64.max := by
          have : IntKind.i64.max = 9223372036854775807 := by decide
          omega
        simp only [Op.stringOp]
        rw [if_neg this]; rfl
      · rw [show (a ++ b).data.toList = a.data.toList ++ b.data.toList by simp [ByteArray.data_append], List.map_append, ha, hb]
    · rw [if_neg hle] at h; cases h
  all_goals simp [strBin] at h

theorem desc_ptr {d : TypeDesc} {e : Nat} (h : descA d = .ptr e) : d = .pointer e := by
  cases d <;> simp [descA] at h
  rw [h]
theorem desc_func {d : TypeDesc} (h : descA d = .func) : ∃ a b c, d = .func a b c := by
  cases d <;> simp [descA] at h
  exact ⟨_, _, _, rfl⟩
theorem desc_iface {d : TypeDesc} (h : descA d = .iface) : ∃ a, d = .interface a := by
  cases d <;> simp [descA] at h
  exact ⟨_, rfl⟩

theorem eqFs_ok (hE : EnvOk P E) {eq : TypeId → AV → AV → Option Bool} {d : Nat} {us vs : List Value} {xs ys : List AV} (hx : RepL m S w false us xs) (hx1 : ∀ x ∈ xs, one x = true) (hy : RepL m S w false vs ys) (hy1 : ∀ x ∈ ys, one x = true)
    (heq : ∀ {t : TypeId} {x' y' : Value} {x y : AV} {r : Bool}, Rep m S w false x' x → Rep m S w false y' y → eq t x y = some r → (Op.equalIn d t x' y').run P w = .ok r w) :
    ∀ (fs : List Field) {r : Bool}, (∀ f ∈ fs, f.name ≠ "_") → eqFs E eq xs ys (fs.map fun f => (f.offset, f.type)) = some r → (Op.eqFields d us.toArray vs.toArray fs).run P w = .ok r w
  | [], r, _, h => by
    obtain rfl := Option.some.inj h
    simp [Op.eqFields]
  | f :: fs, r, hn, h => by
    simp only [List.map_cons, eqFs, Option.bind_eq_bind] at h
    cases hfi : E.ty f.type with
    | none => simp [hfi] at h
    | some fi =>
      simp only [hfi, Option.bind_some] at h
      split at h
      · rename_i hc
        cases ha : mkV fi.desc.isAgg ((xs.drop f.offset).take fi.size) with
        | none => simp [ha] at h
        | some a =>
          cases hb : mkV fi.desc.isAgg ((ys.drop f.offset).take fi.size) with
          | none => simp [ha, hb] at h
          | some b =>
            simp only [ha, hb, Option.bind_some] at h
            obtain ⟨a', p1, p2⟩ := run_part (hE.ty _ fi hfi) hx hx1 hc.1 ha w
            obtain ⟨b', q1, q2⟩ := run_part (hE.ty _ fi hfi) hy hy1 hc.2 hb w
            have hnm : f.name ≠ "_" := hn f (by simp)
            cases he : eq f.type a b with
            | none => simp [he] at h
            | some c =>
              have hr := heq p2 q2 he
              simp only [he, Option.bind_some] at h
              cases c with
              | true =>
                simp at h
                have := eqFs_ok hE hx hx1 hy hy1 heq fs (fun g hg => hn g (List.mem_cons_of_mem _ hg)) h
                simp [Op.eqFields, hnm, Sem.run_bind, p1, q1, hr, this]
              | false =>
                simp at h; subst h
                simp [Op.eqFields, hnm, Sem.run_bind, p1, q1, hr]
      · cases h

/-- '==' of arrays, element by element. -/
theorem eqItems_ok (hE : EnvOk P E) {eq : TypeId → AV → AV → Option Bool} {d : Nat} {e : TypeId} {ei : TyI} (hei : E.ty e = some ei) {us vs : List Value} {xs ys : List AV} (hx : RepL m S w false us xs) (hx1 : ∀ x ∈ xs, one x = true) (hy : RepL m S w false vs ys) (hy1 : ∀ x ∈ ys, one x = true)
    (heq : ∀ {t : TypeId} {x' y' : Value} {x y : AV} {r : Bool}, Rep m S w false x' x → Rep m S w false y' y → eq t x y = some r → (Op.equalIn d t x' y').run P w = .ok r w) :
    ∀ (is : List Nat) {r : Bool}, eqFs E eq xs ys (is.map fun k => (k * ei.size, e)) = some r → (Op.eqItems d e ei.size us.toArray vs.toArray is).run P w = .ok r w
  | [], r, h => by
    obtain rfl := Option.some.inj h
    simp [Op.eqItems]
  | j :: is, r, h => by
    simp only [List.map_cons, eqFs, Option.bind_eq_bind, hei, Option.bind_some] at h
    split at h
    · rename_i hc
      cases ha : mkV ei.desc.isAgg ((xs.drop (j * ei.size)).take ei.size) with
      | none => simp [ha] at h
      | some a =>
        cases hb : mkV ei.desc.isAgg ((ys.drop (j * ei.size)).take ei.size) with
        | none => simp [ha, hb] at h
        | some b =>
          simp only [ha, hb, Option.bind_some] at h
          obtain ⟨a', p1, p2⟩ := run_part (hE.ty _ ei hei) hx hx1 hc.1 ha w
          obtain ⟨b', q1, q2⟩ := run_part (hE.ty _ ei hei) hy hy1 hc.2 hb w
          cases he : eq e a b with
          | none => simp [he] at h
          | some c =>
            have hr := heq p2 q2 he
            simp only [he, Option.bind_some] at h
            cases c with
            | true =>
              simp at h
              have := eqItems_ok hE hei hx hx1 hy hy1 heq is h
              simp [Op.eqItems, Sem.run_bind, p1, q1, hr, this]
            | false =>
              simp at h; subst h
              simp [Op.eqItems, Sem.run_bind, p1, q1, hr]
    · cases h

set_option maxHeartbeats 2000000 in
/-- The model's '==' by the type. -/
theorem eq_ok (hE : EnvOk P E) : ∀ (k d : Nat), k + 1 ≤ d → ∀ {t : TypeId} {x' y' : Value} {x y : AV} {r : Bool}, Rep m S w false x' x → Rep m S w false y' y → eqA E k t x y = some r →
    (Op.equalIn d t x' y').run P w = .ok r w := by
  intro k
  induction k with
  | zero => intro d _ t x' y' x y r _ _ h; simp [eqA] at h
  | succ k ih =>
    intro d hkd t x' y' x y r hx hy h
    obtain ⟨d, rfl⟩ : ∃ q, d = q + 1 := ⟨d - 1, by omega⟩
    unfold eqA at h
    cases hi : E.ty t with
    | none => simp [hi] at h
    | some i =>
      simp only [hi, Option.bind_eq_bind, Option.bind_some] at h
      obtain ⟨ds, info, z, hu, hinf, hd, hs, hby, hz, hzc, hz1, hzl, hag, hnag, hst, hcm⟩ := hE.ty t i hi
      split at h
      · rename_i a b hds
        obtain rfl := rep_bool hx; obtain rfl := rep_bool hy
        obtain rfl := Option.some.inj h
        have : ds = .bool := by rw [hd] at hds; cases ds <;> simp [descA] at hds; rfl
        subst this
        simp [Op.equalIn, run_underlying hu]
      · rename_i k0 ka a kb b hds
        obtain rfl := rep_int hx; obtain rfl := rep_int hy
        obtain rfl := desc_int (hd.symm.trans hds)
        split at h
        · rename_i hk
          obtain rfl := Option.some.inj h
          simp [Op.equalIn, run_underlying hu, hk]
        · cases h
      · rename_i a b hds
        obtain ⟨sa, rfl, ha⟩ := rep_str hx
        obtain ⟨sb, rfl, hb⟩ := rep_str hy
        obtain rfl := desc_str (hd.symm.trans hds)
        obtain rfl := Option.some.inj h
        have he := bytes_eq sa.data.toList sb.data.toList
        rw [ha, hb] at he
        rw [Go.run_equalIn_string w d t sa sb hu, Lib.toList_data, Lib.toList_data, he]
      · rename_i e hds
        obtain rfl := desc_ptr (hd.symm.trans hds)
        cases hx; cases hy
        obtain rfl := Option.some.inj h
        simp [Op.equalIn, run_underlying hu]
      · rename_i e _ hds
        obtain rfl := desc_ptr (hd.symm.trans hds)
        cases hx; cases hy
        obtain rfl := Option.some.inj h
        simp [Op.equalIn, run_underlying hu]
      · rename_i e _ _ hds
        obtain rfl := desc_ptr (hd.symm.trans hds)
        cases hx; cases hy
        obtain rfl := Option.some.inj h
        simp [Op.equalIn, run_underlying hu]
      · rename_i e _ hds
        obtain rfl := desc_ptr (hd.symm.trans hds)
        cases hx; cases hy
        obtain rfl := Option.some.inj h
        simp [Op.equalIn, run_underlying hu]
      · rename_i e _ _ hds
        obtain rfl := desc_ptr (hd.symm.trans hds)
        cases hx; cases hy
        obtain rfl := Option.some.inj h
        simp [Op.equalIn, run_underlying hu]
      · rename_i hds
        obtain ⟨_, _, _, rfl⟩ := desc_func (hd.symm.trans hds)
        cases hx; cases hy
        obtain rfl := Option.some.inj h
        simp [Op.equalIn, run_underlying hu]
      · rename_i hds
        obtain ⟨_, _, _, rfl⟩ := desc_func (hd.symm.trans hds)
        cases hx; cases hy
        obtain rfl := Option.some.inj h
        simp [Op.equalIn, run_underlying hu]
      · rename_i hds
        obtain ⟨_, _, _, rfl⟩ := desc_func (hd.symm.trans hds)
        cases hx; cases hy
        obtain rfl := Option.some.inj h
        simp [Op.equalIn, run_underlying hu]
      · rename_i hds
        obtain ⟨_, rfl⟩ := desc_iface (hd.symm.trans hds)
        cases hx; cases hy
        obtain rfl := Option.some.inj h
        simp [Op.equalIn, run_underlying hu]
      · rename_i hds
        obtain ⟨_, rfl⟩ := desc_iface (hd.symm.trans hds)
        cases hx; cases hy
        obtain rfl := Option.some.inj h
        simp [Op.equalIn, run_underlying hu]
      · rename_i hds
        obtain ⟨_, rfl⟩ := desc_iface (hd.symm.trans hds)
        cases hx; cases hy
        obtain rfl := Option.some.inj h
        simp [Op.equalIn, run_underlying hu]
      · rename_i tx vx ty vy hds
        obtain ⟨_, rfl⟩ := desc_iface (hd.symm.trans hds)
        cases hx with
        | iface _ _ v1 _ hv1 =>
          cases hy with
          | iface _ _ v2 _ hv2 =>
            split at h
            · rename_i hne
              obtain rfl := Option.some.inj h
              simp [Op.equalIn, run_underlying hu, hne]
            · rename_i hne
              have heq : tx = ty := Decidable.of_not_not hne
              subst heq
              split at h
              · rename_i k0 ka a kb b hty
                obtain rfl := rep_int hv1; obtain rfl := rep_int hv2
                cases hti : E.ty tx with
                | none => simp [hti] at hty
                | some j =>
                  simp [hti] at hty
                  obtain ⟨dj, ij, zj, hu2, hi2, hd2, _, _, _, _, _, _, _, _, _, hcmp⟩ := hE.ty tx j hti
                  obtain rfl := desc_int (hd2.symm.trans hty)
                  have hc := hcmp _ rfl
                  split at h
                  · rename_i hk
                    obtain rfl := Option.some.inj h
                    cases d with
                    | zero => omega
                    | succ d => simp [Op.equalIn, run_underlying hu, run_underlying hu2, typeInfo, hi2, hc, hk]
                  · cases h
              · cases h
      · rename_i fs xs ys hds
        obtain ⟨fields, rfl, hff⟩ := desc_struct (hd.symm.trans hds)
        subst hff
        cases hx with
        | agg _ us _ hx hx1 =>
          cases hy with
          | agg _ vs _ hy hy1 =>
            have hfo : P.fieldsOf t = fields := by simp [Program.fieldsOf, hu]
            rw [Go.run_equalIn_struct w d t _ _ (by rw [hfo]; exact hu) (hst _ rfl).2.1, hfo]
            exact eqFs_ok hE hx hx1 hy hy1 (fun a b c => ih d (by omega) a b c) fields.toList (fun f hf => ((hst _ rfl).1 f hf).2) h
      · rename_i n e xs ys hds
        obtain rfl := desc_array (hd.symm.trans hds)
        cases hei : E.ty e with
        | none => simp [hei] at h
        | some ei =>
          simp only [hei, Option.bind_some] at h
          split at h
          · obtain ⟨_, infe, _, _, hinfe, _, hse, _⟩ := hE.ty e ei hei
            cases hx with
            | agg _ us _ hx hx1 =>
              cases hy with
              | agg _ vs _ hy hy1 =>
                have hc : P.cellsOf e = ei.size := by simp [Program.cellsOf, hinfe, hse]
                rw [Go.run_equalIn_array w d _ _ hu hinfe, hc]
                exact eqItems_ok hE hei hx hx1 hy hy1 (fun a b c => ih d (by omega) a b c) _ h
          · cases h
      · cases h
end ops
end Go.Px
