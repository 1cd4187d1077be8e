/- More operations: arithmetic and comparison, conversion, assertion, lengths, maps' look-ups. -/
import Derived.Test.YtefondfmngjekaaGreatPxC
set_option linter.unusedVariables false
set_option linter.unusedSimpArgs false
namespace Go.Px
open Go Go.RowKit

section ops
variable {P : Program} {E : Env} {base : Nat} {m : Mu} {S : Sett} {H : Heap} {w : World}

theorem rep_nilIface {nf : Bool} {v : Value} (h : Rep m S w nf v .nilIface) : v = .nilIface := by cases h; rfl

theorem constO_val {o : Operand} (h : isConstO o = true) : ∃ v, o = .const v := by
  cases o <;> simp [isConstO] at h
  exact ⟨_, rfl⟩

theorem isConst_of {o : Operand} (h : isConstO o = true) : (o matches .const _) = true := by
  obtain ⟨v, rfl⟩ := constO_val h; rfl

theorem eqA_agg (hE : EnvOk P E) {k : Nat} {t : TypeId} {xs ys : List AV} {r : Bool} (h : eqA E k t (.agg xs) (.agg ys) = some r) : P.eqGuardType P.depth t = false := by
  cases k with
  | zero => simp [eqA] at h
  | succ k =>
    simp only [eqA] at h
    cases hi : E.ty t with
    | none => simp [hi] at h
    | some i =>
      simp only [hi, Option.bind_eq_bind, Option.bind_some] at h
      obtain ⟨ds, info, z, hu, hinf, hd, hs, hby, hz, hzc, hz1, hzl, hag, hnag, hst, hcm⟩ := hE.ty t i hi
      cases hds : i.desc <;> simp only [hds] at h <;> try (cases h; done)
      · rename_i n e
        obtain rfl := desc_array (hd.symm.trans hds)
        cases hei : E.ty e with
        | none => simp [hei] at h
        | some ei =>
          simp only [hei, Option.bind_some] at h
          split at h
          · rename_i k0 hk0
            obtain ⟨de, _, _, hue, _, hde, _⟩ := hE.ty e ei hei
            obtain rfl := desc_int (hde.symm.trans hk0)
            obtain ⟨q, hq⟩ : ∃ q, P.depth = q + 2 := ⟨_, rfl⟩
            rw [hq]
            simp [Program.eqGuardType, hu, hue]
          · cases h
      · obtain ⟨f, rfl, _⟩ := desc_struct (hd.symm.trans hds)
        exact (hst _ rfl).2.2

theorem run_eqGuard_plain {op : BinOp} {t : TypeId} {x y : Operand} {a b : Value} (h1 : ¬ (a = .nilIface ∧ b = .nilIface)) (h2 : ∀ xs ys, a = .agg xs → b = .agg ys → P.eqGuardType P.depth t = false) (w : World) :
    (eqGuard op t x y a b).run P w = .ok () w := by
  unfold eqGuard
  cases op <;> try rfl
  all_goals
    simp only [Bool.not_true, Bool.false_eq_true, if_false]
    split
    · exact absurd ⟨rfl, rfl⟩ h1
    · rename_i xs ys
      have := h2 xs ys rfl rfl
      simp [this]
    · rfl


theorem rep_agg {v : Value} {x : AV} {cs : Array Value} (h : Rep m S w false v x) (e : v = .agg cs) : x = .undef ∨ ∃ xs, x = .agg xs := by
  cases h <;> first
    | (cases e; done)
    | exact .inl rfl
    | exact .inr ⟨_, rfl⟩
theorem rep_iface_nil {v : Value} {x : AV} (h : Rep m S w false v x) (e : v = .nilIface) : x = .undef ∨ x = .nilIface := by
  cases h <;> first
    | (cases e; done)
    | exact .inl rfl
    | exact .inr rfl

theorem eqA_undef {k : Nat} {t : TypeId} {x y : AV} {r : Bool} (h : eqA E k t x y = some r) : x ≠ .undef ∧ y ≠ .undef := by
  cases k with
  | zero => simp [eqA] at h
  | succ k =>
    constructor
    · rintro rfl
      simp only [eqA] at h
      cases hi : E.ty t with
      | none => simp [hi] at h
      | some i =>
        simp only [hi, Option.bind_eq_bind, Option.bind_some] at h
        cases hds : i.desc <;> simp [hds] at h
    · rintro rfl
      simp only [eqA] at h
      cases hi : E.ty t with
      | none => simp [hi] at h
      | some i =>
        simp only [hi, Option.bind_eq_bind, Option.bind_some] at h
        cases hds : i.desc <;> cases x <;> simp [hds] at h

theorem eqA_res {k : Nat} {t : TypeId} {x y : AV} {r : Bool} (h : eqA E k t x y = some r) : (∀ k r M, x ≠ .res k r M) ∧ ∀ k r M, y ≠ .res k r M := by
  cases k with
  | zero => simp [eqA] at h
  | succ k =>
    constructor
    · rintro k1 r1 M1 rfl
      simp only [eqA] at h
      cases hi : E.ty t with
      | none => simp [hi] at h
      | some i =>
        simp only [hi, Option.bind_eq_bind, Option.bind_some] at h
        cases hds : i.desc <;> simp [hds] at h
    · rintro k1 r1 M1 rfl
      simp only [eqA] at h
      cases hi : E.ty t with
      | none => simp [hi] at h
      | some i =>
        simp only [hi, Option.bind_eq_bind, Option.bind_some] at h
        cases hds : i.desc <;> cases x <;> simp [hds] at h

/-- The two forms that '==' on values of other kinds has in the model. -/
theorem run_eql_other (op : BinOp) (hop : op = .eql ∨ op = .neq) {t : TypeId} {x' y' : Value} {x y : AV} (hx : Rep m S w false x' x) (hy : Rep m S w false y' y) (hux : x ≠ .undef) (huy : y ≠ .undef) (hrx : ∀ k r M, x ≠ .res k r M) (hry : ∀ k r M, y ≠ .res k r M)
    (hni : ∀ k a k' b, x = .int k a → y = .int k' b → False) (hns : ∀ a b, x = .str a → y = .str b → False) :
    binOp op t x' y' = (if op = .eql then (do pure (.bool (← Op.equal t x' y'))) else (do pure (.bool (!(← Op.equal t x' y'))))) := by
  rcases hop with rfl | rfl <;>
  (cases hx <;> first
    | exact absurd rfl hux
    | exact absurd rfl (hrx _ _ _)
    | (cases hy <;> first
        | exact absurd rfl huy
        | exact absurd rfl (hry _ _ _)
        | rfl
        | exact (hni _ _ _ _ rfl rfl).elim
        | exact (hns _ _ rfl rfl).elim))

theorem wrap_small (k : IntKind) (n : Nat) (h : n < 4) : k.wrap (n : Int) = n := by
  cases k <;> simp only [IntKind.wrap, IntKind.bits, IntKind.signed, Nat.reduceSub, Int.reducePow, Bool.true_and, Bool.false_and, Bool.false_eq_true, if_false]
  all_goals first
    | omega
    | (split
       · rename_i h2
         have h2 := of_decide_eq_true h2
         omega
       · omega)

theorem and_small (k : IntKind) (n : Int) (h0 : 0 ≤ n) (j : Nat) (hj : j = 1 ∨ j = 2) : (BitVec.ofInt k.bits n &&& BitVec.ofInt k.bits ((2 ^ j - 1 : Nat) : Int)).toNat = n.toNat % 2 ^ j := by
  obtain ⟨a, rfl⟩ := Int.eq_ofNat_of_zero_le h0
  have hb : 8 ≤ k.bits := by cases k <;> decide
  have h2 : 2 ^ j - 1 < 2 ^ k.bits := by
    have h3 : 2 ^ j ≤ 2 ^ k.bits := Nat.pow_le_pow_right (by decide) (by omega)
    have h4 : 0 < 2 ^ j := Nat.pow_pos (by decide)
    omega
  simp only [BitVec.ofInt_natCast, BitVec.toNat_and, BitVec.toNat_ofNat, Int.toNat_natCast]
  rw [Nat.mod_eq_of_lt h2, Nat.and_two_pow_sub_one_eq_mod]
  have hd : 2 ^ j ∣ 2 ^ k.bits := Nat.pow_dvd_pow 2 (by omega)
  exact Nat.mod_mod_of_dvd a hd

theorem res_ok {op : BinOp} {t : TypeId} {xo yo : Operand} {k : IntKind} {n : Int} {r M : Nat} {y' : Value} {y q : AV} (h0 : 0 ≤ n) (h1 : n.toNat % M = r) (hy : Rep m S w false y' y) (h : resA op k r M y = some q) :
    ∃ v', (do eqGuard op t xo yo (.int k n) y'; binOp op t (.int k n) y' : Sem Value).run P w = .ok v' w ∧ Rep m S w false v' q := by
  unfold resA at h
  split at h
  · rename_i k' c
    obtain rfl := rep_int hy
    split at h
    · split at h
      · rename_i hc
        obtain ⟨hc0, hM, hcb⟩ := hc
        cases h
        have hb : ¬ (c < 0) := by omega
        refine ⟨.int k (n.fdiv (2 ^ (min c.toNat k.bits))), by simp [Sem.run_bind, eqGuard, binOp, Op.shift, hb], ?_⟩
        rw [Nat.min_eq_left hcb]
        obtain ⟨a, rfl⟩ := Int.eq_ofNat_of_zero_le h0
        have hd : (a : Int).fdiv (2 ^ c.toNat) = ((a / 2 ^ c.toNat : Nat) : Int) := by
          rw [Int.fdiv_eq_ediv_of_nonneg _ (Int.le_of_lt (Int.pow_pos (by decide)))]
          simp
        rw [hd]
        refine .res _ _ _ _ _ (Int.natCast_nonneg _) ?_
        simp only [Int.toNat_natCast] at h1 ⊢
        subst h1
        obtain ⟨e, rfl⟩ := Nat.dvd_of_mod_eq_zero hM
        have hp : 0 < 2 ^ c.toNat := Nat.pow_pos (by decide)
        rw [Nat.mul_div_cancel_left _ hp, Nat.mod_mul_right_div_self]
      · cases h
    · split at h
      · rename_i hc
        obtain ⟨rfl, hc⟩ := hc
        cases h
        have hk : intBin .and k n c = some (.int k ((r % (c.toNat + 1) : Nat) : Int)) := by
          simp only [intBin]
          congr 2
          rcases hc with ⟨rfl, hM⟩ | ⟨rfl, hM⟩
          · have := and_small k n h0 1 (.inl rfl)
            simp only [Nat.pow_one, Nat.reduceSub] at this
            rw [show ((1 : Nat) : Int) = 1 from rfl] at this
            rw [this, wrap_small _ _ (by omega)]
            subst h1
            congr 1
            exact (Nat.mod_mod_of_dvd _ (Nat.dvd_of_mod_eq_zero hM)).symm
          · have := and_small k n h0 2 (.inr rfl)
            simp only [Nat.reducePow, Nat.reduceSub] at this
            rw [show ((3 : Nat) : Int) = 3 from rfl] at this
            rw [this, wrap_small _ _ (by omega)]
            subst h1
            congr 1
            exact (Nat.mod_mod_of_dvd _ (Nat.dvd_of_mod_eq_zero hM)).symm
        obtain ⟨v', g1, g2⟩ := intBin_ok (P := P) (m := m) (S := S) (w := w) hk
        refine ⟨v', ?_, g2⟩
        rw [Sem.run_bind, run_eqGuard_plain (by simp) (by simp), Result.andThen_ok, ← g1]
        simp [binOp]
      · cases h
    · split at h
      · rename_i hc
        obtain ⟨rfl, hc0, hM⟩ := hc
        cases h
        have hk : intBin .rem k n c = some (.int k ((r % c.toNat : Nat) : Int)) := by
          simp only [intBin]
          rw [if_neg (by omega)]
          congr 2
          obtain ⟨a, rfl⟩ := Int.eq_ofNat_of_zero_le h0
          obtain ⟨b, rfl⟩ := Int.eq_ofNat_of_zero_le (Int.le_of_lt hc0)
          simp only [Int.toNat_natCast] at h1 hM ⊢
          subst h1
          rw [Nat.mod_mod_of_dvd _ (Nat.dvd_of_mod_eq_zero hM)]
          exact Int.ofNat_tmod a b
        obtain ⟨v', g1, g2⟩ := intBin_ok (P := P) (m := m) (S := S) (w := w) hk
        refine ⟨v', ?_, g2⟩
        rw [Sem.run_bind, run_eqGuard_plain (by simp) (by simp), Result.andThen_ok, ← g1]
        simp [binOp]
      · cases h
    · cases h
  · cases h

theorem bin_ok (hE : EnvOk P E) {op : BinOp} {t : TypeId} {xo yo : Operand} {x' y' : Value} {x y r : AV} (hx : Rep m S w false x' x) (hy : Rep m S w false y' y) (h : binA E op t xo yo x y = some r) :
    ∃ v', (do eqGuard op t xo yo x' y'; binOp op t x' y' : Sem Value).run P w = .ok v' w ∧ Rep m S w false v' r := by
  unfold binA at h
  split at h
  · cases hx with
    | res _ k n r M h0 h1 => exact res_ok h0 h1 hy h
  rename_i hnr
  clear hnr
  unfold binA0 at h
  split at h
  · rename_i k a k2 b
    obtain rfl := rep_int hx; obtain rfl := rep_int hy
    split at h
    · cases h
    · rename_i hb
      obtain rfl := Option.some.inj h
      exact ⟨_, by simp [Sem.run_bind, eqGuard, binOp, Op.shift, hb], .int _ _ _⟩
  · rename_i k a k2 b
    obtain rfl := rep_int hx; obtain rfl := rep_int hy
    split at h
    · cases h
    · rename_i hb
      obtain rfl := Option.some.inj h
      exact ⟨_, by simp [Sem.run_bind, eqGuard, binOp, Op.shift, hb], .int _ _ _⟩
  · rename_i k a k2 b hn1 hn2
    obtain rfl := rep_int hx; obtain rfl := rep_int hy
    split at h
    · rename_i hk
      subst hk
      obtain ⟨v', g1, g2⟩ := intBin_ok (P := P) (m := m) (S := S) (w := w) h
      refine ⟨v', ?_, g2⟩
      rw [Sem.run_bind, run_eqGuard_plain (by simp) (by simp), Result.andThen_ok, ← g1]
      cases op <;> first
        | exact (hn1 rfl).elim
        | exact (hn2 rfl).elim
        | simp [binOp]
    · cases h
  · rename_i a b hn1 hn2 hn3
    obtain ⟨sa, rfl, ha⟩ := rep_str hx
    obtain ⟨sb, rfl, hb⟩ := rep_str hy
    obtain ⟨v', g1, g2⟩ := strBin_ok (P := P) (m := m) (S := S) (w := w) ha hb h
    refine ⟨v', ?_, g2⟩
    rw [Sem.run_bind, run_eqGuard_plain (by simp) (by simp), Result.andThen_ok, ← g1]
    cases op <;> simp [binOp]
  · obtain rfl := rep_nilIface hx; obtain rfl := rep_nilIface hy
    split at h
    · rename_i hc
      cases he : eqA E 20 t .nilIface .nilIface with
      | none => simp [he] at h
      | some b =>
        simp [he] at h; subst h
        have hr := eq_ok hE 20 10000 (by omega) hx hy he
        refine ⟨.bool b, ?_, .bool _ _⟩
        have hg : (eqGuard .eql t xo yo .nilIface .nilIface).run P w = .ok () w := by
          rcases Bool.or_eq_true _ _ ▸ hc with q | q
          · obtain ⟨v, rfl⟩ := constO_val q; simp [eqGuard]
          · obtain ⟨v, rfl⟩ := constO_val q; simp [eqGuard]
        rw [Sem.run_bind, hg, Result.andThen_ok]
        simp [binOp, Op.equal, Op.maxDepth, hr]
    · cases h
  · obtain rfl := rep_nilIface hx; obtain rfl := rep_nilIface hy
    split at h
    · rename_i hc
      cases he : eqA E 20 t .nilIface .nilIface with
      | none => simp [he] at h
      | some b =>
        simp [he] at h; subst h
        have hr := eq_ok hE 20 10000 (by omega) hx hy he
        refine ⟨.bool !b, ?_, .bool _ _⟩
        have hg : (eqGuard .neq t xo yo .nilIface .nilIface).run P w = .ok () w := by
          rcases Bool.or_eq_true _ _ ▸ hc with q | q
          · obtain ⟨v, rfl⟩ := constO_val q; simp [eqGuard]
          · obtain ⟨v, rfl⟩ := constO_val q; simp [eqGuard]
        rw [Sem.run_bind, hg, Result.andThen_ok]
        simp [binOp, Op.equal, Op.maxDepth, hr]
    · cases h
  · rename_i hn1 hn2 hn3 hn4
    cases he : eqA E 20 t x y with
    | none => simp [he] at h
    | some b =>
      simp [he] at h; subst h
      obtain ⟨hux, huy⟩ := eqA_undef he
      obtain ⟨hrx, hry⟩ := eqA_res he
      have hr := eq_ok hE 20 10000 (by omega) hx hy he
      refine ⟨.bool b, ?_, .bool _ _⟩
      rw [Sem.run_bind, run_eqGuard_plain (w := w) (fun ⟨e1, e2⟩ => by
          rcases rep_iface_nil hx e1 with q | q
          · exact hux q
          · rcases rep_iface_nil hy e2 with q2 | q2
            · exact huy q2
            · exact hn4 q q2)
        (fun us vs e1 e2 => by
          rcases rep_agg hx e1 with q | ⟨xs, rfl⟩
          · exact absurd q hux
          · rcases rep_agg hy e2 with q2 | ⟨ys, rfl⟩
            · exact absurd q2 huy
            · exact eqA_agg hE he), Result.andThen_ok, run_eql_other .eql (.inl rfl) hx hy hux huy hrx hry (fun k a k' b e1 e2 => by subst e1 e2; exact hn2 _ _ _ _ rfl rfl) (fun a b e1 e2 => by subst e1 e2; exact hn3 _ _ rfl rfl)]
      simp [Sem.run_bind, Op.equal, Op.maxDepth, hr]
  · rename_i hn1 hn2 hn3 hn4
    cases he : eqA E 20 t x y with
    | none => simp [he] at h
    | some b =>
      simp [he] at h; subst h
      obtain ⟨hux, huy⟩ := eqA_undef he
      obtain ⟨hrx, hry⟩ := eqA_res he
      have hr := eq_ok hE 20 10000 (by omega) hx hy he
      refine ⟨.bool !b, ?_, .bool _ _⟩
      rw [Sem.run_bind, run_eqGuard_plain (w := w) (fun ⟨e1, e2⟩ => by
          rcases rep_iface_nil hx e1 with q | q
          · exact hux q
          · rcases rep_iface_nil hy e2 with q2 | q2
            · exact huy q2
            · exact hn4 q q2)
        (fun us vs e1 e2 => by
          rcases rep_agg hx e1 with q | ⟨xs, rfl⟩
          · exact absurd q hux
          · rcases rep_agg hy e2 with q2 | ⟨ys, rfl⟩
            · exact absurd q2 huy
            · exact eqA_agg hE he), Result.andThen_ok, run_eql_other .neq (.inr rfl) hx hy hux huy hrx hry (fun k a k' b e1 e2 => by subst e1 e2; exact hn2 _ _ _ _ rfl rfl) (fun a b e1 e2 => by subst e1 e2; exact hn3 _ _ rfl rfl)]
      simp [Sem.run_bind, Op.equal, Op.maxDepth, hr]
  · cases h

theorem un_ok {op : UnOp} {x' : Value} {x r : AV} (hx : Rep m S w false x' x) (h : unA op x = some r) : ∃ v', (Op.unary op x').run P w = .ok v' w ∧ Rep m S w false v' r := by
  unfold unA at h
  split at h
  · obtain rfl := rep_bool hx
    obtain rfl := Option.some.inj h
    exact ⟨_, rfl, .bool _ _⟩
  · obtain rfl := rep_int hx
    obtain rfl := Option.some.inj h
    exact ⟨_, rfl, .int _ _ _⟩
  · cases h

theorem rep_oneCell {nf : Bool} {v : Value} {x : AV} (h : Rep m S w nf v x) (h1 : one x = true) : v.oneCell' = true := by
  cases h <;> first
    | rfl
    | (simp [one] at h1)

theorem repL_oneCell {nf : Bool} : ∀ {vs : List Value} {xs : List AV}, RepL m S w nf vs xs → (∀ x ∈ xs, one x = true) → ∀ v ∈ vs, v.oneCell' = true
  | _, _, .nil _, _, v, hv => by cases hv
  | _, _, .cons _ v y vs ys h t, h1, u, hu => by
    rcases List.mem_cons.1 hu with rfl | hu
    · exact rep_oneCell h (h1 y (by simp))
    · exact repL_oneCell t (fun x hx => h1 x (List.mem_cons_of_mem _ hx)) u hu

/-- What an append or a copy takes of its last operand. -/
theorem content_ok (hR : Rel P base m S H w) {sz n : Nat} {x' : Value} {x : AV} {cs : List AV} {acc : Acc} {tx : TypeId} (hx : Rep m S w false x' x) (h : contentA H sz x = some (n, cs, acc))
    (hk : (∃ e', P.underlying tx = some (.slice e')) ∨ P.underlying tx = some .string) :
    ∃ news, RepL m S w false news cs ∧ (∀ y ∈ cs, one y = true) ∧ cs.length = n * sz ∧ Src P sz tx x' n news w := by
  unfold contentA at h
  split at h
  · rename_i n0 cs0 full
    split at h
    · rename_i hl
      simp at h
      obtain ⟨rfl, rfl, _⟩ := h
      cases hx with
      | nilsl => exact ⟨[], .nil _, (fun _ h => by cases h), by simp, hk, fun _ => rfl, run_firstCells_none w sz 0 0 0, run_firstCells_none w.drew sz 0 0 0, by simp, fun _ h => by cases h⟩
      | sl _ a _ c _ _ h1 h2 h3 =>
        obtain ⟨vs, g1, g2, g3⟩ := h3.vals
        have hlen : vs.length = n0 * sz := by rw [g1.length]; exact hl
        have hc : ∀ j u, vs[j]? = some u → w.cell? (a.add j) = some u := fun j u hj => by
          have hne : cs0 ≠ [] := by
            intro e
            have hq := g1.length
            rw [e, List.length_nil] at hq
            have hlt := (List.getElem?_eq_some_iff.1 hj).1
            omega
          rw [h3.addr hne, addr_add]
          exact g3 j u hj
        exact ⟨vs, g1.weak, g2, hl, hk, fun _ => rfl, run_firstCells_some w sz n0 a n0 c vs hlen hc, run_firstCells_some w.drew sz n0 a n0 c vs hlen (by simpa using hc), hlen, repL_oneCell g1 g2⟩
    · cases h
  · rename_i nm off n0 sz'
    split at h
    · rename_i e cells fr hrow
      split at h
      · rename_i hc
        obtain ⟨rfl, hc2⟩ := hc
        simp at h
        obtain ⟨rfl, rfl, _⟩ := h
        cases hx with
        | own0 _ _ _ b o a h1 =>
          refine ⟨[], by simpa using RepL.nil false, (fun _ h => by simp at h), by simp, ?_⟩
          cases a with
          | none => exact ⟨hk, fun _ => rfl, run_firstCells_none w sz' 0 0 0, run_firstCells_none w.drew sz' 0 0 0, by simp, fun _ h => by cases h⟩
          | some a => exact ⟨hk, fun _ => rfl, run_firstCells_some w sz' 0 a 0 0 [] (by simp) (by simp), run_firstCells_some w.drew sz' 0 a 0 0 [] (by simp) (by simp), by simp, fun _ h => by cases h⟩
        | own _ _ _ _ c b o h1 h2 h3 =>
          obtain ⟨b', o', k, info, r⟩ := hR.obj nm _ hrow
          have hmu := r.mu
          rw [h1] at hmu; cases hmu
          obtain ⟨vs, g1, g2, g3⟩ := r.vals off (n0 * sz')
          have hlc : ((cells.drop off).take (n0 * sz')).length = n0 * sz' := by simp; omega
          have hlen : vs.length = n0 * sz' := by rw [g1.length, hlc]
          have hc : ∀ j u, vs[j]? = some u → w.cell? ((⟨b, o + off, none⟩ : Addr).add j) = some u := fun j u hj => by rw [addr_add]; exact g3 j u hj
          exact ⟨vs, g1, g2, hlc, hk, fun _ => rfl, run_firstCells_some w sz' n0 _ n0 c vs hlen hc, run_firstCells_some w.drew sz' n0 _ n0 c vs hlen (by simpa using hc), hlen, repL_oneCell g1 g2⟩
      · cases h
    · cases h
  · rename_i l
    obtain ⟨s, rfl, hs⟩ := rep_str hx
    split at h
    · rename_i h1
      subst h1
      simp at h
      obtain ⟨rfl, rfl, _⟩ := h
      have hsz := str_size hs
      refine ⟨byteCells s, ?_, (fun y hy => ?_), by simp, ?_⟩
      · unfold byteCells
        subst hs
        rw [List.map_map]
        clear hx hsz
        induction s.data.toList with
        | nil => exact .nil _
        | cons c cs ih => exact .cons _ _ _ _ _ (.int _ _ _) ih
      · obtain ⟨c, _, rfl⟩ := List.mem_map.1 hy
        rfl
      · rw [← hsz]
        exact ⟨hk, fun _ => rfl, firstCells_string s w, firstCells_string s w.drew, by rw [byteCells_length, Nat.mul_one], fun u hu => by
          obtain ⟨_, _, rfl⟩ := List.mem_map.1 hu
          rfl⟩
    · cases h
  · cases h

theorem len_ok (hE : EnvOk P E) (hR : Rel P base m S H w) {t : TypeId} {x' : Value} {x r : AV} {acc : Acc} (hx : Rep m S w false x' x) (h : lenA E H t x = some (r, acc)) (ty : TypeId) :
    ∃ v', (Builtin.len_ #[t] ty #[x']).run P w = .ok v' w ∧ Rep m S w false v' r := by
  unfold lenA at h
  cases hi : E.ty t with
  | none => simp [hi] at h
  | some i =>
    simp only [hi, Option.bind_eq_bind, Option.bind_some] at h
    obtain ⟨ds, info, z, hu, hinf, hd, _⟩ := hE.ty t i hi
    split at h
    · rename_i l hds
      obtain rfl := desc_str (hd.symm.trans hds)
      obtain ⟨s, rfl, hs⟩ := rep_str hx
      simp at h; obtain ⟨rfl, _⟩ := h
      have := str_size hs
      exact ⟨.int .i64 s.size, by simp [Builtin.len_, run_underlying hu, goInt], by rw [this]; exact .int _ _ _⟩
    · rename_i e n cs f hds
      obtain rfl := desc_slice (hd.symm.trans hds)
      simp at h; obtain ⟨rfl, _⟩ := h
      cases hx with
      | nilsl => exact ⟨_, by simp only [Builtin.len_, List.getElem?_toArray, List.getElem?_cons_zero, Sem.run_bind, run_underlying hu, Result.andThen_ok, Sem.run_pure]; rfl, .int _ _ _⟩
      | sl => exact ⟨_, by simp only [Builtin.len_, List.getElem?_toArray, List.getElem?_cons_zero, Sem.run_bind, run_underlying hu, Result.andThen_ok, Sem.run_pure]; rfl, .int _ _ _⟩
    · rename_i e nm off n sz hds
      obtain rfl := desc_slice (hd.symm.trans hds)
      simp at h; obtain ⟨rfl, _⟩ := h
      cases hx with
      | own0 => exact ⟨_, by simp only [Builtin.len_, List.getElem?_toArray, List.getElem?_cons_zero, Sem.run_bind, run_underlying hu, Result.andThen_ok, Sem.run_pure]; rfl, .int _ _ _⟩
      | own => exact ⟨_, by simp only [Builtin.len_, List.getElem?_toArray, List.getElem?_cons_zero, Sem.run_bind, run_underlying hu, Result.andThen_ok, Sem.run_pure]; rfl, .int _ _ _⟩
    · rename_i k v hds
      obtain rfl := desc_map (hd.symm.trans hds)
      simp at h; obtain ⟨rfl, _⟩ := h
      cases hx
      exact ⟨_, by simp only [Builtin.len_, List.getElem?_toArray, List.getElem?_cons_zero, Sem.run_bind, run_underlying hu, Result.andThen_ok, Sem.run_pure]; rfl, .int _ _ _⟩
    · rename_i k v nm hds
      obtain rfl := desc_map (hd.symm.trans hds)
      split at h
      · rename_i kt vt es hm
        simp at h; obtain ⟨rfl, _⟩ := h
        obtain ⟨b, es', h1, h2, h3, h4, h5, _⟩ := hR.obj nm _ hm
        cases hx with
        | map _ b' hb' =>
          rw [h1] at hb'; cases hb'
          have := h4.length
          simp at this
          refine ⟨.int .i64 es'.size, ?_, by rw [this]; exact .int _ _ _⟩
          simp [Builtin.len_, run_underlying hu, goInt, getObj, Sem.run, h3]
      · cases h
    · cases h

theorem most_ok {big : Bool} : ∀ {xs' : List Value} {xs : List AV} {x' : Value} {x r : AV}, Rep m S w false x' x → RepL m S w false xs' xs → xs.foldlM (most2 big) x = some r →
    ∃ v', (xs'.foldlM (if big then Builtin.max2 else Builtin.min2) x' : Sem Value).run P w = .ok v' w ∧ Rep m S w false v' r
  | _, _, x', x, r, hx, .nil _, h => by
    simp at h; subst h
    exact ⟨x', by simp, hx⟩
  | _, _, x', x, r, hx, .cons _ v y vs ys hy t, h => by
    simp only [List.foldlM_cons, Option.bind_eq_bind] at h
    cases hq : most2 big x y with
    | none => simp [hq] at h
    | some q =>
      simp only [hq, Option.bind_some] at h
      unfold most2 at hq
      split at hq
      · rename_i k p k' q'
        obtain rfl := rep_int hx; obtain rfl := rep_int hy
        obtain rfl := Option.some.inj hq
        obtain ⟨v', g1, g2⟩ := most_ok (big := big) (Rep.int false k _) t h
        refine ⟨v', ?_, g2⟩
        cases big <;> simpa [List.foldlM_cons, Sem.run_bind, Builtin.max2, Builtin.min2] using g1
      · cases hq

theorem assert_ok (hE : EnvOk P E) {x' : Value} {x r : AV} {xt t : TypeId} {ok : Bool} (hx : Rep m S w false x' x) (h : assertA E x t ok = some r) :
    ∃ v', (Instr.typeAssert x' xt t ok).run P w = .ok v' w ∧ Rep m S w false v' r := by
  unfold assertA at h
  cases hi : E.ty t with
  | none => simp [hi] at h
  | some i =>
    simp only [hi, Option.bind_eq_bind, Option.bind_some] at h
    obtain ⟨ds, info, z, hu, hinf, hd, hs, hby, hz, hzc, hz1, hzl, hag, hnag, hst, hcm⟩ := hE.ty t i hi
    have hzr : RepL m S w false z.cells.toList i.zero := (zero_rep hzc hz1).weak
    have hzero : ∀ y, mkV i.desc.isAgg i.zero = some y → Rep m S w false z y := by
      intro y hy
      rcases mkV_some hy with ⟨ha, rfl⟩ | ⟨ha, e⟩
      · obtain ⟨cs, rfl⟩ := hag ha
        have := Rep.agg false cs.toList i.zero (by simpa [Value.cells] using hzr) hz1
        simpa using this
      · obtain ⟨_, hc⟩ := hnag ha
        rw [hc, e] at hzr
        cases hzr with
        | cons _ _ _ _ _ h _ => exact h
    have hni : ∀ ms, ds ≠ .interface ms → True := fun _ _ => trivial
    split at h
    · cases h
    · rename_i ta v hds
      cases hx with
      | iface _ _ v' _ hv =>
        have hdi : ∀ ms, ds ≠ .interface ms := fun ms e => by subst e; exact hds hd
        split at h
        · rename_i he
          subst he
          cases ok with
          | true =>
            simp at h; subst h
            exact ⟨_, by cases ds <;> simp_all [Instr.typeAssert, run_underlying hu], .tup false [v', .bool true] _ (.cons _ _ _ _ _ hv (.cons _ _ _ _ _ (.bool _ _) (.nil _)))⟩
          | false =>
            simp at h; subst h
            exact ⟨_, by cases ds <;> simp_all [Instr.typeAssert, run_underlying hu], hv⟩
        · rename_i he
          split at h
          · rename_i hok
            subst hok
            cases hm : mkV i.desc.isAgg i.zero with
            | none => simp [hm] at h
            | some y =>
              simp [hm] at h; subst h
              exact ⟨_, by cases ds <;> simp_all [Instr.typeAssert, run_underlying hu, zeroValue, typeInfo], .tup false [z, .bool false] _ (.cons _ _ _ _ _ (hzero _ hm) (.cons _ _ _ _ _ (.bool _ _) (.nil _)))⟩
          · cases h
    · rename_i hds
      cases hx
      have hdi : ∀ ms, ds ≠ .interface ms := fun ms e => by subst e; exact hds hd
      split at h
      · rename_i hok
        subst hok
        cases hm : mkV i.desc.isAgg i.zero with
        | none => simp [hm] at h
        | some y =>
          simp [hm] at h; subst h
          exact ⟨_, by cases ds <;> simp_all [Instr.typeAssert, run_underlying hu, zeroValue, typeInfo], .tup false [z, .bool false] _ (.cons _ _ _ _ _ (hzero _ hm) (.cons _ _ _ _ _ (.bool _ _) (.nil _)))⟩
      · cases h
    · cases h
end ops
end Go.Px
