/- What the walks of slices.Insert must show. -/
import Derived.Test.YtefondfmngjekaaGreatPxA
import Derived.WalkKit
set_option linter.unusedVariables false
namespace Go.Px
open Go Go.RowKit

/-- What the walks must show: at the end. -/
def InsEnd (P : Program) (f : FuncId) (tS : TypeId) : Prop :=
  ∀ w (a : Option Addr) n c va m vc v' w', n ≤ c → (a = none → c = 0) → 0 < m → (∀ ty, (Builtin.append_ #[tS, tS] ty #[.slice a n c, .slice (some va) m vc]).run P w = .ok v' w') →
    Calls P f #[.slice a n c, .int .i64 n, .slice (some va) m vc] w fun e w1 => e = .returned v' ∧ w1 = w'

/-- In place. -/
def InsShift (P : Program) (f : FuncId) (sz : Nat) : Prop :=
  ∀ (w : World) (b off n c i vb voff m vc : Nat) (cs vs : List Value), i < n → 0 < m → n + m ≤ c → n + m ≤ mostBytes → vb ≠ b → cs.length = n * sz → vs.length = m * sz →
    (∀ (j : Nat) (v : Value), cs[j]? = some v → w.cell? ⟨b, off + j, none⟩ = some v) → (∀ j, j < (n + m) * sz → (w.cell? ⟨b, off + j, none⟩).isSome = true) → (∀ j, w.frozen? ⟨b, j, none⟩ = false) →
    (∀ (j : Nat) (v : Value), vs[j]? = some v → w.cell? ⟨vb, voff + j, none⟩ = some v) → (∀ v ∈ cs, v.oneCell' = true) → (∀ v ∈ vs, v.oneCell' = true) →
    (∃ tA tB kA kB, w.shape? vb = some (tA, kA) ∧ w.shape? b = some (tB, kB) ∧ kB ≠ 0) → (∀ j, w.frozen? ⟨vb, j, none⟩ = false) →
    Calls P f #[.slice (some ⟨b, off, none⟩) n c, .int .i64 i, .slice (some ⟨vb, voff, none⟩) m vc] w fun e w' =>
      e = .returned (.slice (some ⟨b, off, none⟩) (n + m) c) ∧ w' = (w.drew.setCells b (off + (i + m) * sz) (cs.drop (i * sz))).setCells b (off + i * sz) vs

/-- Into a new row. -/
def InsGrow (P : Program) (f : FuncId) (tE : TypeId) (sz bytes : Nat) : Prop :=
  ∀ (w : World) (b off n c i vb voff m vc : Nat) (cs vs : List Value), i < n → 0 < m → n ≤ c → c < n + m → (n + m) * bytes ≤ mostBytes → n + m ≤ mostBytes → cs.length = n * sz → vs.length = m * sz →
    (∀ (j : Nat) (v : Value), cs[j]? = some v → w.cell? ⟨b, off + j, none⟩ = some v) → (∀ (j : Nat) (v : Value), vs[j]? = some v → w.cell? ⟨vb, voff + j, none⟩ = some v) → (∀ v ∈ cs, v.oneCell' = true) → (∀ v ∈ vs, v.oneCell' = true) →
    ∃ (ROW : Array Value) (G : Nat), n + m ≤ G ∧ ROW.size = G * sz ∧ (∀ (j : Nat) (v : Value), (cs.take (i * sz))[j]? = some v → ROW[j]? = some v) ∧
      Calls P f #[.slice (some ⟨b, off, none⟩) n c, .int .i64 i, .slice (some ⟨vb, voff, none⟩) m vc] w fun e w' =>
        e = .returned (.slice (some ⟨w.heap.size, 0, none⟩) (n + m) G) ∧ w' = (((w.alloc (.cells ROW tE)).drew.setCells w.heap.size (i * sz) vs).drew).setCells w.heap.size ((i + m) * sz) (cs.drop (i * sz))

end Go.Px
