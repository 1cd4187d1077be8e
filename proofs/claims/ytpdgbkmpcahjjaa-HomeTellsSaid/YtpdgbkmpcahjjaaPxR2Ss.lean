/- slices.SortFunc at this seat: it sorts. -/
import Derived.Test.YtpdgbkmpcahjjaaPxR2Cl
import Derived.Test.YtpdgbkmpcahjjaaPxR2La
namespace Go.Proofs.PxR2
open Go Go.Shelf Go.RowKit Go.Lib Go.Sort Go.Proofs Go.Px
theorem sortsM : SortsM Try.prog 83 84 := fun w blk cap f c d hH hblk hsz hc hne hf => by
  obtain ⟨cb, co, spot⟩ := c
  have hsp : spot = none := by
    cases spot with
    | none => rfl
    | some s => simp only [World.cell?] at hc; split at hc <;> simp at hc
  subst hsp
  have eg : ∀ args w, (callFunc 84 args).run Try.prog w = .ok (.enter 84 args) w := enters_of Try.func84 (by kernel_rfl) rfl
  have hcmp : CmpLays Try.prog 84 #[.pointer (some ⟨cb, co, none⟩)] encS 2 (cfS f) blk 0 d.size w := fun m os dk hdk x y => by
    refine closure84 x y f hf cb co _ ?_
    have hcb : cb < w.heap.size := World.block_lt_of_cell? w ⟨cb, co, none⟩ hc
    unfold sortWorldK
    rw [cell?_grow _ _ _ (by show cb < _; simp [putRowK, putRow, mapBlock, Sort.ahead]; exact hcb), cell?_putRowK_other _ _ _ _ _ _ _ (by exact hne)]
    exact hc
  have hcon := AnyQ.slices_SortFunc Try.sortL 2 Try.isAgg103 Try.sizeOf103 encS (fun _ => rfl) enc_one (cfS f) (cf_swo f) 84 #[.pointer (some ⟨cb, co, none⟩)] blk 0 cap d w eg hcmp hH hblk hsz
  exact hcon.mono fun e w' ⟨he, d', n, os, h1, h2, h3⟩ => ⟨he, d', n, os, h1, h2, h3⟩
end Go.Proofs.PxR2
