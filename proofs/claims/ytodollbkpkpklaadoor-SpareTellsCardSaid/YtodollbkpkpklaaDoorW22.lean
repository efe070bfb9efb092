/-
  A claim's own text, joined by a small program out of: CardD.
-/
import Derived.Test.YtodollbkpkpklaaDoorW21
import Derived.Test.YtodollbkpkpklaaDoorCards
import Derived.Test.YtodollbkpkpklaaDoorTie
import Derived.SevenTiedAt
set_option linter.unusedVariables false
set_option linter.unusedSimpArgs false
section
/-
  The card of SpareTells.
-/
namespace Go.Proofs.YtodollbkpkpklaaDoor
open Go
set_option maxRecDepth 1000000

theorem spareTells_card_holds : Rows.SpareTellsCardSaid :=
  Claim7.holds_tied_plain_at .later [] [.data, .data, .data, .sentinel, .sentinel] true (true, "0abd817605a75efbf2fc2f0beaa6d9aba711e5593356fbc800cf21b0befe8961") true
    Go.Vi.Sp.row_holds (fun _ h => by cases h) (by kernel_rfl) (fun _ h => by cases h) spareTells_row_tie rfl ⟨rfl, rfl⟩ (by kernel_rfl) rfl
    (fun f fn hf hfn => by
      obtain rfl : f = 3 := Option.some.inj ((show Tryd.prog.funcNamed "craquelure/craquelurelaw46.SpareTells" = some 3 by kernel_rfl).symm.trans hf) |>.symm
      obtain rfl : fn = Tryd.f3 := (Option.some.inj (Tryd.func3.symm.trans hfn)).symm
      exact ⟨by kernel_rfl, fun j t ht => by
        rw [Tryd.params3] at ht
        have ht' : t = 24 ∨ t = 32 ∨ t = 3 ∨ t = 9 := by
          match j, ht with
          | 0, ht => simp at ht; exact .inl ht.symm
          | 1, ht => simp at ht; exact .inr (.inl ht.symm)
          | 2, ht => simp at ht; exact .inr (.inr (.inl ht.symm))
          | 3, ht => simp at ht; exact .inr (.inr (.inr ht.symm))
          | k + 4, ht => simp at ht
        rcases ht' with rfl | rfl | rfl | rfl
        · exact (show Tryd.prog.wantsStandIn 24 = false by kernel_rfl)
        · exact (show Tryd.prog.wantsStandIn 32 = false by kernel_rfl)
        · exact (show Tryd.prog.wantsStandIn 3 = false by kernel_rfl)
        · exact (show Tryd.prog.wantsStandIn 9 = false by kernel_rfl)⟩)
    (by kernel_rfl)
end Go.Proofs.YtodollbkpkpklaaDoor
end
