/- Proved: called with any edges that can be read as data, with the three library tables reading as the program's text lays them, HyperMinimal returns true and changes nothing that was there before (no further condition). -/
import Derived.Test.YtgjbnmobhafajaaDoorQsRMinLift
import Derived.Test.YtgjbnmobhafajaaDoorQsRMinPure
import Derived.Test.YtgjbnmobhafajaaDoorTie
import Derived.Test.YtgjbnmobhafajaaDoorCards
import Derived.SevenTiedAt
set_option linter.unusedVariables false
set_option linter.unusedSimpArgs false
section
namespace Go.Proofs.YtgjbnmobhafajaaDoor
open Go Go.ChangeShapes Go.WideShapes Go.ChangeAt Go.RowKit
theorem hyperMinimal_holds : Rows.HyperMinimalSaid :=
  OpenClaim.holds_of_wide 3 Tryd.f3 rfl rfl rfl rfl rfl rfl rfl ⟨rfl, rfl, rfl, rfl, rfl⟩ rfl rfl rfl rfl rfl (by kernel_rfl) Tryd.func3 (by kernel_rfl)
    (of_decide_eq_true (by kernel_rfl)) (by unfold Func.isWrapper; first | (rw [if_pos (by decide +kernel)]; kernel_rfl) | (rw [if_neg (by decide +kernel)]; exact ⟨rfl, rfl⟩))
    (fun os started H enc _ => hyperMinimal_lifted hyperMinimalPure os started H enc)
theorem hyperMinimal_card : Rows.HyperMinimalCardSaid :=
  Claim7.holds_tied_plain_at .later [] [.data, .data, .data] true (true, "297c43443dcd613df36feb01ff9f81e2f139ace8ad17d17613030ba674d4a706") false
    hyperMinimal_holds (fun _ h => by cases h) (by kernel_rfl) (fun _ h => by cases h) hyperMinimal_row_tie rfl ⟨rfl, rfl⟩ (by kernel_rfl) rfl
    (fun f fn hf hfn => by
      obtain rfl : f = 3 := Option.some.inj ((show Tryd.prog.funcNamed "cleanse/cleanselaw27.HyperMinimal" = some 3 by kernel_rfl).symm.trans hf) |>.symm
      obtain rfl : fn = Tryd.f3 := (Option.some.inj (Tryd.func3.symm.trans hfn)).symm
      exact ⟨by kernel_rfl, fun j t ht => by
        rw [Tryd.params3] at ht
        have h3 : t = 22 := by
          rcases j with _ | j
          · simpa using ht.symm
          · simp at ht
        rcases h3 with rfl
        · exact (show Tryd.prog.wantsStandIn 22 = false by kernel_rfl)⟩)
    (by kernel_rfl)
#print axioms hyperMinimal_card
end Go.Proofs.YtgjbnmobhafajaaDoor
end
