/- Proved: called with any graph and classes that can be read as data, with the three library tables reading as the program's text lays them, HyperComponents returns true and changes nothing that was there before (no further condition). -/
import Derived.Test.YtgjbnmobhafajaaDoorQsRCompLift
import Derived.Test.YtgjbnmobhafajaaDoorQsRCompPure
import Derived.Test.YtgjbnmobhafajaaDoorTie
import Derived.Test.YtgjbnmobhafajaaDoorCards
import Derived.SevenTiedAt
set_option linter.unusedVariables false
set_option linter.unusedSimpArgs false
section
namespace Go.Proofs.YtgjbnmobhafajaaDoor
open Go Go.ChangeShapes Go.WideShapes Go.ChangeAt Go.RowKit
theorem hyperComponents_holds : Rows.HyperComponentsSaid :=
  OpenClaim.holds_of_wide 6 Tryd.f6 rfl rfl rfl rfl rfl rfl rfl ⟨rfl, rfl, rfl, rfl, rfl⟩ rfl rfl rfl rfl rfl (by kernel_rfl) Tryd.func6 (by kernel_rfl)
    (of_decide_eq_true (by kernel_rfl)) (by unfold Func.isWrapper; first | (rw [if_pos (by decide +kernel)]; kernel_rfl) | (rw [if_neg (by decide +kernel)]; exact ⟨rfl, rfl⟩))
    (fun os started H enc _ => hyperComponents_lifted hyperComponentsPure os started H enc)
theorem hyperComponents_card : Rows.HyperComponentsCardSaid :=
  Claim7.holds_tied_plain_at .later [] [.data, .data, .data] true (true, "297c43443dcd613df36feb01ff9f81e2f139ace8ad17d17613030ba674d4a706") false
    hyperComponents_holds (fun _ h => by cases h) (by kernel_rfl) (fun _ h => by cases h) hyperComponents_row_tie rfl ⟨rfl, rfl⟩ (by kernel_rfl) rfl
    (fun f fn hf hfn => by
      obtain rfl : f = 6 := Option.some.inj ((show Tryd.prog.funcNamed "cleanse/cleanselaw27.HyperComponents" = some 6 by kernel_rfl).symm.trans hf) |>.symm
      obtain rfl : fn = Tryd.f6 := (Option.some.inj (Tryd.func6.symm.trans hfn)).symm
      exact ⟨by kernel_rfl, fun j t ht => by
        rw [Tryd.params6] at ht
        have h3 : t = 33 ∨ t = 41 := by
          rcases j with _ | _ | j
          · left; simpa using ht.symm
          · right; simpa using ht.symm
          · simp at ht
        rcases h3 with rfl | rfl
        · exact (show Tryd.prog.wantsStandIn 33 = false by kernel_rfl)
        · exact (show Tryd.prog.wantsStandIn 41 = false by kernel_rfl)⟩)
    (by kernel_rfl)
#print axioms hyperComponents_card
end Go.Proofs.YtgjbnmobhafajaaDoor
end
