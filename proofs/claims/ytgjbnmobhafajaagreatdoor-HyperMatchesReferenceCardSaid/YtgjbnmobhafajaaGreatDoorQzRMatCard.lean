/- Proved: called with any graph, number, costs, edges and vertices that can be read as data, with the three library tables reading as the program's text lays them, HyperMatchesReference returns true and changes nothing that was there before (no further condition). -/
import Derived.Test.YtgjbnmobhafajaaGreatDoorQzRMatLift
import Derived.Test.YtgjbnmobhafajaaGreatDoorQzRMatPure
import Derived.Test.YtgjbnmobhafajaaGreatDoorTie
import Derived.Test.YtgjbnmobhafajaaGreatDoorCards
import Derived.SevenTiedAt
section
namespace Go.Proofs.YtgjbnmobhafajaaGreatDoor
open Go Go.ChangeShapes Go.WideShapes Go.ChangeAt Go.RowKit
theorem hyperMatchesReference_holds : Rows.HyperMatchesReferenceSaid :=
  OpenClaim.holds_of_wide 3 Tryz.f3 rfl rfl rfl rfl rfl rfl rfl ⟨rfl, rfl, rfl, rfl, rfl⟩ rfl rfl rfl rfl rfl (by kernel_rfl) Tryz.func3 (by kernel_rfl)
    (of_decide_eq_true (by kernel_rfl)) (by unfold Func.isWrapper; first | (rw [if_pos (by decide +kernel)]; kernel_rfl) | (rw [if_neg (by decide +kernel)]; exact ⟨rfl, rfl⟩))
    (fun os started H enc _ => hyperMatchesReference_lifted hyperMatchesReferencePure os started H enc)
theorem hyperMatchesReference_card : Rows.HyperMatchesReferenceCardSaid :=
  Claim7.holds_tied_plain_at .later [] [.data, .data, .data] true (true, "522dd1c9c18837a8e7fd07c13abf5668ec37bee282e5b946044b38b927aad05c") false
    hyperMatchesReference_holds (fun _ h => by cases h) (by kernel_rfl) (fun _ h => by cases h) hyperMatchesReference_row_tie rfl ⟨rfl, rfl⟩ (by kernel_rfl) rfl
    (fun f fn hf hfn => by
      obtain rfl : f = 3 := Option.some.inj ((show Tryz.prog.funcNamed "cleanse/cleanselaw27.HyperMatchesReference" = some 3 by kernel_rfl).symm.trans hf) |>.symm
      obtain rfl : fn = Tryz.f3 := (Option.some.inj (Tryz.func3.symm.trans hfn)).symm
      exact ⟨by kernel_rfl, fun j t ht => by
        rw [Tryz.params3] at ht
        have h3 : t = 25 ∨ t = 3 ∨ t = 22 ∨ t = 23 := by
          rcases j with _ | _ | _ | _ | _ | j
          · left; simpa using ht.symm
          · right; left; simpa using ht.symm
          · right; right; left; simpa using ht.symm
          · right; right; right; simpa using ht.symm
          · right; right; left; simpa using ht.symm
          · simp at ht
        rcases h3 with rfl | rfl | rfl | rfl
        · exact (show Tryz.prog.wantsStandIn 25 = false by kernel_rfl)
        · exact (show Tryz.prog.wantsStandIn 3 = false by kernel_rfl)
        · exact (show Tryz.prog.wantsStandIn 22 = false by kernel_rfl)
        · exact (show Tryz.prog.wantsStandIn 23 = false by kernel_rfl)⟩)
    (by kernel_rfl)
#print axioms hyperMatchesReference_card
end Go.Proofs.YtgjbnmobhafajaaGreatDoor
end
