/- The texts of this claim, RMatPure. -/
import Derived.Test.YtgjbnmobhafajaaGreatDoorQzRMatLift
section
namespace Go.Proofs.YtgjbnmobhafajaaGreatDoor
theorem hyperMatchesReferencePure : HyperMatchesReferencePure := by
  intro n0 c0 es0 n1 l2 l3 l4
  intros
  refine ⟨0, ?_⟩
  unfold Hy.cleanselaw27_HyperMatchesReference.f
  rw [if_pos]
  assumption
end Go.Proofs.YtgjbnmobhafajaaGreatDoor
end
