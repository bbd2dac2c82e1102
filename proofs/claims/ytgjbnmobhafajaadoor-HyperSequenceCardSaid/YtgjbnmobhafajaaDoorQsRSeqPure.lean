/- The texts of this claim, RSeqPure. -/
import Derived.Test.YtgjbnmobhafajaaDoorQsRSeqLift
set_option linter.unusedVariables false
set_option linter.unusedSimpArgs false
section
namespace Go.Proofs.YtgjbnmobhafajaaDoor
theorem hyperSequencePure : HyperSequencePure := fun _ _ _ _ _ _ _ _ => ⟨0, rfl⟩
end Go.Proofs.YtgjbnmobhafajaaDoor
end
