/- The texts of this claim, RbMin. -/
import Derived.Test.YtgjbnmobhafajaaDoorQsME
set_option linter.unusedVariables false
set_option linter.unusedSimpArgs false
section
namespace Go.Proofs.YtgjbnmobhafajaaDoor
open Go Go.RowKit Go.Proofs.YtgjbnmobhafajaaDoorW.PrintWords Go.Proofs.YtgjbnmobhafajaaDoorW.PrintLast
theorem Hyp.minimal_among {edges : List (List Int)} {e : List Int} (h : e ∈ Hyp.minimal edges) : e ∈ Hyp.setsOf edges := (((Hyp.minimal_is edges).mem e).1 h).1
theorem Hyp.minimal_len (edges : List (List Int)) : (Hyp.minimal edges).length ≤ edges.length := by
  unfold Hyp.minimal
  rw [List.length_mergeSort]
  have h1 := (Hyp.run_sub ((Hyp.setsOf edges).mergeSort fun a b => decide (a.length ≤ b.length))).length_le
  rw [List.length_mergeSort] at h1
  refine Nat.le_trans h1 ?_
  unfold Hyp.setsOf
  rw [List.length_map]
  exact List.length_filter_le _ _
theorem Hyp.minimal_from {edges : List (List Int)} {e : List Int} (h : e ∈ Hyp.minimal edges) : ∃ x ∈ edges, x ≠ [] ∧ e = Hyp.setOf x := by
  obtain ⟨x, hx, rfl⟩ := List.mem_map.1 (Hyp.minimal_among h)
  obtain ⟨h1, h2⟩ := List.mem_filter.1 hx
  exact ⟨x, h1, by simpa using h2, rfl⟩
end Go.Proofs.YtgjbnmobhafajaaDoor
end
