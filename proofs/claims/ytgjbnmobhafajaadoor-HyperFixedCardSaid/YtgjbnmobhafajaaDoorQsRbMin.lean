/- The texts of this claim, RbMin. -/
import Derived.Test.YtgjbnmobhafajaaDoorQsME
set_option linter.unusedVariables false
set_option linter.unusedSimpArgs false
section
namespace Go.Proofs.YtgjbnmobhafajaaDoor
open Go Go.RowKit Go.Proofs.YtgjbnmobhafajaaDoorW.PrintWords Go.Proofs.YtgjbnmobhafajaaDoorW.PrintLast
theorem Hyp.setsOf_same {E : List (List Int)} (h : ∀ e ∈ E, Hyp.Inc e ∧ e ≠ []) : Hyp.setsOf E = E := by
  unfold Hyp.setsOf
  rw [List.filter_eq_self.2 (fun e he => by simpa using (h e he).2)]
  conv => rhs; rw [← List.map_id E]
  exact List.map_congr_left fun e he => Hyp.setOf_of_inc (h e he).1
theorem Hyp.valid_sorted {n : Int} {cost : List Int} {edges : List (List Int)} (h : Hyp.validB n cost edges = true) : edges.Pairwise fun a b => Hyp.cmpL a b < 0 := by
  obtain ⟨_, _, _, _, _, _, hm⟩ := Hyp.valid_parts h
  have := (Hyp.minimal_is edges).sorted
  rw [hm] at this
  exact this
theorem Hyp.valid_apart {n : Int} {cost : List Int} {edges : List (List Int)} (h : Hyp.validB n cost edges = true) {e f : List Int} (he : e ∈ edges) (hf : f ∈ edges) (hs : Hyp.subB f e = true) : f = e := by
  obtain ⟨_, _, _, _, _, h6, hm⟩ := Hyp.valid_parts h
  have hs2 : Hyp.setsOf edges = edges := Hyp.setsOf_same fun e he => ⟨(h6 e he).2.2, (h6 e he).1⟩
  rw [← hm] at he
  refine (((Hyp.minimal_is edges).mem e).1 he).2 f ?_ hs
  rw [hs2]; exact hf
theorem Hyp.cast_inc {l : List Nat} (h : l.Pairwise (· < ·)) : Hyp.Inc (l.map fun (x : Nat) => (x : Int)) := by
  unfold Hyp.Inc
  rw [List.pairwise_map]
  exact h.imp fun h => by omega
theorem Hyp.range_lt (n : Nat) : (List.range n).Pairwise (· < ·) := List.pairwise_lt_range
theorem Hyp.set_len {c : List Int} {n : Int} (h : Hyp.isSetB c n = true) (h0 : 0 ≤ n) : (c.length : Int) ≤ n := by
  obtain ⟨h1, h2⟩ := (Hyp.isSetB_iff _ _).1 h
  have := (Hyp.inc_nodup h2).length_le_of_subset (l₂ := (List.range n.toNat).map fun (x : Nat) => (x : Int)) fun x hx => by
    have := h1 x hx
    exact List.mem_map.2 ⟨x.toNat, List.mem_range.2 (by omega), by omega⟩
  simp at this
  omega
end Go.Proofs.YtgjbnmobhafajaaDoor
end
