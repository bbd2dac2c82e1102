/- The texts of this claim, RbMin. -/
import Derived.Test.YtgjbnmobhafajaaDoorQsME
set_option linter.unusedVariables false
set_option linter.unusedSimpArgs false
section
namespace Go.Proofs.YtgjbnmobhafajaaDoor
open Go Go.RowKit Go.Proofs.YtgjbnmobhafajaaDoorW.PrintWords Go.Proofs.YtgjbnmobhafajaaDoorW.PrintLast
theorem Hyp.join_good {n : Nat} {r : Nat → Nat} (le : ∀ x, x < n → r x ≤ x) (rr : ∀ x, x < n → r (r x) = r x) {a b : Nat} (ra : r a = a) (rb : r b = b) :
    (∀ x, x < n → Hyp.join r (max a b) (min a b) x ≤ x) ∧ ∀ x, x < n → Hyp.join r (max a b) (min a b) (Hyp.join r (max a b) (min a b) x) = Hyp.join r (max a b) (min a b) x := by
  have hm : r (min a b) = min a b := by
    rcases Nat.le_total a b with h | h
    · rw [Nat.min_eq_left h]; exact ra
    · rw [Nat.min_eq_right h]; exact rb
  have hle : min a b ≤ max a b := by omega
  generalize max a b = M at *
  generalize min a b = m at *
  refine ⟨fun x hx => ?_, fun x hx => ?_⟩
  · have := le x hx
    unfold Hyp.join
    split <;> omega
  · have h2 := rr x hx
    by_cases h : r x = M
    · have e : Hyp.join r M m x = m := by unfold Hyp.join; rw [if_pos h]
      rw [e]
      unfold Hyp.join
      rw [hm]
      split <;> rfl
    · have e : Hyp.join r M m x = r x := by unfold Hyp.join; rw [if_neg h]
      rw [e]
      unfold Hyp.join
      rw [h2, if_neg h]
theorem Hyp.root_exists (n : Nat) (edges : List (List Int)) (hin : ∀ e ∈ edges, ∀ x ∈ e, 0 ≤ x ∧ x < (n : Int)) : ∃ r, Hyp.IsRoot n edges r := by
  have key : ∀ k, k ≤ edges.length → ∃ r, (∀ x, x < n → r x ≤ x) ∧ (∀ x, x < n → r (r x) = r x) ∧ Hyp.Conn n edges k 0 r := by
    intro k
    induction k with
    | zero => exact fun _ => ⟨id, fun x _ => Nat.le_refl x, fun _ _ => rfl, Hyp.Conn.start n edges⟩
    | succ k ih =>
      intro hk
      obtain ⟨r0, le0, rr0, c0⟩ := ih (by omega)
      have e1 : edges.getD k [] = edges[k] := by rw [List.getD_eq_getElem?_getD, List.getElem?_eq_getElem hk]; rfl
      have hem : edges.getD k [] ∈ edges := by rw [e1]; exact List.getElem_mem hk
      have inner : ∀ j, j ≤ (edges.getD k []).length → ∃ r, (∀ x, x < n → r x ≤ x) ∧ (∀ x, x < n → r (r x) = r x) ∧ Hyp.Conn n edges k j r := by
        intro j
        induction j with
        | zero => exact fun _ => ⟨r0, le0, rr0, c0⟩
        | succ j ih2 =>
          intro hj
          obtain ⟨r, le, rr, c⟩ := ih2 (by omega)
          have i0 := hin _ hem ((edges.getD k []).getD 0 0) (by rw [Hyp.getD_get _ 0 (by omega)]; exact List.getElem_mem _)
          have ij := hin _ hem ((edges.getD k []).getD j 0) (by rw [Hyp.getD_get _ j (by omega)]; exact List.getElem_mem _)
          have hc := c.join hk (by omega) (hin _ hem) rr (a := r ((edges.getD k []).getD 0 0).toNat) (b := r ((edges.getD k []).getD j 0).toNat) rfl rfl
          obtain ⟨g1, g2⟩ := Hyp.join_good le rr (a := r ((edges.getD k []).getD 0 0).toNat) (b := r ((edges.getD k []).getD j 0).toNat) (rr _ (by omega)) (rr _ (by omega))
          exact ⟨_, g1, g2, hc⟩
      obtain ⟨r, le, rr, c⟩ := inner _ (Nat.le_refl _)
      exact ⟨r, le, rr, c.next hk⟩
  obtain ⟨r, le, rr, c⟩ := key _ (Nat.le_refl _)
  have hd := c.done
  rw [List.take_length] at hd
  exact ⟨r, le, rr, hd, c.cls⟩
theorem Hyp.components_is {n : Int} {cost : List Int} {edges : List (List Int)} (h : Hyp.validB n cost edges = true) : ∃ r, Hyp.IsRoot n.toNat edges r ∧ Hyp.components n.toNat edges = Hyp.compsUp r n.toNat := by
  obtain ⟨h1, _, _, _, _, h6, _⟩ := Hyp.valid_parts h
  obtain ⟨r, hr⟩ := Hyp.root_exists n.toNat edges fun e he x hx => by have := (h6 e he).2.1 x hx; omega
  exact ⟨r, hr, Hyp.components_eq hr⟩
theorem Hyp.cast_inc {l : List Nat} (h : l.Pairwise (· < ·)) : Hyp.Inc (l.map fun (x : Nat) => (x : Int)) := by
  unfold Hyp.Inc
  rw [List.pairwise_map]
  exact h.imp fun h => by omega
theorem Hyp.range_lt (n : Nat) : (List.range n).Pairwise (· < ·) := List.pairwise_lt_range
theorem Hyp.group_inc (r : Nat → Nat) (n t : Nat) : Hyp.Inc (Hyp.group r n t) := Hyp.cast_inc ((Hyp.range_lt n).sublist List.filter_sublist)
theorem Hyp.mem_group {r : Nat → Nat} {n t : Nat} {x : Int} : x ∈ Hyp.group r n t ↔ 0 ≤ x ∧ x < (n : Int) ∧ r x.toNat = t := by
  unfold Hyp.group
  simp only [List.mem_map, List.mem_filter, List.mem_range, beq_iff_eq]
  constructor
  · rintro ⟨a, ⟨h1, h2⟩, rfl⟩
    exact ⟨by omega, by omega, by simpa using h2⟩
  · rintro ⟨h1, h2, h3⟩
    exact ⟨x.toNat, ⟨by omega, h3⟩, by omega⟩
theorem Hyp.group_set (r : Nat → Nat) (n t : Nat) : Hyp.isSetB (Hyp.group r n t) (n : Int) = true :=
  (Hyp.isSetB_iff _ _).2 ⟨fun x hx => ⟨(Hyp.mem_group.1 hx).1, (Hyp.mem_group.1 hx).2.1⟩, Hyp.group_inc r n t⟩
theorem Hyp.set_len {c : List Int} {n : Int} (h : Hyp.isSetB c n = true) (h0 : 0 ≤ n) : (c.length : Int) ≤ n := by
  obtain ⟨h1, h2⟩ := (Hyp.isSetB_iff _ _).1 h
  have := (Hyp.inc_nodup h2).length_le_of_subset (l₂ := (List.range n.toNat).map fun (x : Nat) => (x : Int)) fun x hx => by
    have := h1 x hx
    exact List.mem_map.2 ⟨x.toNat, List.mem_range.2 (by omega), by omega⟩
  simp at this
  omega
end Go.Proofs.YtgjbnmobhafajaaDoor
end
