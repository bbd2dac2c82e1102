/- The texts of this claim, RbMin. -/
import Derived.Test.YtgjbnmobhafajaaGreatDoorQzME
set_option linter.unusedVariables false
set_option linter.unusedSimpArgs false
section
namespace Go.Proofs.YtgjbnmobhafajaaGreatDoor
open Go Go.RowKit Go.Proofs.YtgjbnmobhafajaaGreatDoorW.PrintWords Go.Proofs.YtgjbnmobhafajaaGreatDoorW.PrintLast
theorem Hyp.setsOf_inc {edges : List (List Int)} {e : List Int} (h : e ∈ Hyp.setsOf edges) : Hyp.Inc e ∧ e ≠ [] := by
  obtain ⟨x, hx, rfl⟩ := List.mem_map.1 h
  have hx2 : x ≠ [] := by simpa using (List.mem_filter.1 hx).2
  refine ⟨Hyp.setOf_inc x, fun e0 => ?_⟩
  have := Hyp.setOf_pos (List.length_pos_iff.2 hx2)
  rw [e0] at this
  simp at this
theorem Hyp.minimal_over (edges : List (List Int)) : ∀ e ∈ Hyp.setsOf edges, ∃ f ∈ Hyp.minimal edges, Hyp.subB f e = true := by
  intro e he
  obtain ⟨f, hf, h⟩ := (Hyp.run_is ((Hyp.setsOf edges).mergeSort fun a b => decide (a.length ≤ b.length))).over e (List.mem_mergeSort.2 he)
  exact ⟨f, List.mem_mergeSort.2 hf, h⟩
theorem Hyp.minimal_among {edges : List (List Int)} {e : List Int} (h : e ∈ Hyp.minimal edges) : e ∈ Hyp.setsOf edges := (((Hyp.minimal_is edges).mem e).1 h).1
theorem Hyp.setsOf_same {E : List (List Int)} (h : ∀ e ∈ E, Hyp.Inc e ∧ e ≠ []) : Hyp.setsOf E = E := by
  unfold Hyp.setsOf
  rw [List.filter_eq_self.2 (fun e he => by simpa using (h e he).2)]
  conv => rhs; rw [← List.map_id E]
  exact List.map_congr_left fun e he => Hyp.setOf_of_inc (h e he).1
theorem Hyp.valid_sorted {n : Int} {cost : List Int} {edges : List (List Int)} (h : Hyp.validB n cost edges = true) : edges.Pairwise fun a b => Hyp.cmpL a b < 0 := by
  obtain ⟨_, _, _, _, _, _, hm⟩ := Hyp.valid_parts h
  have := (Hyp.minimal_is edges).sorted
  rw [hm] at this
  exact this
theorem Hyp.minimal_len (edges : List (List Int)) : (Hyp.minimal edges).length ≤ edges.length := by
  unfold Hyp.minimal
  rw [List.length_mergeSort]
  have h1 := (Hyp.run_sub ((Hyp.setsOf edges).mergeSort fun a b => decide (a.length ≤ b.length))).length_le
  rw [List.length_mergeSort] at h1
  refine Nat.le_trans h1 ?_
  unfold Hyp.setsOf
  rw [List.length_map]
  exact List.length_filter_le _ _
theorem Hyp.minimal_from {edges : List (List Int)} {e : List Int} (h : e ∈ Hyp.minimal edges) : ∃ x ∈ edges, x ≠ [] ∧ e = Hyp.setOf x := by
  obtain ⟨x, hx, rfl⟩ := List.mem_map.1 (Hyp.minimal_among h)
  obtain ⟨h1, h2⟩ := List.mem_filter.1 hx
  exact ⟨x, h1, by simpa using h2, rfl⟩
theorem Hyp.join_good {n : Nat} {r : Nat → Nat} (le : ∀ x, x < n → r x ≤ x) (rr : ∀ x, x < n → r (r x) = r x) {a b : Nat} (ra : r a = a) (rb : r b = b) :
    (∀ x, x < n → Hyp.join r (max a b) (min a b) x ≤ x) ∧ ∀ x, x < n → Hyp.join r (max a b) (min a b) (Hyp.join r (max a b) (min a b) x) = Hyp.join r (max a b) (min a b) x := by
  have hm : r (min a b) = min a b := by
    rcases Nat.le_total a b with h | h
    · rw [Nat.min_eq_left h]; exact ra
    · rw [Nat.min_eq_right h]; exact rb
  have hle : min a b ≤ max a b := by omega
  generalize max a b = M at *
  generalize min a b = m at *
  refine ⟨fun x hx => ?_, fun x hx => ?_⟩
  · have := le x hx
    unfold Hyp.join
    split <;> omega
  · have h2 := rr x hx
    by_cases h : r x = M
    · have e : Hyp.join r M m x = m := by unfold Hyp.join; rw [if_pos h]
      rw [e]
      unfold Hyp.join
      rw [hm]
      split <;> rfl
    · have e : Hyp.join r M m x = r x := by unfold Hyp.join; rw [if_neg h]
      rw [e]
      unfold Hyp.join
      rw [h2, if_neg h]
theorem Hyp.root_exists (n : Nat) (edges : List (List Int)) (hin : ∀ e ∈ edges, ∀ x ∈ e, 0 ≤ x ∧ x < (n : Int)) : ∃ r, Hyp.IsRoot n edges r := by
  have key : ∀ k, k ≤ edges.length → ∃ r, (∀ x, x < n → r x ≤ x) ∧ (∀ x, x < n → r (r x) = r x) ∧ Hyp.Conn n edges k 0 r := by
    intro k
    induction k with
    | zero => exact fun _ => ⟨id, fun x _ => Nat.le_refl x, fun _ _ => rfl, Hyp.Conn.start n edges⟩
    | succ k ih =>
      intro hk
      obtain ⟨r0, le0, rr0, c0⟩ := ih (by omega)
      have e1 : edges.getD k [] = edges[k] := by rw [List.getD_eq_getElem?_getD, List.getElem?_eq_getElem hk]; rfl
      have hem : edges.getD k [] ∈ edges := by rw [e1]; exact List.getElem_mem hk
      have inner : ∀ j, j ≤ (edges.getD k []).length → ∃ r, (∀ x, x < n → r x ≤ x) ∧ (∀ x, x < n → r (r x) = r x) ∧ Hyp.Conn n edges k j r := by
        intro j
        induction j with
        | zero => exact fun _ => ⟨r0, le0, rr0, c0⟩
        | succ j ih2 =>
          intro hj
          obtain ⟨r, le, rr, c⟩ := ih2 (by omega)
          have i0 := hin _ hem ((edges.getD k []).getD 0 0) (by rw [Hyp.getD_get _ 0 (by omega)]; exact List.getElem_mem _)
          have ij := hin _ hem ((edges.getD k []).getD j 0) (by rw [Hyp.getD_get _ j (by omega)]; exact List.getElem_mem _)
          have hc := c.join hk (by omega) (hin _ hem) rr (a := r ((edges.getD k []).getD 0 0).toNat) (b := r ((edges.getD k []).getD j 0).toNat) rfl rfl
          obtain ⟨g1, g2⟩ := Hyp.join_good le rr (a := r ((edges.getD k []).getD 0 0).toNat) (b := r ((edges.getD k []).getD j 0).toNat) (rr _ (by omega)) (rr _ (by omega))
          exact ⟨_, g1, g2, hc⟩
      obtain ⟨r, le, rr, c⟩ := inner _ (Nat.le_refl _)
      exact ⟨r, le, rr, c.next hk⟩
  obtain ⟨r, le, rr, c⟩ := key _ (Nat.le_refl _)
  have hd := c.done
  rw [List.take_length] at hd
  exact ⟨r, le, rr, hd, c.cls⟩
theorem Hyp.components_is {n : Int} {cost : List Int} {edges : List (List Int)} (h : Hyp.validB n cost edges = true) : ∃ r, Hyp.IsRoot n.toNat edges r ∧ Hyp.components n.toNat edges = Hyp.compsUp r n.toNat := by
  obtain ⟨h1, _, _, _, _, h6, _⟩ := Hyp.valid_parts h
  obtain ⟨r, hr⟩ := Hyp.root_exists n.toNat edges fun e he x hx => by have := (h6 e he).2.1 x hx; omega
  exact ⟨r, hr, Hyp.components_eq hr⟩
theorem Hyp.cast_inc {l : List Nat} (h : l.Pairwise (· < ·)) : Hyp.Inc (l.map fun (x : Nat) => (x : Int)) := by
  unfold Hyp.Inc
  rw [List.pairwise_map]
  exact h.imp fun h => by omega
theorem Hyp.range_lt (n : Nat) : (List.range n).Pairwise (· < ·) := List.pairwise_lt_range
theorem Hyp.one_of {e : List Int} (h : e.length = 1) : e = [e.getD 0 0] := by
  match e, h with
  | [x], _ => rfl
theorem Hyp.mem_alone {edges : List (List Int)} {x : Int} : x ∈ Hyp.aloneOf edges ↔ [x] ∈ edges := by
  unfold Hyp.aloneOf
  simp only [List.mem_map, List.mem_filter, beq_iff_eq]
  constructor
  · rintro ⟨e, ⟨h1, h2⟩, rfl⟩
    rw [← Hyp.one_of h2]; exact h1
  · intro h
    exact ⟨[x], ⟨h, rfl⟩, rfl⟩
theorem Hyp.alone_set {n : Int} {cost : List Int} {edges : List (List Int)} (h : Hyp.validB n cost edges = true) : Hyp.isSetB (Hyp.aloneOf edges) n = true := by
  obtain ⟨v1, v2, v3, v4, v5, v6, v7⟩ := Hyp.valid_parts h
  refine (Hyp.isSetB_iff _ _).2 ⟨fun x hx => (v6 _ (Hyp.mem_alone.1 hx)).2.1 x List.mem_cons_self, ?_⟩
  unfold Hyp.aloneOf Hyp.Inc
  rw [List.pairwise_map]
  refine List.Pairwise.imp_of_mem ?_ ((Hyp.valid_sorted h).sublist List.filter_sublist)
  intro a b ha hb hab
  have ea := Hyp.one_of (by simpa using (List.mem_filter.1 ha).2)
  have eb := Hyp.one_of (by simpa using (List.mem_filter.1 hb).2)
  rw [ea, eb] at hab
  simp only [Hyp.cmpL] at hab
  split at hab
  · assumption
  · split at hab <;> omega
end Go.Proofs.YtgjbnmobhafajaaGreatDoor
end
