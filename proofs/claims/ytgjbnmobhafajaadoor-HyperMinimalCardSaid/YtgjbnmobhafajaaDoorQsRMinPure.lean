/- The texts of this claim, RMinPure. -/
import Derived.Test.YtgjbnmobhafajaaDoorQsRaRefs
import Derived.Test.YtgjbnmobhafajaaDoorQsRbMin
import Derived.Test.YtgjbnmobhafajaaDoorQsRMinLift
set_option linter.unusedVariables false
set_option linter.unusedSimpArgs false
section
namespace Go.Proofs.YtgjbnmobhafajaaDoor
open Go Go.RowKit Go.Proofs.YtgjbnmobhafajaaDoorW.PrintWords Go.Proofs.YtgjbnmobhafajaaDoorW.PrintLast
theorem Hyp.minimal_len (edges : List (List Int)) : (Hyp.minimal edges).length ≤ edges.length := by
  unfold Hyp.minimal
  rw [List.length_mergeSort]
  have h1 := (Hyp.run_sub ((Hyp.setsOf edges).mergeSort fun a b => decide (a.length ≤ b.length))).length_le
  rw [List.length_mergeSort] at h1
  refine Nat.le_trans h1 ?_
  unfold Hyp.setsOf
  rw [List.length_map]
  exact List.length_filter_le _ _
theorem Hyp.minimal_from {edges : List (List Int)} {e : List Int} (h : e ∈ Hyp.minimal edges) : ∃ x ∈ edges, x ≠ [] ∧ e = Hyp.setOf x := by
  obtain ⟨x, hx, rfl⟩ := List.mem_map.1 (Hyp.minimal_among h)
  obtain ⟨h1, h2⟩ := List.mem_filter.1 hx
  exact ⟨x, h1, by simpa using h2, rfl⟩
theorem Hyp.minimal_two {edges : List (List Int)} {i j : Nat} (hi : i < (Hyp.minimal edges).length) (hj : j < (Hyp.minimal edges).length) (hij : i ≠ j) : Hyp.subB (Hyp.minimal edges)[j] (Hyp.minimal edges)[i] = false := by
  cases hb : Hyp.subB (Hyp.minimal edges)[j] (Hyp.minimal edges)[i]
  · rfl
  · exfalso
    have h1 := (((Hyp.minimal_is edges).mem _).1 (List.getElem_mem hi)).2 _ (Hyp.minimal_among (List.getElem_mem hj)) hb
    have hs := List.pairwise_iff_getElem.1 (Hyp.minimal_is edges).sorted
    rcases Nat.lt_or_gt_of_ne hij with h | h
    · have := hs i j hi hj h
      rw [h1, Hyp.cmpL_self] at this
      omega
    · have := hs j i hj hi h
      rw [h1, Hyp.cmpL_self] at this
      omega
namespace Hy
theorem min_el (edges : List (List Int)) (hel : edges.length ≤ 1000) (hee : ∀ e ∈ edges, e.length ≤ 1000) (e : List Int) (he : e ∈ Hyp.minimal edges) : Hyp.Inc e ∧ e ≠ [] ∧ e.length ≤ 1000 := by
  have h1 := Hyp.setsOf_inc (Hyp.minimal_among he)
  obtain ⟨x, hx, _, rfl⟩ := Hyp.minimal_from he
  have := Hyp.setOf_le x
  exact ⟨h1.1, h1.2, by have := hee x hx; omega⟩
theorem min_l3 (edges : List (List Int)) (hel : edges.length ≤ 1000) (hee : ∀ e ∈ edges, e.length ≤ 1000) (hw : ∀ e ∈ edges, ∀ y ∈ e, -9223372036854775808 ≤ y ∧ y ≤ 9223372036854775807) :
    ∀ (m i : Nat), i + m = edges.length → ∃ K, ∀ k, K ≤ k → cleanselaw27_HyperMinimal.l3 k edges true (Hyp.minimal edges) (i : Int) = some true := by
  have hml := Hyp.minimal_len edges
  intro m
  induction m with
  | zero =>
    intro i hi
    refine ⟨2003, fun k hk => ?_⟩
    obtain ⟨k, rfl⟩ : ∃ j, k = j + 1 := ⟨k - 1, by omega⟩
    have hM : hyper_MinimalT.f (Hyp.minimal edges) = some (Hyp.minimal edges) := by
      unfold hyper_MinimalT.f
      rw [if_pos ⟨by omega, fun x hx => by have := (min_el edges hel hee x hx).2.2; omega, fun x hx y hy => by
        obtain ⟨z, hz, _, rfl⟩ := Hyp.minimal_from hx
        exact hw z hz y ((Hyp.mem_setOf z y).1 hy)⟩, Hyp.minimal_idem]
    rw [cleanselaw27_HyperMinimal.l3, if_neg (by omega), if_pos rfl, hM, Option.bind_some, sets_f _ _ 1000 (fun e he => (min_el edges hel hee e he).2.2) (by omega) (by omega) k (by omega), Option.bind_some, decide_eq_true rfl]
  | succ m ih =>
    intro i hi
    have hlt : i < edges.length := by omega
    obtain ⟨K, hK⟩ := ih (i + 1) (by omega)
    have hb := hee _ (List.getElem_mem hlt)
    obtain ⟨K2, hK2⟩ := set_f edges[i] (by omega)
    have hso := Hyp.setOf_le edges[i]
    refine ⟨K + K2 + 4000, fun k hk => ?_⟩
    obtain ⟨k, rfl⟩ : ∃ j, k = j + 1 := ⟨k - 1, by omega⟩
    rw [cleanselaw27_HyperMinimal.l3, if_pos (by omega), if_pos (by omega), rdL1_nat edges hlt, wrap_nat (by omega)]
    by_cases h0 : edges[i].length > 0
    · have hF : ((Hyp.minimal edges).all fun e => e.isEmpty || !Hyp.subB e (Hyp.setOf edges[i])) = false := by
        obtain ⟨f, hf, hs⟩ := Hyp.minimal_over edges (Hyp.setOf edges[i]) (List.mem_map.2 ⟨_, List.mem_filter.2 ⟨List.getElem_mem hlt, by simpa using List.length_pos_iff.1 h0⟩, rfl⟩)
        rw [List.all_eq_false]
        refine ⟨f, hf, ?_⟩
        have h3 : f.isEmpty = false := by simpa using (min_el edges hel hee f hf).2.1
        rw [h3, hs]; decide
      rw [if_pos (by omega), hK2 k (by omega), Option.bind_some, free_f _ _ (Hyp.setOf_inc _) (by omega) (fun e he => ⟨(min_el edges hel hee e he).1, by have := (min_el edges hel hee e he).2.2; omega⟩) (by omega) k (by omega), Option.bind_some, hF, if_neg (by decide)]
      exact hK k (by omega)
    · rw [if_neg (by omega)]
      exact hK k (by omega)
theorem min_l2 (edges : List (List Int)) (hel : edges.length ≤ 1000) (hee : ∀ e ∈ edges, e.length ≤ 1000) (i : Nat) (hi : i < (Hyp.minimal edges).length) (h0 : ∃ K, ∀ k, K ≤ k → cleanselaw27_HyperMinimal.l0 k edges true (Hyp.minimal edges) ((i + 1 : Nat) : Int) = some true) :
    ∀ (m j : Nat), j + m = (Hyp.minimal edges).length → ∃ K, ∀ k, K ≤ k → cleanselaw27_HyperMinimal.l2 k edges true (Hyp.minimal edges) (i : Int) (j : Int) = some true := by
  have hml := Hyp.minimal_len edges
  have hei := min_el edges hel hee _ (List.getElem_mem hi)
  intro m
  induction m with
  | zero =>
    intro j hj
    obtain ⟨K, hK⟩ := h0
    refine ⟨K + 1, fun k hk => ?_⟩
    obtain ⟨k, rfl⟩ : ∃ j, k = j + 1 := ⟨k - 1, by omega⟩
    rw [cleanselaw27_HyperMinimal.l2, if_neg (by omega), wrap_nat (by omega)]
    exact hK k (by omega)
  | succ m ih =>
    intro j hj
    have hlt : j < (Hyp.minimal edges).length := by omega
    have hej := min_el edges hel hee _ (List.getElem_mem hlt)
    obtain ⟨K, hK⟩ := ih (j + 1) (by omega)
    refine ⟨K + 2003, fun k hk => ?_⟩
    obtain ⟨k, rfl⟩ : ∃ j, k = j + 1 := ⟨k - 1, by omega⟩
    rw [cleanselaw27_HyperMinimal.l2, if_pos (by omega), wrap_nat (by omega)]
    by_cases hij : j = i
    · rw [if_pos (by omega)]
      exact hK k (by omega)
    · rw [if_neg (by omega), if_pos (by omega), if_pos (by omega), if_pos (by omega), rdL1_nat _ hi, rdL1_nat _ hlt, con_f _ _ hei.1 hej.1 (by omega) (by omega) k (by omega), Option.bind_some, Hyp.minimal_two hi hlt (fun e => hij e.symm), if_neg (by decide)]
      exact hK k (by omega)
theorem min_l1 (edges : List (List Int)) (hel : edges.length ≤ 1000) (hee : ∀ e ∈ edges, e.length ≤ 1000) (i : Nat) (hi : i < (Hyp.minimal edges).length) (h0 : ∃ K, ∀ k, K ≤ k → cleanselaw27_HyperMinimal.l0 k edges true (Hyp.minimal edges) ((i + 1 : Nat) : Int) = some true) :
    ∀ (m j : Nat) (x : Bool), j + m = edges.length → (x || (edges.drop j).any fun e => decide (Hyp.setOf e = (Hyp.minimal edges)[i])) = true → ∃ K, ∀ k, K ≤ k → cleanselaw27_HyperMinimal.l1 k edges true (Hyp.minimal edges) (i : Int) x (j : Int) = some true := by
  have hml := Hyp.minimal_len edges
  have hei := min_el edges hel hee _ (List.getElem_mem hi)
  intro m
  induction m with
  | zero =>
    intro j x hj hx
    rw [List.drop_eq_nil_of_le (by omega), List.any_nil, Bool.or_false] at hx
    subst hx
    obtain ⟨K, hK⟩ := min_l2 edges hel hee i hi h0 (Hyp.minimal edges).length 0 (by omega)
    refine ⟨K + 3000, fun k hk => ?_⟩
    obtain ⟨k, rfl⟩ : ∃ j, k = j + 2 := ⟨k - 2, by omega⟩
    have hp := List.length_pos_iff.2 hei.2.1
    rw [cleanselaw27_HyperMinimal.l1, if_neg (by omega), if_pos rfl, if_pos (by omega), if_pos (by omega), rdL1_nat _ hi, if_neg (by omega)]
    have h2 := hK k (by omega)
    by_cases hi0 : 0 < i
    · have e0 : wrap64 ((i : Int) - 1) = ((i - 1 : Nat) : Int) := by rw [wrap_small (by omega) (by omega)]; omega
      have hpi : i - 1 < (Hyp.minimal edges).length := by omega
      have hep := min_el edges hel hee _ (List.getElem_mem hpi)
      have hl := List.pairwise_iff_getElem.1 (Hyp.minimal_is edges).sorted (i - 1) i hpi hi (by omega)
      rw [if_pos (by omega), e0, if_pos (by omega), if_pos (by omega), rdL1_nat _ hpi, less_f _ _ (by omega) (by omega) (k + 1) (by omega), Option.bind_some, decide_eq_true hl]
      show cleanselaw27_HyperMinimal.j2 (k + 1) edges true (Hyp.minimal edges) (i : Int) false = some true
      rw [cleanselaw27_HyperMinimal.j2, if_neg (by decide)]
      exact h2
    · rw [if_neg (by omega), cleanselaw27_HyperMinimal.j2, if_neg (by decide)]
      exact h2
  | succ m ih =>
    intro j x hj hx
    have hlt : j < edges.length := by omega
    have hb := hee _ (List.getElem_mem hlt)
    rw [List.drop_eq_getElem_cons hlt, List.any_cons] at hx
    cases x with
    | true =>
      obtain ⟨K, hK⟩ := ih (j + 1) true (by omega) (by simp)
      refine ⟨K + 1, fun k hk => ?_⟩
      obtain ⟨k, rfl⟩ : ∃ j, k = j + 1 := ⟨k - 1, by omega⟩
      rw [cleanselaw27_HyperMinimal.l1, if_pos (by omega), if_pos rfl, wrap_nat (by omega)]
      exact hK k (by omega)
    | false =>
      rw [Bool.false_or] at hx
      obtain ⟨K, hK⟩ := ih (j + 1) _ (by omega) hx
      obtain ⟨K2, hK2⟩ := set_f edges[j] (by omega)
      have hso := Hyp.setOf_le edges[j]
      refine ⟨K + K2 + 1002, fun k hk => ?_⟩
      obtain ⟨k, rfl⟩ : ∃ j, k = j + 1 := ⟨k - 1, by omega⟩
      rw [cleanselaw27_HyperMinimal.l1, if_pos (by omega), if_neg (by decide), if_pos (by omega), rdL1_nat edges hlt, hK2 k (by omega), Option.bind_some, if_pos (by omega), if_pos (by omega), rdL1_nat _ hi, ints_f _ _ (by omega) k (by omega), Option.bind_some, wrap_nat (by omega)]
      exact hK k (by omega)
theorem min_l0 (edges : List (List Int)) (hel : edges.length ≤ 1000) (hee : ∀ e ∈ edges, e.length ≤ 1000) (hw : ∀ e ∈ edges, ∀ y ∈ e, -9223372036854775808 ≤ y ∧ y ≤ 9223372036854775807) :
    ∀ (m i : Nat), i + m = (Hyp.minimal edges).length → ∃ K, ∀ k, K ≤ k → cleanselaw27_HyperMinimal.l0 k edges true (Hyp.minimal edges) (i : Int) = some true := by
  have hml := Hyp.minimal_len edges
  intro m
  induction m with
  | zero =>
    intro i hi
    obtain ⟨K, hK⟩ := min_l3 edges hel hee hw edges.length 0 (by omega)
    refine ⟨K + 1, fun k hk => ?_⟩
    obtain ⟨k, rfl⟩ : ∃ j, k = j + 1 := ⟨k - 1, by omega⟩
    rw [cleanselaw27_HyperMinimal.l0, if_neg (by omega)]
    exact hK k (by omega)
  | succ m ih =>
    intro i hi
    have hlt : i < (Hyp.minimal edges).length := by omega
    obtain ⟨x, hx, _, hxe⟩ := Hyp.minimal_from (List.getElem_mem hlt)
    obtain ⟨K, hK⟩ := min_l1 edges hel hee i hlt (ih (i + 1) (by omega)) edges.length 0 false (by omega) (by
      rw [List.drop_zero, Bool.false_or, List.any_eq_true]
      exact ⟨x, hx, by simpa using hxe.symm⟩)
    refine ⟨K + 1, fun k hk => ?_⟩
    obtain ⟨k, rfl⟩ : ∃ j, k = j + 1 := ⟨k - 1, by omega⟩
    rw [cleanselaw27_HyperMinimal.l0, if_pos (by omega)]
    exact hK k (by omega)
end Hy
theorem hyperMinimalPure : HyperMinimalPure := by
  intro edges hew hel
  have hhead : cleanselaw27_head.f = some true := rfl
  have hS := fun k hk => Hy.few_f edges 80 hel k hk
  by_cases hsm : ((edges.all fun e => decide (e.length ≤ 10)) && decide ((edges.length : Int) ≤ 80)) = true
  · rw [hsm] at hS
    simp only [Bool.and_eq_true, List.all_eq_true, decide_eq_true_eq] at hsm
    obtain ⟨he10, he80⟩ := hsm
    have hM : hyper_MinimalT.f edges = some (Hyp.minimal edges) := by
      unfold hyper_MinimalT.f
      rw [if_pos ⟨by omega, fun x hx => by have := he10 x hx; omega, hew⟩]
    obtain ⟨K, hK⟩ := Hy.min_l0 edges (by omega) (fun e he => by have := he10 e he; omega) hew (Hyp.minimal edges).length 0 (by omega)
    refine ⟨K + edges.length + 1, ?_⟩
    unfold Hy.cleanselaw27_HyperMinimal.f
    rw [hhead, Option.bind_some, hS _ (by omega), Option.bind_some, if_pos rfl, hM, Option.bind_some]
    exact hK _ (by omega)
  · refine ⟨edges.length + 1, ?_⟩
    unfold Hy.cleanselaw27_HyperMinimal.f
    rw [hhead, Option.bind_some, hS _ (by omega), Option.bind_some, if_neg hsm]
end Go.Proofs.YtgjbnmobhafajaaDoor
end
