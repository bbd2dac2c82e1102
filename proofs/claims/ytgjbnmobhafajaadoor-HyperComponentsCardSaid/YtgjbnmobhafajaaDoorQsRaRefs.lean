/- The texts of this claim, RaRefs. -/
import Derived.Test.YtgjbnmobhafajaaDoorQsRf
set_option linter.unusedVariables false
set_option linter.unusedSimpArgs false
section
namespace Go.Proofs.YtgjbnmobhafajaaDoor
open Go Go.RowKit Go.Proofs.YtgjbnmobhafajaaDoorW.PrintWords Go.Proofs.YtgjbnmobhafajaaDoorW.PrintLast
namespace Hy
theorem wrap_nat {i : Nat} (h : i < 9223372036854775807) : wrap64 ((i : Int) + 1) = ((i + 1 : Nat) : Int) := by
  rw [wrap_small (by omega) (by omega)]; omega
theorem rdL1_nat (xs : List (List Int)) {i : Nat} (h : i < xs.length) : rd_L1 xs (i : Int) = xs[i] := by
  simp [rd_L1, List.getD_eq_getElem?_getD, h]
theorem rd_nat (xs : List Int) {i : Nat} (h : i < xs.length) : rd xs (i : Int) = xs[i] := by
  simp [rd, List.getD_eq_getElem?_getD, h]
theorem few_l0 (xs : List (List Int)) (n : Int) (hL : xs.length ≤ 9223372036854775807) : ∀ (m i : Nat), i + m = xs.length → ∀ k, m < k →
    cleanseref27_Few.l0 k xs n (i : Int) = some (((xs.drop i).all fun e => decide (e.length ≤ 10)) && decide ((xs.length : Int) ≤ n)) := by
  intro m
  induction m with
  | zero =>
    intro i hi k hk
    obtain ⟨k, rfl⟩ : ∃ j, k = j + 1 := ⟨k - 1, by omega⟩
    rw [cleanseref27_Few.l0, if_neg (by omega), List.drop_eq_nil_of_le (by omega)]
    simp
  | succ m ih =>
    intro i hi k hk
    obtain ⟨k, rfl⟩ : ∃ j, k = j + 1 := ⟨k - 1, by omega⟩
    have hlt : i < xs.length := by omega
    rw [cleanseref27_Few.l0, if_pos (by omega), if_pos (by omega), rdL1_nat xs hlt, wrap_nat (by omega), ih (i + 1) (by omega) k (by omega), List.drop_eq_getElem_cons hlt]
    by_cases h : ((xs[i].length : Nat) : Int) > 10
    · rw [if_pos h, List.all_cons, decide_eq_false (p := xs[i].length ≤ 10) (by omega)]; rfl
    · rw [if_neg h, List.all_cons, decide_eq_true (p := xs[i].length ≤ 10) (by omega), Bool.true_and]
theorem few_f (xs : List (List Int)) (n : Int) (hL : xs.length ≤ 9223372036854775807) (k : Nat) (hk : xs.length < k) :
    cleanseref27_Few.f k xs n = some ((xs.all fun e => decide (e.length ≤ 10)) && decide ((xs.length : Int) ≤ n)) := few_l0 xs n hL xs.length 0 (by omega) k hk
theorem small_f (n : Int) (c : List Int) (xs : List (List Int)) (a b : Int) (hL : xs.length ≤ 9223372036854775807) (k : Nat) (hk : xs.length < k) :
    cleanseref27_Small.f k n c xs a b = some (decide (n ≤ a) && (decide ((c.length : Int) ≤ a) && ((xs.all fun e => decide (e.length ≤ 10)) && decide ((xs.length : Int) ≤ b)))) := by
  unfold cleanseref27_Small.f
  by_cases h1 : n ≤ a
  · rw [if_pos h1, decide_eq_true h1, Bool.true_and]
    by_cases h2 : (c.length : Int) ≤ a
    · rw [if_pos h2, decide_eq_true h2, Bool.true_and, few_f xs b hL k hk, Option.bind_some]
    · rw [if_neg h2, decide_eq_false h2, Bool.false_and]
  · rw [if_neg h1, decide_eq_false h1, Bool.false_and]
theorem inc_two (a b : Int) (r : List Int) : Hyp.Inc (a :: b :: r) ↔ a < b ∧ Hyp.Inc (b :: r) := by
  unfold Hyp.Inc
  constructor
  · intro h
    obtain ⟨h1, h2⟩ := List.pairwise_cons.1 h
    exact ⟨h1 b List.mem_cons_self, h2⟩
  · rintro ⟨h1, h2⟩
    refine List.pairwise_cons.2 ⟨fun x hx => ?_, h2⟩
    rcases List.mem_cons.1 hx with e | e
    · omega
    · have := (List.pairwise_cons.1 h2).1 x e; omega
theorem increasing_l0 (l : List Int) (hL : l.length ≤ 9223372036854775807) : ∀ (m i : Nat), i + 1 + m = l.length → ∀ k, m < k →
    cleanseref27_Increasing.l0 k l ((i + 1 : Nat) : Int) = some (decide (Hyp.Inc (l.drop i))) := by
  intro m
  induction m with
  | zero =>
    intro i hi k hk
    obtain ⟨k, rfl⟩ : ∃ j, k = j + 1 := ⟨k - 1, by omega⟩
    have hlt : i < l.length := by omega
    rw [cleanseref27_Increasing.l0, if_neg (by omega), List.drop_eq_getElem_cons hlt, List.drop_eq_nil_of_le (by omega), decide_eq_true (p := Hyp.Inc _) (List.pairwise_singleton _ _)]
  | succ m ih =>
    intro i hi k hk
    obtain ⟨k, rfl⟩ : ∃ j, k = j + 1 := ⟨k - 1, by omega⟩
    have hlt : i < l.length := by omega
    have hlt1 : i + 1 < l.length := by omega
    have e0 : wrap64 (((i + 1 : Nat) : Int) - 1) = (i : Int) := by rw [wrap_small (by omega) (by omega)]; omega
    have h0 := ih (i + 1) (by omega) k (by omega)
    rw [cleanseref27_Increasing.l0, e0, if_pos (by omega), if_pos (by omega), if_pos (by omega), if_pos (by omega), rd_nat l hlt, rd_nat l hlt1, wrap_nat (by omega), h0, List.drop_eq_getElem_cons hlt, List.drop_eq_getElem_cons hlt1]
    by_cases h : l[i] < l[i + 1]
    · rw [if_neg (by omega)]
      congr 1
      rw [Bool.eq_iff_iff, decide_eq_true_eq, decide_eq_true_eq, inc_two]
      exact ⟨fun hh => ⟨h, hh⟩, fun hh => hh.2⟩
    · rw [if_pos (by omega), decide_eq_false]
      intro hh
      exact h ((inc_two _ _ _).1 hh).1
theorem increasing_f (l : List Int) (hL : l.length ≤ 9223372036854775807) (k : Nat) (hk : l.length < k) : cleanseref27_Increasing.f k l = some (decide (Hyp.Inc l)) := by
  unfold cleanseref27_Increasing.f
  cases l with
  | nil =>
    obtain ⟨k, rfl⟩ : ∃ j, k = j + 1 := ⟨k - 1, by omega⟩
    rw [cleanseref27_Increasing.l0, if_neg (by simp), decide_eq_true (p := Hyp.Inc _) List.Pairwise.nil]
  | cons x l =>
    simp only [List.length_cons] at hk
    exact increasing_l0 (x :: l) hL l.length 0 (by simp; omega) k (by omega)
theorem vertices_f (l : List Int) (n : Int) (hL : l.length ≤ 9223372036854775807) (k : Nat) (hk : l.length < k) : cleanseref27_Vertices.f k l n = some (Hyp.isSetB l n) := by
  unfold cleanseref27_Vertices.f
  rw [increasing_f l hL k hk, Option.bind_some]
  by_cases hi : Hyp.Inc l
  · rw [if_pos (by simpa using hi)]
    by_cases h0 : l.length = 0
    · rw [if_pos (by omega)]
      have : l = [] := List.eq_nil_of_length_eq_zero h0
      subst this; rfl
    · have hp : 0 < l.length := by omega
      have e0 : wrap64 ((l.length : Int) - 1) = ((l.length - 1 : Nat) : Int) := by rw [wrap_small (by omega) (by omega)]; omega
      have r0 : rd l 0 = l[0] := rd_nat l hp
      rw [if_neg (by omega), if_pos (by omega), r0, e0, if_pos (show (0 : Int) ≤ ((l.length - 1 : Nat) : Int) by omega), if_pos (show ((l.length - 1 : Nat) : Int) < (l.length : Int) by omega), rd_nat l (by omega)]
      have key : Hyp.isSetB l n = true ↔ l[0] ≥ 0 ∧ l[l.length - 1] < n := by
        rw [Hyp.isSetB_iff]
        constructor
        · rintro ⟨h1, _⟩
          exact ⟨(h1 _ (List.getElem_mem hp)).1, (h1 _ (List.getElem_mem (by omega))).2⟩
        · rintro ⟨h1, h2⟩
          refine ⟨fun x hx => ?_, hi⟩
          obtain ⟨j, hj, rfl⟩ := List.mem_iff_getElem.1 hx
          have a1 : l[0] ≤ l[j] := by
            rcases Nat.eq_zero_or_pos j with e | e
            · subst e; exact Int.le_refl _
            · exact Int.le_of_lt (List.pairwise_iff_getElem.1 hi 0 j hp hj e)
          have a2 : l[j] ≤ l[l.length - 1] := by
            by_cases e : j = l.length - 1
            · subst e; exact Int.le_refl _
            · exact Int.le_of_lt (List.pairwise_iff_getElem.1 hi j (l.length - 1) hj (by omega) (by omega))
          omega
      by_cases h1 : l[0] ≥ 0
      · rw [if_pos h1]
        congr 1
        rw [Bool.eq_iff_iff, decide_eq_true_eq, key]
        exact ⟨fun h => ⟨h1, h⟩, fun h => h.2⟩
      · rw [if_neg h1]
        congr 1
        rw [Bool.eq_iff_iff, key]
        exact ⟨fun h => (by cases h), fun h => absurd h.1 h1⟩
  · rw [if_neg (by simpa using hi)]
    congr 1
    rw [Bool.eq_iff_iff, Hyp.isSetB_iff]
    exact ⟨fun h => (by cases h), fun h => absurd h.2 hi⟩
end Hy
end Go.Proofs.YtgjbnmobhafajaaDoor
end
