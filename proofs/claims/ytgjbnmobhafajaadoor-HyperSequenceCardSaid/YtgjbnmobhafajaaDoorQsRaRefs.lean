/- The texts of this claim, RaRefs. -/
import Derived.Test.YtgjbnmobhafajaaDoorQsRf
set_option linter.unusedVariables false
set_option linter.unusedSimpArgs false
section
namespace Go.Proofs.YtgjbnmobhafajaaDoor
open Go Go.RowKit Go.Proofs.YtgjbnmobhafajaaDoorW.PrintWords Go.Proofs.YtgjbnmobhafajaaDoorW.PrintLast
namespace Hy
theorem wrap_nat {i : Nat} (h : i < 9223372036854775807) : wrap64 ((i : Int) + 1) = ((i + 1 : Nat) : Int) := by
  rw [wrap_small (by omega) (by omega)]; omega
theorem rdL1_nat (xs : List (List Int)) {i : Nat} (h : i < xs.length) : rd_L1 xs (i : Int) = xs[i] := by
  simp [rd_L1, List.getD_eq_getElem?_getD, h]
theorem rd_nat (xs : List Int) {i : Nat} (h : i < xs.length) : rd xs (i : Int) = xs[i] := by
  simp [rd, List.getD_eq_getElem?_getD, h]
theorem few_l0 (xs : List (List Int)) (n : Int) (hL : xs.length ≤ 9223372036854775807) : ∀ (m i : Nat), i + m = xs.length → ∀ k, m < k →
    cleanseref27_Few.l0 k xs n (i : Int) = some (((xs.drop i).all fun e => decide (e.length ≤ 10)) && decide ((xs.length : Int) ≤ n)) := by
  intro m
  induction m with
  | zero =>
    intro i hi k hk
    obtain ⟨k, rfl⟩ : ∃ j, k = j + 1 := ⟨k - 1, by omega⟩
    rw [cleanseref27_Few.l0, if_neg (by omega), List.drop_eq_nil_of_le (by omega)]
    simp
  | succ m ih =>
    intro i hi k hk
    obtain ⟨k, rfl⟩ : ∃ j, k = j + 1 := ⟨k - 1, by omega⟩
    have hlt : i < xs.length := by omega
    rw [cleanseref27_Few.l0, if_pos (by omega), if_pos (by omega), rdL1_nat xs hlt, wrap_nat (by omega), ih (i + 1) (by omega) k (by omega), List.drop_eq_getElem_cons hlt]
    by_cases h : ((xs[i].length : Nat) : Int) > 10
    · rw [if_pos h, List.all_cons, decide_eq_false (p := xs[i].length ≤ 10) (by omega)]; rfl
    · rw [if_neg h, List.all_cons, decide_eq_true (p := xs[i].length ≤ 10) (by omega), Bool.true_and]
theorem few_f (xs : List (List Int)) (n : Int) (hL : xs.length ≤ 9223372036854775807) (k : Nat) (hk : xs.length < k) :
    cleanseref27_Few.f k xs n = some ((xs.all fun e => decide (e.length ≤ 10)) && decide ((xs.length : Int) ≤ n)) := few_l0 xs n hL xs.length 0 (by omega) k hk
theorem ints_l0 (xs ys : List Int) (hl : xs.length = ys.length) (hL : xs.length ≤ 9223372036854775807) : ∀ (m i : Nat), i + m = xs.length → ∀ k, m < k →
    cleanseref06_Ints.l0 k xs ys (i : Int) = some (decide (xs.drop i = ys.drop i)) := by
  intro m
  induction m with
  | zero =>
    intro i hi k hk
    obtain ⟨k, rfl⟩ : ∃ j, k = j + 1 := ⟨k - 1, by omega⟩
    rw [cleanseref06_Ints.l0, if_neg (by omega), List.drop_eq_nil_of_le (by omega), List.drop_eq_nil_of_le (by omega)]
    simp
  | succ m ih =>
    intro i hi k hk
    obtain ⟨k, rfl⟩ : ∃ j, k = j + 1 := ⟨k - 1, by omega⟩
    have hlt : i < xs.length := by omega
    have hlt' : i < ys.length := by omega
    rw [cleanseref06_Ints.l0, if_pos (by omega), if_pos (by omega), if_pos (by omega), rd_nat xs hlt, rd_nat ys hlt', wrap_nat (by omega), ih (i + 1) (by omega) k (by omega), List.drop_eq_getElem_cons hlt, List.drop_eq_getElem_cons hlt']
    by_cases h : xs[i] = ys[i]
    · rw [if_pos h, h]; simp only [List.cons.injEq, true_and]
    · rw [if_neg h, decide_eq_false]; intro e; exact h (List.cons.inj e).1
theorem ints_f (xs ys : List Int) (hL : xs.length ≤ 9223372036854775807) (k : Nat) (hk : xs.length < k) :
    cleanseref06_Ints.f k xs ys = some (decide (xs = ys)) := by
  unfold cleanseref06_Ints.f
  by_cases h : xs.length = ys.length
  · rw [if_pos (by omega)]
    exact ints_l0 xs ys h hL xs.length 0 (by omega) k hk
  · rw [if_neg (by omega), decide_eq_false (fun e => h (by rw [e]))]
theorem sets_l0 (xs ys : List (List Int)) (hl : xs.length = ys.length) (B : Nat) (hB : ∀ e ∈ xs, e.length ≤ B) (hBL : B ≤ 1000000) (hL : xs.length ≤ 1000000) : ∀ (m i : Nat), i + m = xs.length → ∀ k, m + B < k →
    cleanseref27_Sets.l0 k xs ys (i : Int) = some (decide (xs.drop i = ys.drop i)) := by
  intro m
  induction m with
  | zero =>
    intro i hi k hk
    obtain ⟨k, rfl⟩ : ∃ j, k = j + 1 := ⟨k - 1, by omega⟩
    rw [cleanseref27_Sets.l0, if_neg (by omega), List.drop_eq_nil_of_le (by omega), List.drop_eq_nil_of_le (by omega)]
    simp
  | succ m ih =>
    intro i hi k hk
    obtain ⟨k, rfl⟩ : ∃ j, k = j + 1 := ⟨k - 1, by omega⟩
    have hlt : i < xs.length := by omega
    have hlt' : i < ys.length := by omega
    have hb := hB _ (List.getElem_mem hlt)
    rw [cleanseref27_Sets.l0, if_pos (by omega), if_pos (by omega), if_pos (by omega), rdL1_nat xs hlt, rdL1_nat ys hlt', wrap_nat (by omega), ih (i + 1) (by omega) k (by omega), ints_f _ _ (by omega) k (by omega), Option.bind_some, List.drop_eq_getElem_cons hlt, List.drop_eq_getElem_cons hlt']
    by_cases h : xs[i] = ys[i]
    · rw [if_pos (by simpa using h), h]; simp only [List.cons.injEq, true_and]
    · rw [if_neg (by simpa using h), decide_eq_false]; intro e; exact h (List.cons.inj e).1
theorem sets_f (xs ys : List (List Int)) (B : Nat) (hB : ∀ e ∈ xs, e.length ≤ B) (hBL : B ≤ 1000000) (hL : xs.length ≤ 1000000) (k : Nat) (hk : xs.length + B < k) :
    cleanseref27_Sets.f k xs ys = some (decide (xs = ys)) := by
  unfold cleanseref27_Sets.f
  by_cases h : xs.length = ys.length
  · rw [if_pos (by omega)]
    exact sets_l0 xs ys h B hB hBL hL xs.length 0 (by omega) k hk
  · rw [if_neg (by omega), decide_eq_false (fun e => h (by rw [e]))]
theorem same_f (n n' : Int) (c c' : List Int) (xs ys : List (List Int)) (hc : c.length ≤ 1000000) (B : Nat) (hB : ∀ e ∈ xs, e.length ≤ B) (hBL : B ≤ 1000000) (hL : xs.length ≤ 1000000) (k : Nat) (hk : c.length + xs.length + B < k) :
    cleanseref27_Same.f k n c xs n' c' ys = some (decide (n = n' ∧ c = c' ∧ xs = ys)) := by
  unfold cleanseref27_Same.f
  by_cases h1 : n = n'
  · rw [if_pos h1, ints_f c c' (by omega) k (by omega), Option.bind_some]
    by_cases h2 : c = c'
    · rw [if_pos (by simpa using h2), sets_f xs ys B hB hBL hL k (by omega), Option.bind_some]
      simp [h1, h2]
    · rw [if_neg (by simpa using h2)]
      simp [h2]
  · rw [if_neg h1]
    simp [h1]
end Hy
end Go.Proofs.YtgjbnmobhafajaaDoor
end
