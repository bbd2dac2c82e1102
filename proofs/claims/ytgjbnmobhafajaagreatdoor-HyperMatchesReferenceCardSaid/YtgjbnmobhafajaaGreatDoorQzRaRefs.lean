/- The texts of this claim, RaRefs. -/
import Derived.Test.YtgjbnmobhafajaaGreatDoorQzRf
set_option linter.unusedVariables false
set_option linter.unusedSimpArgs false
section
namespace Go.Proofs.YtgjbnmobhafajaaGreatDoor
open Go Go.RowKit Go.Proofs.YtgjbnmobhafajaaGreatDoorW.PrintWords Go.Proofs.YtgjbnmobhafajaaGreatDoorW.PrintLast
namespace Hy
theorem wrap_nat {i : Nat} (h : i < 9223372036854775807) : wrap64 ((i : Int) + 1) = ((i + 1 : Nat) : Int) := by
  rw [wrap_small (by omega) (by omega)]; omega
theorem rdL1_nat (xs : List (List Int)) {i : Nat} (h : i < xs.length) : rd_L1 xs (i : Int) = xs[i] := by
  simp [rd_L1, List.getD_eq_getElem?_getD, h]
theorem rd_nat (xs : List Int) {i : Nat} (h : i < xs.length) : rd xs (i : Int) = xs[i] := by
  simp [rd, List.getD_eq_getElem?_getD, h]
theorem few_l0 (xs : List (List Int)) (n : Int) (hL : xs.length ≤ 9223372036854775807) : ∀ (m i : Nat), i + m = xs.length → ∀ k, m < k →
    cleanseref27_Few.l0 k xs n (i : Int) = some (((xs.drop i).all fun e => decide (e.length ≤ 10)) && decide ((xs.length : Int) ≤ n)) := by
  intro m
  induction m with
  | zero =>
    intro i hi k hk
    obtain ⟨k, rfl⟩ : ∃ j, k = j + 1 := ⟨k - 1, by omega⟩
    rw [cleanseref27_Few.l0, if_neg (by omega), List.drop_eq_nil_of_le (by omega)]
    simp
  | succ m ih =>
    intro i hi k hk
    obtain ⟨k, rfl⟩ : ∃ j, k = j + 1 := ⟨k - 1, by omega⟩
    have hlt : i < xs.length := by omega
    rw [cleanseref27_Few.l0, if_pos (by omega), if_pos (by omega), rdL1_nat xs hlt, wrap_nat (by omega), ih (i + 1) (by omega) k (by omega), List.drop_eq_getElem_cons hlt]
    by_cases h : ((xs[i].length : Nat) : Int) > 10
    · rw [if_pos h, List.all_cons, decide_eq_false (p := xs[i].length ≤ 10) (by omega)]; rfl
    · rw [if_neg h, List.all_cons, decide_eq_true (p := xs[i].length ≤ 10) (by omega), Bool.true_and]
theorem few_f (xs : List (List Int)) (n : Int) (hL : xs.length ≤ 9223372036854775807) (k : Nat) (hk : xs.length < k) :
    cleanseref27_Few.f k xs n = some ((xs.all fun e => decide (e.length ≤ 10)) && decide ((xs.length : Int) ≤ n)) := few_l0 xs n hL xs.length 0 (by omega) k hk
theorem ints_l0 (xs ys : List Int) (hl : xs.length = ys.length) (hL : xs.length ≤ 9223372036854775807) : ∀ (m i : Nat), i + m = xs.length → ∀ k, m < k →
    cleanseref06_Ints.l0 k xs ys (i : Int) = some (decide (xs.drop i = ys.drop i)) := by
  intro m
  induction m with
  | zero =>
    intro i hi k hk
    obtain ⟨k, rfl⟩ : ∃ j, k = j + 1 := ⟨k - 1, by omega⟩
    rw [cleanseref06_Ints.l0, if_neg (by omega), List.drop_eq_nil_of_le (by omega), List.drop_eq_nil_of_le (by omega)]
    simp
  | succ m ih =>
    intro i hi k hk
    obtain ⟨k, rfl⟩ : ∃ j, k = j + 1 := ⟨k - 1, by omega⟩
    have hlt : i < xs.length := by omega
    have hlt' : i < ys.length := by omega
    rw [cleanseref06_Ints.l0, if_pos (by omega), if_pos (by omega), if_pos (by omega), rd_nat xs hlt, rd_nat ys hlt', wrap_nat (by omega), ih (i + 1) (by omega) k (by omega), List.drop_eq_getElem_cons hlt, List.drop_eq_getElem_cons hlt']
    by_cases h : xs[i] = ys[i]
    · rw [if_pos h, h]; simp only [List.cons.injEq, true_and]
    · rw [if_neg h, decide_eq_false]; intro e; exact h (List.cons.inj e).1
theorem ints_f (xs ys : List Int) (hL : xs.length ≤ 9223372036854775807) (k : Nat) (hk : xs.length < k) :
    cleanseref06_Ints.f k xs ys = some (decide (xs = ys)) := by
  unfold cleanseref06_Ints.f
  by_cases h : xs.length = ys.length
  · rw [if_pos (by omega)]
    exact ints_l0 xs ys h hL xs.length 0 (by omega) k hk
  · rw [if_neg (by omega), decide_eq_false (fun e => h (by rw [e]))]
theorem con_l0 (e f : List Int) (he : Hyp.Inc e) (hf : Hyp.Inc f) (hE : e.length < 9223372036854775807) (hF : f.length < 9223372036854775807) : ∀ (m i j : Nat), i + m = e.length → j ≤ f.length → ∀ k, 2 * m + 1 < k →
    cleanseref27_Contains.l0 k e f (j : Int) (i : Int) = some (Hyp.subB (f.drop j) (e.drop i)) := by
  intro m
  induction m with
  | zero =>
    intro i j hi hj k hk
    obtain ⟨k, rfl⟩ : ∃ j, k = j + 2 := ⟨k - 2, by omega⟩
    rw [cleanseref27_Contains.l0, if_neg (by omega), cleanseref27_Contains.j1, if_neg (by decide), show List.drop i e = [] from List.drop_eq_nil_of_le (by omega)]
    by_cases h : j = f.length
    · subst h; simp [Hyp.subB]
    · have hlt : j < f.length := by omega
      rw [List.drop_eq_getElem_cons hlt]
      have : ((j : Int) == (f.length : Int)) = false := by simp; omega
      rw [this]; simp [Hyp.subB, -List.getElem_cons_drop]
  | succ m ih =>
    intro i j hi hj k hk
    obtain ⟨k, rfl⟩ : ∃ j, k = j + 2 := ⟨k - 2, by omega⟩
    have hlt : i < e.length := by omega
    rw [cleanseref27_Contains.l0, if_pos (by omega), cleanseref27_Contains.j1]
    by_cases h : j < f.length
    · rw [if_pos (by simp; omega), if_pos (by omega), if_pos (by omega), if_pos (by omega), if_pos (by omega), rd_nat e hlt, rd_nat f h, wrap_nat (by omega), wrap_nat (by omega), ih (i + 1) (j + 1) (by omega) (by omega) k (by omega), ih (i + 1) j (by omega) (by omega) k (by omega)]
      have e1 := List.drop_eq_getElem_cons hlt
      have f1 := List.drop_eq_getElem_cons h
      have he' : Hyp.Inc (e.drop i) := he.sublist (List.drop_sublist _ _)
      have hf' : Hyp.Inc (f.drop j) := hf.sublist (List.drop_sublist _ _)
      rw [e1] at he'
      rw [f1] at hf'
      obtain ⟨he1, he2⟩ := List.pairwise_cons.1 he'
      obtain ⟨hf1, hf2⟩ := List.pairwise_cons.1 hf'
      by_cases hx : e[i] = f[j]
      · rw [if_pos hx]
        congr 1
        rw [Bool.eq_iff_iff, Hyp.subB_iff, Hyp.subB_iff, e1, f1]
        constructor
        · intro hs x hm
          rcases List.mem_cons.1 hm with rfl | hm
          · rw [hx]; exact List.mem_cons_self
          · exact List.mem_cons_of_mem _ (hs x hm)
        · intro hs x hm
          rcases List.mem_cons.1 (hs x (List.mem_cons_of_mem _ hm)) with h3 | h3
          · have := hf1 x hm; omega
          · exact h3
      · rw [if_neg hx]
        congr 1
        rw [Bool.eq_iff_iff, Hyp.subB_iff, Hyp.subB_iff, e1]
        constructor
        · intro hs x hm
          exact List.mem_cons_of_mem _ (hs x hm)
        · intro hs x hm
          rcases List.mem_cons.1 (hs x hm) with h3 | h3
          · exfalso
            rw [f1] at hm hs
            rcases List.mem_cons.1 hm with h4 | h4
            · omega
            · have h5 := hf1 x h4
              rcases List.mem_cons.1 (hs f[j] List.mem_cons_self) with h6 | h6
              · omega
              · have := he1 _ h6; omega
          · exact h3
    · have hj' : j = f.length := by omega
      subst hj'
      rw [if_neg (by simp)]
      simp [Hyp.subB]
theorem con_f (e f : List Int) (he : Hyp.Inc e) (hf : Hyp.Inc f) (hE : e.length < 9223372036854775807) (hF : f.length < 9223372036854775807) (k : Nat) (hk : 2 * e.length + 1 < k) :
    cleanseref27_Contains.f k e f = some (Hyp.subB f e) := con_l0 e f he hf hE hF e.length 0 0 (by omega) (by omega) k hk
theorem sets_l0 (xs ys : List (List Int)) (hl : xs.length = ys.length) (B : Nat) (hB : ∀ e ∈ xs, e.length ≤ B) (hBL : B ≤ 1000000) (hL : xs.length ≤ 1000000) : ∀ (m i : Nat), i + m = xs.length → ∀ k, m + B < k →
    cleanseref27_Sets.l0 k xs ys (i : Int) = some (decide (xs.drop i = ys.drop i)) := by
  intro m
  induction m with
  | zero =>
    intro i hi k hk
    obtain ⟨k, rfl⟩ : ∃ j, k = j + 1 := ⟨k - 1, by omega⟩
    rw [cleanseref27_Sets.l0, if_neg (by omega), List.drop_eq_nil_of_le (by omega), List.drop_eq_nil_of_le (by omega)]
    simp
  | succ m ih =>
    intro i hi k hk
    obtain ⟨k, rfl⟩ : ∃ j, k = j + 1 := ⟨k - 1, by omega⟩
    have hlt : i < xs.length := by omega
    have hlt' : i < ys.length := by omega
    have hb := hB _ (List.getElem_mem hlt)
    rw [cleanseref27_Sets.l0, if_pos (by omega), if_pos (by omega), if_pos (by omega), rdL1_nat xs hlt, rdL1_nat ys hlt', wrap_nat (by omega), ih (i + 1) (by omega) k (by omega), ints_f _ _ (by omega) k (by omega), Option.bind_some, List.drop_eq_getElem_cons hlt, List.drop_eq_getElem_cons hlt']
    by_cases h : xs[i] = ys[i]
    · rw [if_pos (by simpa using h), h]; simp only [List.cons.injEq, true_and]
    · rw [if_neg (by simpa using h), decide_eq_false]; intro e; exact h (List.cons.inj e).1
theorem sets_f (xs ys : List (List Int)) (B : Nat) (hB : ∀ e ∈ xs, e.length ≤ B) (hBL : B ≤ 1000000) (hL : xs.length ≤ 1000000) (k : Nat) (hk : xs.length + B < k) :
    cleanseref27_Sets.f k xs ys = some (decide (xs = ys)) := by
  unfold cleanseref27_Sets.f
  by_cases h : xs.length = ys.length
  · rw [if_pos (by omega)]
    exact sets_l0 xs ys h B hB hBL hL xs.length 0 (by omega) k hk
  · rw [if_neg (by omega), decide_eq_false (fun e => h (by rw [e]))]
theorem same_f (n n' : Int) (c c' : List Int) (xs ys : List (List Int)) (hc : c.length ≤ 1000000) (B : Nat) (hB : ∀ e ∈ xs, e.length ≤ B) (hBL : B ≤ 1000000) (hL : xs.length ≤ 1000000) (k : Nat) (hk : c.length + xs.length + B < k) :
    cleanseref27_Same.f k n c xs n' c' ys = some (decide (n = n' ∧ c = c' ∧ xs = ys)) := by
  unfold cleanseref27_Same.f
  by_cases h1 : n = n'
  · rw [if_pos h1, ints_f c c' (by omega) k (by omega), Option.bind_some]
    by_cases h2 : c = c'
    · rw [if_pos (by simpa using h2), sets_f xs ys B hB hBL hL k (by omega), Option.bind_some]
      simp [h1, h2]
    · rw [if_neg (by simpa using h2)]
      simp [h2]
  · rw [if_neg h1]
    simp [h1]
theorem small_f (n : Int) (c : List Int) (xs : List (List Int)) (a b : Int) (hL : xs.length ≤ 9223372036854775807) (k : Nat) (hk : xs.length < k) :
    cleanseref27_Small.f k n c xs a b = some (decide (n ≤ a) && (decide ((c.length : Int) ≤ a) && ((xs.all fun e => decide (e.length ≤ 10)) && decide ((xs.length : Int) ≤ b)))) := by
  unfold cleanseref27_Small.f
  by_cases h1 : n ≤ a
  · rw [if_pos h1, decide_eq_true h1, Bool.true_and]
    by_cases h2 : (c.length : Int) ≤ a
    · rw [if_pos h2, decide_eq_true h2, Bool.true_and, few_f xs b hL k hk, Option.bind_some]
    · rw [if_neg h2, decide_eq_false h2, Bool.false_and]
  · rw [if_neg h1, decide_eq_false h1, Bool.false_and]
theorem inc_two (a b : Int) (r : List Int) : Hyp.Inc (a :: b :: r) ↔ a < b ∧ Hyp.Inc (b :: r) := by
  unfold Hyp.Inc
  constructor
  · intro h
    obtain ⟨h1, h2⟩ := List.pairwise_cons.1 h
    exact ⟨h1 b List.mem_cons_self, h2⟩
  · rintro ⟨h1, h2⟩
    refine List.pairwise_cons.2 ⟨fun x hx => ?_, h2⟩
    rcases List.mem_cons.1 hx with e | e
    · omega
    · have := (List.pairwise_cons.1 h2).1 x e; omega
theorem increasing_l0 (l : List Int) (hL : l.length ≤ 9223372036854775807) : ∀ (m i : Nat), i + 1 + m = l.length → ∀ k, m < k →
    cleanseref27_Increasing.l0 k l ((i + 1 : Nat) : Int) = some (decide (Hyp.Inc (l.drop i))) := by
  intro m
  induction m with
  | zero =>
    intro i hi k hk
    obtain ⟨k, rfl⟩ : ∃ j, k = j + 1 := ⟨k - 1, by omega⟩
    have hlt : i < l.length := by omega
    rw [cleanseref27_Increasing.l0, if_neg (by omega), List.drop_eq_getElem_cons hlt, List.drop_eq_nil_of_le (by omega), decide_eq_true (p := Hyp.Inc _) (List.pairwise_singleton _ _)]
  | succ m ih =>
    intro i hi k hk
    obtain ⟨k, rfl⟩ : ∃ j, k = j + 1 := ⟨k - 1, by omega⟩
    have hlt : i < l.length := by omega
    have hlt1 : i + 1 < l.length := by omega
    have e0 : wrap64 (((i + 1 : Nat) : Int) - 1) = (i : Int) := by rw [wrap_small (by omega) (by omega)]; omega
    have h0 := ih (i + 1) (by omega) k (by omega)
    rw [cleanseref27_Increasing.l0, e0, if_pos (by omega), if_pos (by omega), if_pos (by omega), if_pos (by omega), rd_nat l hlt, rd_nat l hlt1, wrap_nat (by omega), h0, List.drop_eq_getElem_cons hlt, List.drop_eq_getElem_cons hlt1]
    by_cases h : l[i] < l[i + 1]
    · rw [if_neg (by omega)]
      congr 1
      rw [Bool.eq_iff_iff, decide_eq_true_eq, decide_eq_true_eq, inc_two]
      exact ⟨fun hh => ⟨h, hh⟩, fun hh => hh.2⟩
    · rw [if_pos (by omega), decide_eq_false]
      intro hh
      exact h ((inc_two _ _ _).1 hh).1
theorem increasing_f (l : List Int) (hL : l.length ≤ 9223372036854775807) (k : Nat) (hk : l.length < k) : cleanseref27_Increasing.f k l = some (decide (Hyp.Inc l)) := by
  unfold cleanseref27_Increasing.f
  cases l with
  | nil =>
    obtain ⟨k, rfl⟩ : ∃ j, k = j + 1 := ⟨k - 1, by omega⟩
    rw [cleanseref27_Increasing.l0, if_neg (by simp), decide_eq_true (p := Hyp.Inc _) List.Pairwise.nil]
  | cons x l =>
    simp only [List.length_cons] at hk
    exact increasing_l0 (x :: l) hL l.length 0 (by simp; omega) k (by omega)
theorem vertices_f (l : List Int) (n : Int) (hL : l.length ≤ 9223372036854775807) (k : Nat) (hk : l.length < k) : cleanseref27_Vertices.f k l n = some (Hyp.isSetB l n) := by
  unfold cleanseref27_Vertices.f
  rw [increasing_f l hL k hk, Option.bind_some]
  by_cases hi : Hyp.Inc l
  · rw [if_pos (by simpa using hi)]
    by_cases h0 : l.length = 0
    · rw [if_pos (by omega)]
      have : l = [] := List.eq_nil_of_length_eq_zero h0
      subst this; rfl
    · have hp : 0 < l.length := by omega
      have e0 : wrap64 ((l.length : Int) - 1) = ((l.length - 1 : Nat) : Int) := by rw [wrap_small (by omega) (by omega)]; omega
      have r0 : rd l 0 = l[0] := rd_nat l hp
      rw [if_neg (by omega), if_pos (by omega), r0, e0, if_pos (show (0 : Int) ≤ ((l.length - 1 : Nat) : Int) by omega), if_pos (show ((l.length - 1 : Nat) : Int) < (l.length : Int) by omega), rd_nat l (by omega)]
      have key : Hyp.isSetB l n = true ↔ l[0] ≥ 0 ∧ l[l.length - 1] < n := by
        rw [Hyp.isSetB_iff]
        constructor
        · rintro ⟨h1, _⟩
          exact ⟨(h1 _ (List.getElem_mem hp)).1, (h1 _ (List.getElem_mem (by omega))).2⟩
        · rintro ⟨h1, h2⟩
          refine ⟨fun x hx => ?_, hi⟩
          obtain ⟨j, hj, rfl⟩ := List.mem_iff_getElem.1 hx
          have a1 : l[0] ≤ l[j] := by
            rcases Nat.eq_zero_or_pos j with e | e
            · subst e; exact Int.le_refl _
            · exact Int.le_of_lt (List.pairwise_iff_getElem.1 hi 0 j hp hj e)
          have a2 : l[j] ≤ l[l.length - 1] := by
            by_cases e : j = l.length - 1
            · subst e; exact Int.le_refl _
            · exact Int.le_of_lt (List.pairwise_iff_getElem.1 hi j (l.length - 1) hj (by omega) (by omega))
          omega
      by_cases h1 : l[0] ≥ 0
      · rw [if_pos h1]
        congr 1
        rw [Bool.eq_iff_iff, decide_eq_true_eq, key]
        exact ⟨fun h => ⟨h1, h⟩, fun h => h.2⟩
      · rw [if_neg h1]
        congr 1
        rw [Bool.eq_iff_iff, key]
        exact ⟨fun h => (by cases h), fun h => absurd h.1 h1⟩
  · rw [if_neg (by simpa using hi)]
    congr 1
    rw [Bool.eq_iff_iff, Hyp.isSetB_iff]
    exact ⟨fun h => (by cases h), fun h => absurd h.2 hi⟩
theorem less_l0 (a b : List Int) (hA : a.length ≤ 1000000) (hB : b.length ≤ 1000000) : ∀ (m i : Nat), i + m = a.length → i ≤ b.length → ∀ k, 2 * m + 1 < k →
    cleanseref27_Less.l0 k a b (i : Int) = some (decide (Hyp.cmpL (a.drop i) (b.drop i) < 0) || (decide (a.length < b.length) && decide (a.drop i = [] ∧ b.drop i = []))) := by
  intro m
  induction m with
  | zero =>
    intro i hi hib k hk
    obtain ⟨k, rfl⟩ : ∃ j, k = j + 2 := ⟨k - 2, by omega⟩
    rw [cleanseref27_Less.l0, if_neg (by omega), cleanseref27_Less.j1, if_neg (by decide), show a.drop i = [] from List.drop_eq_nil_of_le (by omega)]
    by_cases h : i < b.length
    · rw [List.drop_eq_getElem_cons h, decide_eq_true (p := (a.length : Int) < (b.length : Int)) (by omega)]
      simp [Hyp.cmpL]
    · rw [show b.drop i = [] from List.drop_eq_nil_of_le (by omega), decide_eq_false (p := (a.length : Int) < (b.length : Int)) (by omega), decide_eq_false (p := a.length < b.length) (by omega)]
      simp [Hyp.cmpL]
  | succ m ih =>
    intro i hi hib k hk
    obtain ⟨k, rfl⟩ : ∃ j, k = j + 2 := ⟨k - 2, by omega⟩
    have hlt : i < a.length := by omega
    rw [cleanseref27_Less.l0, if_pos (by omega), cleanseref27_Less.j1]
    by_cases h : i < b.length
    · rw [if_pos (by simp; omega), if_pos (by omega), if_pos (by omega), if_pos (by omega), rd_nat a hlt, rd_nat b h, wrap_nat (by omega), ih (i + 1) (by omega) (by omega) k (by omega)]
      rw [List.drop_eq_getElem_cons hlt, List.drop_eq_getElem_cons h]
      by_cases hx : a[i] = b[i]
      · rw [if_pos hx]
        simp only [Hyp.cmpL, hx, Int.lt_irrefl, if_false, reduceCtorEq, false_and, decide_false, Bool.and_false, Bool.or_false]
        by_cases h3 : a.length < b.length
        · by_cases h4 : a.drop (i + 1) = [] ∧ b.drop (i + 1) = []
          · obtain ⟨h4, h5⟩ := h4
            have h6 := congrArg List.length h4
            have h7 := congrArg List.length h5
            simp at h6 h7
            omega
          · rw [decide_eq_false h4]; simp
        · rw [decide_eq_false h3]; simp
      · rw [if_neg hx]
        by_cases h3 : a[i] < b[i]
        · simp [Hyp.cmpL, h3]
        · have h4 : b[i] < a[i] := by omega
          simp [Hyp.cmpL, h3, h4, -List.getElem_cons_drop]
    · rw [if_neg (by simp; omega), show b.drop i = [] from List.drop_eq_nil_of_le (by omega), List.drop_eq_getElem_cons hlt, decide_eq_false (p := (a.length : Int) < (b.length : Int)) (by omega)]
      simp [Hyp.cmpL, -List.getElem_cons_drop]
theorem less_f (a b : List Int) (hA : a.length ≤ 1000000) (hB : b.length ≤ 1000000) (k : Nat) (hk : 2 * a.length + 1 < k) : cleanseref27_Less.f k a b = some (decide (Hyp.cmpL a b < 0)) := by
  have h := less_l0 a b hA hB a.length 0 (by omega) (by omega) k hk
  refine h.trans ?_
  rw [List.drop_zero, List.drop_zero]
  by_cases h3 : a = [] ∧ b = []
  · obtain ⟨rfl, rfl⟩ := h3; simp
  · rw [decide_eq_false h3]; simp
end Hy
end Go.Proofs.YtgjbnmobhafajaaGreatDoor
end
