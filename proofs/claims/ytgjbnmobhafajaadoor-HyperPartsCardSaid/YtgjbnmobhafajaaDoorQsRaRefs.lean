/- The texts of this claim, RaRefs. -/
import Derived.Test.YtgjbnmobhafajaaDoorQsRf
set_option linter.unusedVariables false
set_option linter.unusedSimpArgs false
section
namespace Go.Proofs.YtgjbnmobhafajaaDoor
open Go Go.RowKit Go.Proofs.YtgjbnmobhafajaaDoorW.PrintWords Go.Proofs.YtgjbnmobhafajaaDoorW.PrintLast
namespace Hy
theorem wrap_nat {i : Nat} (h : i < 9223372036854775807) : wrap64 ((i : Int) + 1) = ((i + 1 : Nat) : Int) := by
  rw [wrap_small (by omega) (by omega)]; omega
theorem rdL1_nat (xs : List (List Int)) {i : Nat} (h : i < xs.length) : rd_L1 xs (i : Int) = xs[i] := by
  simp [rd_L1, List.getD_eq_getElem?_getD, h]
theorem rd_nat (xs : List Int) {i : Nat} (h : i < xs.length) : rd xs (i : Int) = xs[i] := by
  simp [rd, List.getD_eq_getElem?_getD, h]
theorem few_l0 (xs : List (List Int)) (n : Int) (hL : xs.length ≤ 9223372036854775807) : ∀ (m i : Nat), i + m = xs.length → ∀ k, m < k →
    cleanseref27_Few.l0 k xs n (i : Int) = some (((xs.drop i).all fun e => decide (e.length ≤ 10)) && decide ((xs.length : Int) ≤ n)) := by
  intro m
  induction m with
  | zero =>
    intro i hi k hk
    obtain ⟨k, rfl⟩ : ∃ j, k = j + 1 := ⟨k - 1, by omega⟩
    rw [cleanseref27_Few.l0, if_neg (by omega), List.drop_eq_nil_of_le (by omega)]
    simp
  | succ m ih =>
    intro i hi k hk
    obtain ⟨k, rfl⟩ : ∃ j, k = j + 1 := ⟨k - 1, by omega⟩
    have hlt : i < xs.length := by omega
    rw [cleanseref27_Few.l0, if_pos (by omega), if_pos (by omega), rdL1_nat xs hlt, wrap_nat (by omega), ih (i + 1) (by omega) k (by omega), List.drop_eq_getElem_cons hlt]
    by_cases h : ((xs[i].length : Nat) : Int) > 10
    · rw [if_pos h, List.all_cons, decide_eq_false (p := xs[i].length ≤ 10) (by omega)]; rfl
    · rw [if_neg h, List.all_cons, decide_eq_true (p := xs[i].length ≤ 10) (by omega), Bool.true_and]
theorem few_f (xs : List (List Int)) (n : Int) (hL : xs.length ≤ 9223372036854775807) (k : Nat) (hk : xs.length < k) :
    cleanseref27_Few.f k xs n = some ((xs.all fun e => decide (e.length ≤ 10)) && decide ((xs.length : Int) ≤ n)) := few_l0 xs n hL xs.length 0 (by omega) k hk
theorem ints_l0 (xs ys : List Int) (hl : xs.length = ys.length) (hL : xs.length ≤ 9223372036854775807) : ∀ (m i : Nat), i + m = xs.length → ∀ k, m < k →
    cleanseref06_Ints.l0 k xs ys (i : Int) = some (decide (xs.drop i = ys.drop i)) := by
  intro m
  induction m with
  | zero =>
    intro i hi k hk
    obtain ⟨k, rfl⟩ : ∃ j, k = j + 1 := ⟨k - 1, by omega⟩
    rw [cleanseref06_Ints.l0, if_neg (by omega), List.drop_eq_nil_of_le (by omega), List.drop_eq_nil_of_le (by omega)]
    simp
  | succ m ih =>
    intro i hi k hk
    obtain ⟨k, rfl⟩ : ∃ j, k = j + 1 := ⟨k - 1, by omega⟩
    have hlt : i < xs.length := by omega
    have hlt' : i < ys.length := by omega
    rw [cleanseref06_Ints.l0, if_pos (by omega), if_pos (by omega), if_pos (by omega), rd_nat xs hlt, rd_nat ys hlt', wrap_nat (by omega), ih (i + 1) (by omega) k (by omega), List.drop_eq_getElem_cons hlt, List.drop_eq_getElem_cons hlt']
    by_cases h : xs[i] = ys[i]
    · rw [if_pos h, h]; simp only [List.cons.injEq, true_and]
    · rw [if_neg h, decide_eq_false]; intro e; exact h (List.cons.inj e).1
theorem ints_f (xs ys : List Int) (hL : xs.length ≤ 9223372036854775807) (k : Nat) (hk : xs.length < k) :
    cleanseref06_Ints.f k xs ys = some (decide (xs = ys)) := by
  unfold cleanseref06_Ints.f
  by_cases h : xs.length = ys.length
  · rw [if_pos (by omega)]
    exact ints_l0 xs ys h hL xs.length 0 (by omega) k hk
  · rw [if_neg (by omega), decide_eq_false (fun e => h (by rw [e]))]
theorem con_l0 (e f : List Int) (he : Hyp.Inc e) (hf : Hyp.Inc f) (hE : e.length < 9223372036854775807) (hF : f.length < 9223372036854775807) : ∀ (m i j : Nat), i + m = e.length → j ≤ f.length → ∀ k, 2 * m + 1 < k →
    cleanseref27_Contains.l0 k e f (j : Int) (i : Int) = some (Hyp.subB (f.drop j) (e.drop i)) := by
  intro m
  induction m with
  | zero =>
    intro i j hi hj k hk
    obtain ⟨k, rfl⟩ : ∃ j, k = j + 2 := ⟨k - 2, by omega⟩
    rw [cleanseref27_Contains.l0, if_neg (by omega), cleanseref27_Contains.j1, if_neg (by decide), show List.drop i e = [] from List.drop_eq_nil_of_le (by omega)]
    by_cases h : j = f.length
    · subst h; simp [Hyp.subB]
    · have hlt : j < f.length := by omega
      rw [List.drop_eq_getElem_cons hlt]
      have : ((j : Int) == (f.length : Int)) = false := by simp; omega
      rw [this]; simp [Hyp.subB, -List.getElem_cons_drop]
  | succ m ih =>
    intro i j hi hj k hk
    obtain ⟨k, rfl⟩ : ∃ j, k = j + 2 := ⟨k - 2, by omega⟩
    have hlt : i < e.length := by omega
    rw [cleanseref27_Contains.l0, if_pos (by omega), cleanseref27_Contains.j1]
    by_cases h : j < f.length
    · rw [if_pos (by simp; omega), if_pos (by omega), if_pos (by omega), if_pos (by omega), if_pos (by omega), rd_nat e hlt, rd_nat f h, wrap_nat (by omega), wrap_nat (by omega), ih (i + 1) (j + 1) (by omega) (by omega) k (by omega), ih (i + 1) j (by omega) (by omega) k (by omega)]
      have e1 := List.drop_eq_getElem_cons hlt
      have f1 := List.drop_eq_getElem_cons h
      have he' : Hyp.Inc (e.drop i) := he.sublist (List.drop_sublist _ _)
      have hf' : Hyp.Inc (f.drop j) := hf.sublist (List.drop_sublist _ _)
      rw [e1] at he'
      rw [f1] at hf'
      obtain ⟨he1, he2⟩ := List.pairwise_cons.1 he'
      obtain ⟨hf1, hf2⟩ := List.pairwise_cons.1 hf'
      by_cases hx : e[i] = f[j]
      · rw [if_pos hx]
        congr 1
        rw [Bool.eq_iff_iff, Hyp.subB_iff, Hyp.subB_iff, e1, f1]
        constructor
        · intro hs x hm
          rcases List.mem_cons.1 hm with rfl | hm
          · rw [hx]; exact List.mem_cons_self
          · exact List.mem_cons_of_mem _ (hs x hm)
        · intro hs x hm
          rcases List.mem_cons.1 (hs x (List.mem_cons_of_mem _ hm)) with h3 | h3
          · have := hf1 x hm; omega
          · exact h3
      · rw [if_neg hx]
        congr 1
        rw [Bool.eq_iff_iff, Hyp.subB_iff, Hyp.subB_iff, e1]
        constructor
        · intro hs x hm
          exact List.mem_cons_of_mem _ (hs x hm)
        · intro hs x hm
          rcases List.mem_cons.1 (hs x hm) with h3 | h3
          · exfalso
            rw [f1] at hm hs
            rcases List.mem_cons.1 hm with h4 | h4
            · omega
            · have h5 := hf1 x h4
              rcases List.mem_cons.1 (hs f[j] List.mem_cons_self) with h6 | h6
              · omega
              · have := he1 _ h6; omega
          · exact h3
    · have hj' : j = f.length := by omega
      subst hj'
      rw [if_neg (by simp)]
      simp [Hyp.subB]
theorem con_f (e f : List Int) (he : Hyp.Inc e) (hf : Hyp.Inc f) (hE : e.length < 9223372036854775807) (hF : f.length < 9223372036854775807) (k : Nat) (hk : 2 * e.length + 1 < k) :
    cleanseref27_Contains.f k e f = some (Hyp.subB f e) := con_l0 e f he hf hE hF e.length 0 0 (by omega) (by omega) k hk
theorem ins_inc {S : List Int} (hS : Hyp.Inc S) {j : Nat} {x : Int} (hlo : ∀ y ∈ S.take j, y < x) (hhi : ∀ y ∈ S.drop j, x < y) : Hyp.Inc (S.take j ++ [x] ++ S.drop j) := by
  have h := hS
  unfold Hyp.Inc at h ⊢
  rw [← List.take_append_drop j S] at h
  obtain ⟨h1, h2, h3⟩ := List.pairwise_append.1 h
  refine List.pairwise_append.2 ⟨List.pairwise_append.2 ⟨h1, List.pairwise_singleton _ _, fun a ha b hb => ?_⟩, h2, fun a ha b hb => ?_⟩
  · rw [List.mem_singleton.1 hb]; exact hlo a ha
  · rcases List.mem_append.1 ha with ha | ha
    · exact h3 a ha b hb
    · rw [List.mem_singleton.1 ha]; exact hhi b hb
theorem ins_mem (S : List Int) (j : Nat) (x y : Int) : y ∈ S.take j ++ [x] ++ S.drop j ↔ y = x ∨ y ∈ S := by
  have h : y ∈ S ↔ y ∈ S.take j ∨ y ∈ S.drop j := by
    rw [← List.mem_append, List.take_append_drop]
  rw [List.mem_append, List.mem_append, List.mem_singleton, h]
  constructor
  · rintro ((a | a) | a)
    · exact .inr (.inl a)
    · exact .inl a
    · exact .inr (.inr a)
  · rintro (a | a | a)
    · exact .inl (.inr a)
    · exact .inl (.inl a)
    · exact .inr a
theorem ins_len (S : List Int) (j : Nat) (x : Int) : (S.take j ++ [x] ++ S.drop j).length = S.length + 1 := by
  simp only [List.length_append, List.length_take, List.length_drop, List.length_singleton]; omega
theorem set_l1 (xs S : List Int) (i : Nat) (hi : i < xs.length) (hL : xs.length ≤ 1000000) (hS : Hyp.Inc S) (hSl : S.length ≤ 2000000) (r : List Int)
    (h0 : ∀ T, Hyp.Inc T → (∀ y, y ∈ T ↔ y = xs[i] ∨ y ∈ S) → T.length ≤ S.length + 1 → ∃ K, ∀ k, K ≤ k → cleanseref27_Set.l0 k xs T ((i + 1 : Nat) : Int) = some r) :
    ∀ (d j : Nat), j + d = S.length → (∀ y ∈ S.take j, y < xs[i]) → ∃ K, ∀ k, K ≤ k → cleanseref27_Set.l1 k xs S (i : Int) (j : Int) = some r := by
  intro d
  induction d with
  | zero =>
    intro j hj hlo
    obtain ⟨K, hK⟩ := h0 (S.take j ++ [xs[i]] ++ S.drop j) (ins_inc hS hlo (by rw [List.drop_eq_nil_of_le (by omega)]; simp)) (ins_mem S j xs[i]) (by rw [ins_len]; omega)
    refine ⟨K + 1, fun k hk => ?_⟩
    obtain ⟨k, rfl⟩ : ∃ j, k = j + 1 := ⟨k - 1, by omega⟩
    rw [cleanseref27_Set.l1, if_neg (by omega)]
    simp only [Option.bind_some, Int.toNat_natCast, List.nil_append]
    rw [if_pos (by omega), if_pos (by omega), if_pos (by simp; omega), if_pos (by omega), if_pos (by omega), if_pos (by simp; omega), if_pos (by simp; omega), rd_nat xs hi, wrap_nat (by omega)]
    exact hK k (by omega)
  | succ d ih =>
    intro j hj hlo
    have hjl : j < S.length := by omega
    have hd := List.drop_eq_getElem_cons hjl
    have hInc : Hyp.Inc (S.drop j) := hS.sublist (List.drop_sublist _ _)
    rw [hd] at hInc
    obtain ⟨hd1, hd2⟩ := List.pairwise_cons.1 hInc
    by_cases h1 : S[j] < xs[i]
    · obtain ⟨K, hK⟩ := ih (j + 1) (by omega) (fun y hy => by
        rw [List.take_succ_eq_append_getElem hjl] at hy
        rcases List.mem_append.1 hy with hy | hy
        · exact hlo y hy
        · rw [List.mem_singleton.1 hy]; exact h1)
      refine ⟨K + 1, fun k hk => ?_⟩
      obtain ⟨k, rfl⟩ : ∃ j, k = j + 1 := ⟨k - 1, by omega⟩
      rw [cleanseref27_Set.l1, if_pos (by omega), if_pos (by omega), if_pos (by omega), if_pos (by omega), rd_nat xs hi, rd_nat S hjl, if_pos h1, wrap_nat (by omega)]
      exact hK k (by omega)
    by_cases h2 : S[j] = xs[i]
    · obtain ⟨K, hK⟩ := h0 S hS (fun y => ⟨.inr, fun h => by
        rcases h with rfl | h
        · rw [← h2]; exact List.getElem_mem hjl
        · exact h⟩) (by omega)
      refine ⟨K + 1, fun k hk => ?_⟩
      obtain ⟨k, rfl⟩ : ∃ j, k = j + 1 := ⟨k - 1, by omega⟩
      rw [cleanseref27_Set.l1, if_pos (by omega), if_pos (by omega), if_pos (by omega), if_pos (by omega), rd_nat xs hi, rd_nat S hjl, if_neg h1, if_pos h2, wrap_nat (by omega)]
      exact hK k (by omega)
    · obtain ⟨K, hK⟩ := h0 (S.take j ++ [xs[i]] ++ S.drop j) (ins_inc hS hlo (by
        rw [hd]
        intro y hy
        rcases List.mem_cons.1 hy with rfl | hy
        · omega
        · have := hd1 y hy; omega)) (ins_mem S j xs[i]) (by rw [ins_len]; omega)
      refine ⟨K + 1, fun k hk => ?_⟩
      obtain ⟨k, rfl⟩ : ∃ j, k = j + 1 := ⟨k - 1, by omega⟩
      rw [cleanseref27_Set.l1, if_pos (by omega), if_pos (by omega), if_pos (by omega), if_pos (by omega), rd_nat xs hi, rd_nat S hjl, if_neg h1, if_neg h2]
      simp only [Option.bind_some, Int.toNat_natCast, List.nil_append]
      rw [if_pos (by omega), if_pos (by simp; omega), if_pos (by simp; omega), if_pos (by simp; omega), wrap_nat (by omega)]
      exact hK k (by omega)
theorem set_l0 (xs : List Int) (hL : xs.length ≤ 1000000) : ∀ (m i : Nat) (S : List Int), i + m = xs.length → Hyp.Inc S → S.length + m ≤ 1000000 →
    ∃ K, ∀ k, K ≤ k → cleanseref27_Set.l0 k xs S (i : Int) = some (Hyp.setOf (S ++ xs.drop i)) := by
  intro m
  induction m with
  | zero =>
    intro i S hi hS hSl
    refine ⟨1, fun k hk => ?_⟩
    obtain ⟨k, rfl⟩ : ∃ j, k = j + 1 := ⟨k - 1, by omega⟩
    rw [cleanseref27_Set.l0, if_neg (by omega), List.drop_eq_nil_of_le (by omega), List.append_nil, Hyp.setOf_of_inc hS]
  | succ m ih =>
    intro i S hi hS hSl
    have hlt : i < xs.length := by omega
    obtain ⟨K, hK⟩ := set_l1 xs S i hlt hL hS (by omega) (Hyp.setOf (S ++ xs.drop i)) (fun T hT hm hl => by
      obtain ⟨K, hK⟩ := ih (i + 1) T (by omega) hT (by omega)
      refine ⟨K, fun k hk => ?_⟩
      rw [hK k hk]
      refine congrArg some (Hyp.inc_ext (Hyp.setOf_inc _) (Hyp.setOf_inc _) fun y => ?_)
      rw [Hyp.mem_setOf, Hyp.mem_setOf, List.mem_append, List.mem_append, hm, List.drop_eq_getElem_cons hlt, List.mem_cons]
      constructor
      · rintro ((a | a) | a)
        · exact .inr (.inl a)
        · exact .inl a
        · exact .inr (.inr a)
      · rintro (a | a | a)
        · exact .inl (.inr a)
        · exact .inl (.inl a)
        · exact .inr a) S.length 0 (by omega) (by simp)
    refine ⟨K + 1, fun k hk => ?_⟩
    obtain ⟨k, rfl⟩ : ∃ j, k = j + 1 := ⟨k - 1, by omega⟩
    rw [cleanseref27_Set.l0, if_pos (by omega)]
    exact hK k (by omega)
theorem set_f (xs : List Int) (hL : xs.length ≤ 1000000) : ∃ K, ∀ k, K ≤ k → cleanseref27_Set.f k xs = some (Hyp.setOf xs) := by
  obtain ⟨K, hK⟩ := set_l0 xs hL xs.length 0 [] (by omega) List.Pairwise.nil (by simpa using hL)
  exact ⟨K, hK⟩
theorem free_l0 (es : List (List Int)) (s : List Int) (hs : Hyp.Inc s) (hsl : s.length ≤ 1000000) (he : ∀ e ∈ es, Hyp.Inc e ∧ e.length ≤ 1000000) (hL : es.length ≤ 9223372036854775807) : ∀ (m i : Nat), i + m = es.length → ∀ k, m + 2 * s.length + 2 < k →
    cleanseref27_Free.l0 k es s (i : Int) = some ((es.drop i).all fun e => e.isEmpty || !Hyp.subB e s) := by
  intro m
  induction m with
  | zero =>
    intro i hi k hk
    obtain ⟨k, rfl⟩ : ∃ j, k = j + 1 := ⟨k - 1, by omega⟩
    rw [cleanseref27_Free.l0, if_neg (by omega), List.drop_eq_nil_of_le (by omega)]
    rfl
  | succ m ih =>
    intro i hi k hk
    obtain ⟨k, rfl⟩ : ∃ j, k = j + 1 := ⟨k - 1, by omega⟩
    have hlt : i < es.length := by omega
    have hi' := he es[i] (List.getElem_mem hlt)
    rw [cleanseref27_Free.l0, if_pos (by omega), if_pos (by omega), rdL1_nat es hlt, wrap_nat (by omega), ih (i + 1) (by omega) k (by omega), List.drop_eq_getElem_cons hlt, List.all_cons, con_f s es[i] hs hi'.1 (by omega) (by omega) k (by omega)]
    by_cases h : es[i] = []
    · rw [h, if_neg (by decide)]; rfl
    · have hp := List.length_pos_iff.2 h
      have h3 : es[i].isEmpty = false := by simpa using h
      rw [if_pos (by omega), h3, Option.bind_some]
      cases hb : Hyp.subB es[i] s
      · rw [if_neg (by decide)]; rfl
      · rw [if_pos rfl]; rfl
theorem free_f (es : List (List Int)) (s : List Int) (hs : Hyp.Inc s) (hsl : s.length ≤ 1000000) (he : ∀ e ∈ es, Hyp.Inc e ∧ e.length ≤ 1000000) (hL : es.length ≤ 9223372036854775807) (k : Nat) (hk : es.length + 2 * s.length + 2 < k) :
    cleanseref27_Free.f k es s = some (es.all fun e => e.isEmpty || !Hyp.subB e s) := free_l0 es s hs hsl he hL es.length 0 (by omega) k hk
theorem sets_l0 (xs ys : List (List Int)) (hl : xs.length = ys.length) (B : Nat) (hB : ∀ e ∈ xs, e.length ≤ B) (hBL : B ≤ 1000000) (hL : xs.length ≤ 1000000) : ∀ (m i : Nat), i + m = xs.length → ∀ k, m + B < k →
    cleanseref27_Sets.l0 k xs ys (i : Int) = some (decide (xs.drop i = ys.drop i)) := by
  intro m
  induction m with
  | zero =>
    intro i hi k hk
    obtain ⟨k, rfl⟩ : ∃ j, k = j + 1 := ⟨k - 1, by omega⟩
    rw [cleanseref27_Sets.l0, if_neg (by omega), List.drop_eq_nil_of_le (by omega), List.drop_eq_nil_of_le (by omega)]
    simp
  | succ m ih =>
    intro i hi k hk
    obtain ⟨k, rfl⟩ : ∃ j, k = j + 1 := ⟨k - 1, by omega⟩
    have hlt : i < xs.length := by omega
    have hlt' : i < ys.length := by omega
    have hb := hB _ (List.getElem_mem hlt)
    rw [cleanseref27_Sets.l0, if_pos (by omega), if_pos (by omega), if_pos (by omega), rdL1_nat xs hlt, rdL1_nat ys hlt', wrap_nat (by omega), ih (i + 1) (by omega) k (by omega), ints_f _ _ (by omega) k (by omega), Option.bind_some, List.drop_eq_getElem_cons hlt, List.drop_eq_getElem_cons hlt']
    by_cases h : xs[i] = ys[i]
    · rw [if_pos (by simpa using h), h]; simp only [List.cons.injEq, true_and]
    · rw [if_neg (by simpa using h), decide_eq_false]; intro e; exact h (List.cons.inj e).1
theorem sets_f (xs ys : List (List Int)) (B : Nat) (hB : ∀ e ∈ xs, e.length ≤ B) (hBL : B ≤ 1000000) (hL : xs.length ≤ 1000000) (k : Nat) (hk : xs.length + B < k) :
    cleanseref27_Sets.f k xs ys = some (decide (xs = ys)) := by
  unfold cleanseref27_Sets.f
  by_cases h : xs.length = ys.length
  · rw [if_pos (by omega)]
    exact sets_l0 xs ys h B hB hBL hL xs.length 0 (by omega) k hk
  · rw [if_neg (by omega), decide_eq_false (fun e => h (by rw [e]))]
theorem small_f (n : Int) (c : List Int) (xs : List (List Int)) (a b : Int) (hL : xs.length ≤ 9223372036854775807) (k : Nat) (hk : xs.length < k) :
    cleanseref27_Small.f k n c xs a b = some (decide (n ≤ a) && (decide ((c.length : Int) ≤ a) && ((xs.all fun e => decide (e.length ≤ 10)) && decide ((xs.length : Int) ≤ b)))) := by
  unfold cleanseref27_Small.f
  by_cases h1 : n ≤ a
  · rw [if_pos h1, decide_eq_true h1, Bool.true_and]
    by_cases h2 : (c.length : Int) ≤ a
    · rw [if_pos h2, decide_eq_true h2, Bool.true_and, few_f xs b hL k hk, Option.bind_some]
    · rw [if_neg h2, decide_eq_false h2, Bool.false_and]
  · rw [if_neg h1, decide_eq_false h1, Bool.false_and]
theorem in_l0 (l : List Int) (n : Int) (hL : l.length ≤ 9223372036854775807) : ∀ (m i : Nat), i + m = l.length → ∀ k, m < k →
    cleanseref27_In.l0 k l n (i : Int) = some (decide (n ∈ l.drop i)) := by
  intro m
  induction m with
  | zero =>
    intro i hi k hk
    obtain ⟨k, rfl⟩ : ∃ j, k = j + 1 := ⟨k - 1, by omega⟩
    rw [cleanseref27_In.l0, if_neg (by omega), List.drop_eq_nil_of_le (by omega)]
    simp
  | succ m ih =>
    intro i hi k hk
    obtain ⟨k, rfl⟩ : ∃ j, k = j + 1 := ⟨k - 1, by omega⟩
    have hlt : i < l.length := by omega
    rw [cleanseref27_In.l0, if_pos (by omega), if_pos (by omega), rd_nat l hlt, wrap_nat (by omega), ih (i + 1) (by omega) k (by omega), List.drop_eq_getElem_cons hlt]
    by_cases h : l[i] = n
    · rw [if_pos h, decide_eq_true (by rw [h]; exact List.mem_cons_self)]
    · rw [if_neg h]
      simp only [List.mem_cons, show ¬ n = l[i] from fun e => h e.symm, false_or]
theorem in_f (l : List Int) (n : Int) (hL : l.length ≤ 9223372036854775807) (k : Nat) (hk : l.length < k) : cleanseref27_In.f k l n = some (decide (n ∈ l)) := in_l0 l n hL l.length 0 (by omega) k hk
theorem less_l0 (a b : List Int) (hA : a.length ≤ 1000000) (hB : b.length ≤ 1000000) : ∀ (m i : Nat), i + m = a.length → i ≤ b.length → ∀ k, 2 * m + 1 < k →
    cleanseref27_Less.l0 k a b (i : Int) = some (decide (Hyp.cmpL (a.drop i) (b.drop i) < 0) || (decide (a.length < b.length) && decide (a.drop i = [] ∧ b.drop i = []))) := by
  intro m
  induction m with
  | zero =>
    intro i hi hib k hk
    obtain ⟨k, rfl⟩ : ∃ j, k = j + 2 := ⟨k - 2, by omega⟩
    rw [cleanseref27_Less.l0, if_neg (by omega), cleanseref27_Less.j1, if_neg (by decide), show a.drop i = [] from List.drop_eq_nil_of_le (by omega)]
    by_cases h : i < b.length
    · rw [List.drop_eq_getElem_cons h, decide_eq_true (p := (a.length : Int) < (b.length : Int)) (by omega)]
      simp [Hyp.cmpL]
    · rw [show b.drop i = [] from List.drop_eq_nil_of_le (by omega), decide_eq_false (p := (a.length : Int) < (b.length : Int)) (by omega), decide_eq_false (p := a.length < b.length) (by omega)]
      simp [Hyp.cmpL]
  | succ m ih =>
    intro i hi hib k hk
    obtain ⟨k, rfl⟩ : ∃ j, k = j + 2 := ⟨k - 2, by omega⟩
    have hlt : i < a.length := by omega
    rw [cleanseref27_Less.l0, if_pos (by omega), cleanseref27_Less.j1]
    by_cases h : i < b.length
    · rw [if_pos (by simp; omega), if_pos (by omega), if_pos (by omega), if_pos (by omega), rd_nat a hlt, rd_nat b h, wrap_nat (by omega), ih (i + 1) (by omega) (by omega) k (by omega)]
      rw [List.drop_eq_getElem_cons hlt, List.drop_eq_getElem_cons h]
      by_cases hx : a[i] = b[i]
      · rw [if_pos hx]
        simp only [Hyp.cmpL, hx, Int.lt_irrefl, if_false, reduceCtorEq, false_and, decide_false, Bool.and_false, Bool.or_false]
        by_cases h3 : a.length < b.length
        · by_cases h4 : a.drop (i + 1) = [] ∧ b.drop (i + 1) = []
          · obtain ⟨h4, h5⟩ := h4
            have h6 := congrArg List.length h4
            have h7 := congrArg List.length h5
            simp at h6 h7
            omega
          · rw [decide_eq_false h4]; simp
        · rw [decide_eq_false h3]; simp
      · rw [if_neg hx]
        by_cases h3 : a[i] < b[i]
        · simp [Hyp.cmpL, h3]
        · have h4 : b[i] < a[i] := by omega
          simp [Hyp.cmpL, h3, h4, -List.getElem_cons_drop]
    · rw [if_neg (by simp; omega), show b.drop i = [] from List.drop_eq_nil_of_le (by omega), List.drop_eq_getElem_cons hlt, decide_eq_false (p := (a.length : Int) < (b.length : Int)) (by omega)]
      simp [Hyp.cmpL, -List.getElem_cons_drop]
theorem less_f (a b : List Int) (hA : a.length ≤ 1000000) (hB : b.length ≤ 1000000) (k : Nat) (hk : 2 * a.length + 1 < k) : cleanseref27_Less.f k a b = some (decide (Hyp.cmpL a b < 0)) := by
  have h := less_l0 a b hA hB a.length 0 (by omega) (by omega) k hk
  refine h.trans ?_
  rw [List.drop_zero, List.drop_zero]
  by_cases h3 : a = [] ∧ b = []
  · obtain ⟨rfl, rfl⟩ := h3; simp
  · rw [decide_eq_false h3]; simp
end Hy
end Go.Proofs.YtgjbnmobhafajaaDoor
end
