/- The texts of this claim, RaRefs. -/
import Derived.Test.YtgjbnmobhafajaaDoorQsRf
set_option linter.unusedVariables false
set_option linter.unusedSimpArgs false
section
namespace Go.Proofs.YtgjbnmobhafajaaDoor
open Go Go.RowKit Go.Proofs.YtgjbnmobhafajaaDoorW.PrintWords Go.Proofs.YtgjbnmobhafajaaDoorW.PrintLast
namespace Hy
theorem wrap_nat {i : Nat} (h : i < 9223372036854775807) : wrap64 ((i : Int) + 1) = ((i + 1 : Nat) : Int) := by
  rw [wrap_small (by omega) (by omega)]; omega
theorem rdL1_nat (xs : List (List Int)) {i : Nat} (h : i < xs.length) : rd_L1 xs (i : Int) = xs[i] := by
  simp [rd_L1, List.getD_eq_getElem?_getD, h]
theorem rd_nat (xs : List Int) {i : Nat} (h : i < xs.length) : rd xs (i : Int) = xs[i] := by
  simp [rd, List.getD_eq_getElem?_getD, h]
theorem few_l0 (xs : List (List Int)) (n : Int) (hL : xs.length ≤ 9223372036854775807) : ∀ (m i : Nat), i + m = xs.length → ∀ k, m < k →
    cleanseref27_Few.l0 k xs n (i : Int) = some (((xs.drop i).all fun e => decide (e.length ≤ 10)) && decide ((xs.length : Int) ≤ n)) := by
  intro m
  induction m with
  | zero =>
    intro i hi k hk
    obtain ⟨k, rfl⟩ : ∃ j, k = j + 1 := ⟨k - 1, by omega⟩
    rw [cleanseref27_Few.l0, if_neg (by omega), List.drop_eq_nil_of_le (by omega)]
    simp
  | succ m ih =>
    intro i hi k hk
    obtain ⟨k, rfl⟩ : ∃ j, k = j + 1 := ⟨k - 1, by omega⟩
    have hlt : i < xs.length := by omega
    rw [cleanseref27_Few.l0, if_pos (by omega), if_pos (by omega), rdL1_nat xs hlt, wrap_nat (by omega), ih (i + 1) (by omega) k (by omega), List.drop_eq_getElem_cons hlt]
    by_cases h : ((xs[i].length : Nat) : Int) > 10
    · rw [if_pos h, List.all_cons, decide_eq_false (p := xs[i].length ≤ 10) (by omega)]; rfl
    · rw [if_neg h, List.all_cons, decide_eq_true (p := xs[i].length ≤ 10) (by omega), Bool.true_and]
theorem few_f (xs : List (List Int)) (n : Int) (hL : xs.length ≤ 9223372036854775807) (k : Nat) (hk : xs.length < k) :
    cleanseref27_Few.f k xs n = some ((xs.all fun e => decide (e.length ≤ 10)) && decide ((xs.length : Int) ≤ n)) := few_l0 xs n hL xs.length 0 (by omega) k hk
theorem con_l0 (e f : List Int) (he : Hyp.Inc e) (hf : Hyp.Inc f) (hE : e.length < 9223372036854775807) (hF : f.length < 9223372036854775807) : ∀ (m i j : Nat), i + m = e.length → j ≤ f.length → ∀ k, 2 * m + 1 < k →
    cleanseref27_Contains.l0 k e f (j : Int) (i : Int) = some (Hyp.subB (f.drop j) (e.drop i)) := by
  intro m
  induction m with
  | zero =>
    intro i j hi hj k hk
    obtain ⟨k, rfl⟩ : ∃ j, k = j + 2 := ⟨k - 2, by omega⟩
    rw [cleanseref27_Contains.l0, if_neg (by omega), cleanseref27_Contains.j1, if_neg (by decide), show List.drop i e = [] from List.drop_eq_nil_of_le (by omega)]
    by_cases h : j = f.length
    · subst h; simp [Hyp.subB]
    · have hlt : j < f.length := by omega
      rw [List.drop_eq_getElem_cons hlt]
      have : ((j : Int) == (f.length : Int)) = false := by simp; omega
      rw [this]; simp [Hyp.subB, -List.getElem_cons_drop]
  | succ m ih =>
    intro i j hi hj k hk
    obtain ⟨k, rfl⟩ : ∃ j, k = j + 2 := ⟨k - 2, by omega⟩
    have hlt : i < e.length := by omega
    rw [cleanseref27_Contains.l0, if_pos (by omega), cleanseref27_Contains.j1]
    by_cases h : j < f.length
    · rw [if_pos (by simp; omega), if_pos (by omega), if_pos (by omega), if_pos (by omega), if_pos (by omega), rd_nat e hlt, rd_nat f h, wrap_nat (by omega), wrap_nat (by omega), ih (i + 1) (j + 1) (by omega) (by omega) k (by omega), ih (i + 1) j (by omega) (by omega) k (by omega)]
      have e1 := List.drop_eq_getElem_cons hlt
      have f1 := List.drop_eq_getElem_cons h
      have he' : Hyp.Inc (e.drop i) := he.sublist (List.drop_sublist _ _)
      have hf' : Hyp.Inc (f.drop j) := hf.sublist (List.drop_sublist _ _)
      rw [e1] at he'
      rw [f1] at hf'
      obtain ⟨he1, he2⟩ := List.pairwise_cons.1 he'
      obtain ⟨hf1, hf2⟩ := List.pairwise_cons.1 hf'
      by_cases hx : e[i] = f[j]
      · rw [if_pos hx]
        congr 1
        rw [Bool.eq_iff_iff, Hyp.subB_iff, Hyp.subB_iff, e1, f1]
        constructor
        · intro hs x hm
          rcases List.mem_cons.1 hm with rfl | hm
          · rw [hx]; exact List.mem_cons_self
          · exact List.mem_cons_of_mem _ (hs x hm)
        · intro hs x hm
          rcases List.mem_cons.1 (hs x (List.mem_cons_of_mem _ hm)) with h3 | h3
          · have := hf1 x hm; omega
          · exact h3
      · rw [if_neg hx]
        congr 1
        rw [Bool.eq_iff_iff, Hyp.subB_iff, Hyp.subB_iff, e1]
        constructor
        · intro hs x hm
          exact List.mem_cons_of_mem _ (hs x hm)
        · intro hs x hm
          rcases List.mem_cons.1 (hs x hm) with h3 | h3
          · exfalso
            rw [f1] at hm hs
            rcases List.mem_cons.1 hm with h4 | h4
            · omega
            · have h5 := hf1 x h4
              rcases List.mem_cons.1 (hs f[j] List.mem_cons_self) with h6 | h6
              · omega
              · have := he1 _ h6; omega
          · exact h3
    · have hj' : j = f.length := by omega
      subst hj'
      rw [if_neg (by simp)]
      simp [Hyp.subB]
theorem con_f (e f : List Int) (he : Hyp.Inc e) (hf : Hyp.Inc f) (hE : e.length < 9223372036854775807) (hF : f.length < 9223372036854775807) (k : Nat) (hk : 2 * e.length + 1 < k) :
    cleanseref27_Contains.f k e f = some (Hyp.subB f e) := con_l0 e f he hf hE hF e.length 0 0 (by omega) (by omega) k hk
theorem ins_inc {S : List Int} (hS : Hyp.Inc S) {j : Nat} {x : Int} (hlo : ∀ y ∈ S.take j, y < x) (hhi : ∀ y ∈ S.drop j, x < y) : Hyp.Inc (S.take j ++ [x] ++ S.drop j) := by
  have h := hS
  unfold Hyp.Inc at h ⊢
  rw [← List.take_append_drop j S] at h
  obtain ⟨h1, h2, h3⟩ := List.pairwise_append.1 h
  refine List.pairwise_append.2 ⟨List.pairwise_append.2 ⟨h1, List.pairwise_singleton _ _, fun a ha b hb => ?_⟩, h2, fun a ha b hb => ?_⟩
  · rw [List.mem_singleton.1 hb]; exact hlo a ha
  · rcases List.mem_append.1 ha with ha | ha
    · exact h3 a ha b hb
    · rw [List.mem_singleton.1 ha]; exact hhi b hb
theorem ins_mem (S : List Int) (j : Nat) (x y : Int) : y ∈ S.take j ++ [x] ++ S.drop j ↔ y = x ∨ y ∈ S := by
  have h : y ∈ S ↔ y ∈ S.take j ∨ y ∈ S.drop j := by
    rw [← List.mem_append, List.take_append_drop]
  rw [List.mem_append, List.mem_append, List.mem_singleton, h]
  constructor
  · rintro ((a | a) | a)
    · exact .inr (.inl a)
    · exact .inl a
    · exact .inr (.inr a)
  · rintro (a | a | a)
    · exact .inl (.inr a)
    · exact .inl (.inl a)
    · exact .inr a
theorem ins_len (S : List Int) (j : Nat) (x : Int) : (S.take j ++ [x] ++ S.drop j).length = S.length + 1 := by
  simp only [List.length_append, List.length_take, List.length_drop, List.length_singleton]; omega
theorem set_l1 (xs S : List Int) (i : Nat) (hi : i < xs.length) (hL : xs.length ≤ 1000000) (hS : Hyp.Inc S) (hSl : S.length ≤ 2000000) (r : List Int)
    (h0 : ∀ T, Hyp.Inc T → (∀ y, y ∈ T ↔ y = xs[i] ∨ y ∈ S) → T.length ≤ S.length + 1 → ∃ K, ∀ k, K ≤ k → cleanseref27_Set.l0 k xs T ((i + 1 : Nat) : Int) = some r) :
    ∀ (d j : Nat), j + d = S.length → (∀ y ∈ S.take j, y < xs[i]) → ∃ K, ∀ k, K ≤ k → cleanseref27_Set.l1 k xs S (i : Int) (j : Int) = some r := by
  intro d
  induction d with
  | zero =>
    intro j hj hlo
    obtain ⟨K, hK⟩ := h0 (S.take j ++ [xs[i]] ++ S.drop j) (ins_inc hS hlo (by rw [List.drop_eq_nil_of_le (by omega)]; simp)) (ins_mem S j xs[i]) (by rw [ins_len]; omega)
    refine ⟨K + 1, fun k hk => ?_⟩
    obtain ⟨k, rfl⟩ : ∃ j, k = j + 1 := ⟨k - 1, by omega⟩
    rw [cleanseref27_Set.l1, if_neg (by omega)]
    simp only [Option.bind_some, Int.toNat_natCast, List.nil_append]
    rw [if_pos (by omega), if_pos (by omega), if_pos (by simp; omega), if_pos (by omega), if_pos (by omega), if_pos (by simp; omega), if_pos (by simp; omega), rd_nat xs hi, wrap_nat (by omega)]
    exact hK k (by omega)
  | succ d ih =>
    intro j hj hlo
    have hjl : j < S.length := by omega
    have hd := List.drop_eq_getElem_cons hjl
    have hInc : Hyp.Inc (S.drop j) := hS.sublist (List.drop_sublist _ _)
    rw [hd] at hInc
    obtain ⟨hd1, hd2⟩ := List.pairwise_cons.1 hInc
    by_cases h1 : S[j] < xs[i]
    · obtain ⟨K, hK⟩ := ih (j + 1) (by omega) (fun y hy => by
        rw [List.take_succ_eq_append_getElem hjl] at hy
        rcases List.mem_append.1 hy with hy | hy
        · exact hlo y hy
        · rw [List.mem_singleton.1 hy]; exact h1)
      refine ⟨K + 1, fun k hk => ?_⟩
      obtain ⟨k, rfl⟩ : ∃ j, k = j + 1 := ⟨k - 1, by omega⟩
      rw [cleanseref27_Set.l1, if_pos (by omega), if_pos (by omega), if_pos (by omega), if_pos (by omega), rd_nat xs hi, rd_nat S hjl, if_pos h1, wrap_nat (by omega)]
      exact hK k (by omega)
    by_cases h2 : S[j] = xs[i]
    · obtain ⟨K, hK⟩ := h0 S hS (fun y => ⟨.inr, fun h => by
        rcases h with rfl | h
        · rw [← h2]; exact List.getElem_mem hjl
        · exact h⟩) (by omega)
      refine ⟨K + 1, fun k hk => ?_⟩
      obtain ⟨k, rfl⟩ : ∃ j, k = j + 1 := ⟨k - 1, by omega⟩
      rw [cleanseref27_Set.l1, if_pos (by omega), if_pos (by omega), if_pos (by omega), if_pos (by omega), rd_nat xs hi, rd_nat S hjl, if_neg h1, if_pos h2, wrap_nat (by omega)]
      exact hK k (by omega)
    · obtain ⟨K, hK⟩ := h0 (S.take j ++ [xs[i]] ++ S.drop j) (ins_inc hS hlo (by
        rw [hd]
        intro y hy
        rcases List.mem_cons.1 hy with rfl | hy
        · omega
        · have := hd1 y hy; omega)) (ins_mem S j xs[i]) (by rw [ins_len]; omega)
      refine ⟨K + 1, fun k hk => ?_⟩
      obtain ⟨k, rfl⟩ : ∃ j, k = j + 1 := ⟨k - 1, by omega⟩
      rw [cleanseref27_Set.l1, if_pos (by omega), if_pos (by omega), if_pos (by omega), if_pos (by omega), rd_nat xs hi, rd_nat S hjl, if_neg h1, if_neg h2]
      simp only [Option.bind_some, Int.toNat_natCast, List.nil_append]
      rw [if_pos (by omega), if_pos (by simp; omega), if_pos (by simp; omega), if_pos (by simp; omega), wrap_nat (by omega)]
      exact hK k (by omega)
theorem set_l0 (xs : List Int) (hL : xs.length ≤ 1000000) : ∀ (m i : Nat) (S : List Int), i + m = xs.length → Hyp.Inc S → S.length + m ≤ 1000000 →
    ∃ K, ∀ k, K ≤ k → cleanseref27_Set.l0 k xs S (i : Int) = some (Hyp.setOf (S ++ xs.drop i)) := by
  intro m
  induction m with
  | zero =>
    intro i S hi hS hSl
    refine ⟨1, fun k hk => ?_⟩
    obtain ⟨k, rfl⟩ : ∃ j, k = j + 1 := ⟨k - 1, by omega⟩
    rw [cleanseref27_Set.l0, if_neg (by omega), List.drop_eq_nil_of_le (by omega), List.append_nil, Hyp.setOf_of_inc hS]
  | succ m ih =>
    intro i S hi hS hSl
    have hlt : i < xs.length := by omega
    obtain ⟨K, hK⟩ := set_l1 xs S i hlt hL hS (by omega) (Hyp.setOf (S ++ xs.drop i)) (fun T hT hm hl => by
      obtain ⟨K, hK⟩ := ih (i + 1) T (by omega) hT (by omega)
      refine ⟨K, fun k hk => ?_⟩
      rw [hK k hk]
      refine congrArg some (Hyp.inc_ext (Hyp.setOf_inc _) (Hyp.setOf_inc _) fun y => ?_)
      rw [Hyp.mem_setOf, Hyp.mem_setOf, List.mem_append, List.mem_append, hm, List.drop_eq_getElem_cons hlt, List.mem_cons]
      constructor
      · rintro ((a | a) | a)
        · exact .inr (.inl a)
        · exact .inl a
        · exact .inr (.inr a)
      · rintro (a | a | a)
        · exact .inl (.inr a)
        · exact .inl (.inl a)
        · exact .inr a) S.length 0 (by omega) (by simp)
    refine ⟨K + 1, fun k hk => ?_⟩
    obtain ⟨k, rfl⟩ : ∃ j, k = j + 1 := ⟨k - 1, by omega⟩
    rw [cleanseref27_Set.l0, if_pos (by omega)]
    exact hK k (by omega)
theorem set_f (xs : List Int) (hL : xs.length ≤ 1000000) : ∃ K, ∀ k, K ≤ k → cleanseref27_Set.f k xs = some (Hyp.setOf xs) := by
  obtain ⟨K, hK⟩ := set_l0 xs hL xs.length 0 [] (by omega) List.Pairwise.nil (by simpa using hL)
  exact ⟨K, hK⟩
theorem free_l0 (es : List (List Int)) (s : List Int) (hs : Hyp.Inc s) (hsl : s.length ≤ 1000000) (he : ∀ e ∈ es, Hyp.Inc e ∧ e.length ≤ 1000000) (hL : es.length ≤ 9223372036854775807) : ∀ (m i : Nat), i + m = es.length → ∀ k, m + 2 * s.length + 2 < k →
    cleanseref27_Free.l0 k es s (i : Int) = some ((es.drop i).all fun e => e.isEmpty || !Hyp.subB e s) := by
  intro m
  induction m with
  | zero =>
    intro i hi k hk
    obtain ⟨k, rfl⟩ : ∃ j, k = j + 1 := ⟨k - 1, by omega⟩
    rw [cleanseref27_Free.l0, if_neg (by omega), List.drop_eq_nil_of_le (by omega)]
    rfl
  | succ m ih =>
    intro i hi k hk
    obtain ⟨k, rfl⟩ : ∃ j, k = j + 1 := ⟨k - 1, by omega⟩
    have hlt : i < es.length := by omega
    have hi' := he es[i] (List.getElem_mem hlt)
    rw [cleanseref27_Free.l0, if_pos (by omega), if_pos (by omega), rdL1_nat es hlt, wrap_nat (by omega), ih (i + 1) (by omega) k (by omega), List.drop_eq_getElem_cons hlt, List.all_cons, con_f s es[i] hs hi'.1 (by omega) (by omega) k (by omega)]
    by_cases h : es[i] = []
    · rw [h, if_neg (by decide)]; rfl
    · have hp := List.length_pos_iff.2 h
      have h3 : es[i].isEmpty = false := by simpa using h
      rw [if_pos (by omega), h3, Option.bind_some]
      cases hb : Hyp.subB es[i] s
      · rw [if_neg (by decide)]; rfl
      · rw [if_pos rfl]; rfl
theorem free_f (es : List (List Int)) (s : List Int) (hs : Hyp.Inc s) (hsl : s.length ≤ 1000000) (he : ∀ e ∈ es, Hyp.Inc e ∧ e.length ≤ 1000000) (hL : es.length ≤ 9223372036854775807) (k : Nat) (hk : es.length + 2 * s.length + 2 < k) :
    cleanseref27_Free.f k es s = some (es.all fun e => e.isEmpty || !Hyp.subB e s) := free_l0 es s hs hsl he hL es.length 0 (by omega) k hk
theorem small_f (n : Int) (c : List Int) (xs : List (List Int)) (a b : Int) (hL : xs.length ≤ 9223372036854775807) (k : Nat) (hk : xs.length < k) :
    cleanseref27_Small.f k n c xs a b = some (decide (n ≤ a) && (decide ((c.length : Int) ≤ a) && ((xs.all fun e => decide (e.length ≤ 10)) && decide ((xs.length : Int) ≤ b)))) := by
  unfold cleanseref27_Small.f
  by_cases h1 : n ≤ a
  · rw [if_pos h1, decide_eq_true h1, Bool.true_and]
    by_cases h2 : (c.length : Int) ≤ a
    · rw [if_pos h2, decide_eq_true h2, Bool.true_and, few_f xs b hL k hk, Option.bind_some]
    · rw [if_neg h2, decide_eq_false h2, Bool.false_and]
  · rw [if_neg h1, decide_eq_false h1, Bool.false_and]
theorem in_l0 (l : List Int) (n : Int) (hL : l.length ≤ 9223372036854775807) : ∀ (m i : Nat), i + m = l.length → ∀ k, m < k →
    cleanseref27_In.l0 k l n (i : Int) = some (decide (n ∈ l.drop i)) := by
  intro m
  induction m with
  | zero =>
    intro i hi k hk
    obtain ⟨k, rfl⟩ : ∃ j, k = j + 1 := ⟨k - 1, by omega⟩
    rw [cleanseref27_In.l0, if_neg (by omega), List.drop_eq_nil_of_le (by omega)]
    simp
  | succ m ih =>
    intro i hi k hk
    obtain ⟨k, rfl⟩ : ∃ j, k = j + 1 := ⟨k - 1, by omega⟩
    have hlt : i < l.length := by omega
    rw [cleanseref27_In.l0, if_pos (by omega), if_pos (by omega), rd_nat l hlt, wrap_nat (by omega), ih (i + 1) (by omega) k (by omega), List.drop_eq_getElem_cons hlt]
    by_cases h : l[i] = n
    · rw [if_pos h, decide_eq_true (by rw [h]; exact List.mem_cons_self)]
    · rw [if_neg h]
      simp only [List.mem_cons, show ¬ n = l[i] from fun e => h e.symm, false_or]
theorem in_f (l : List Int) (n : Int) (hL : l.length ≤ 9223372036854775807) (k : Nat) (hk : l.length < k) : cleanseref27_In.f k l n = some (decide (n ∈ l)) := in_l0 l n hL l.length 0 (by omega) k hk
theorem inc_two (a b : Int) (r : List Int) : Hyp.Inc (a :: b :: r) ↔ a < b ∧ Hyp.Inc (b :: r) := by
  unfold Hyp.Inc
  constructor
  · intro h
    obtain ⟨h1, h2⟩ := List.pairwise_cons.1 h
    exact ⟨h1 b List.mem_cons_self, h2⟩
  · rintro ⟨h1, h2⟩
    refine List.pairwise_cons.2 ⟨fun x hx => ?_, h2⟩
    rcases List.mem_cons.1 hx with e | e
    · omega
    · have := (List.pairwise_cons.1 h2).1 x e; omega
theorem increasing_l0 (l : List Int) (hL : l.length ≤ 9223372036854775807) : ∀ (m i : Nat), i + 1 + m = l.length → ∀ k, m < k →
    cleanseref27_Increasing.l0 k l ((i + 1 : Nat) : Int) = some (decide (Hyp.Inc (l.drop i))) := by
  intro m
  induction m with
  | zero =>
    intro i hi k hk
    obtain ⟨k, rfl⟩ : ∃ j, k = j + 1 := ⟨k - 1, by omega⟩
    have hlt : i < l.length := by omega
    rw [cleanseref27_Increasing.l0, if_neg (by omega), List.drop_eq_getElem_cons hlt, List.drop_eq_nil_of_le (by omega), decide_eq_true (p := Hyp.Inc _) (List.pairwise_singleton _ _)]
  | succ m ih =>
    intro i hi k hk
    obtain ⟨k, rfl⟩ : ∃ j, k = j + 1 := ⟨k - 1, by omega⟩
    have hlt : i < l.length := by omega
    have hlt1 : i + 1 < l.length := by omega
    have e0 : wrap64 (((i + 1 : Nat) : Int) - 1) = (i : Int) := by rw [wrap_small (by omega) (by omega)]; omega
    have h0 := ih (i + 1) (by omega) k (by omega)
    rw [cleanseref27_Increasing.l0, e0, if_pos (by omega), if_pos (by omega), if_pos (by omega), if_pos (by omega), rd_nat l hlt, rd_nat l hlt1, wrap_nat (by omega), h0, List.drop_eq_getElem_cons hlt, List.drop_eq_getElem_cons hlt1]
    by_cases h : l[i] < l[i + 1]
    · rw [if_neg (by omega)]
      congr 1
      rw [Bool.eq_iff_iff, decide_eq_true_eq, decide_eq_true_eq, inc_two]
      exact ⟨fun hh => ⟨h, hh⟩, fun hh => hh.2⟩
    · rw [if_pos (by omega), decide_eq_false]
      intro hh
      exact h ((inc_two _ _ _).1 hh).1
theorem increasing_f (l : List Int) (hL : l.length ≤ 9223372036854775807) (k : Nat) (hk : l.length < k) : cleanseref27_Increasing.f k l = some (decide (Hyp.Inc l)) := by
  unfold cleanseref27_Increasing.f
  cases l with
  | nil =>
    obtain ⟨k, rfl⟩ : ∃ j, k = j + 1 := ⟨k - 1, by omega⟩
    rw [cleanseref27_Increasing.l0, if_neg (by simp), decide_eq_true (p := Hyp.Inc _) List.Pairwise.nil]
  | cons x l =>
    simp only [List.length_cons] at hk
    exact increasing_l0 (x :: l) hL l.length 0 (by simp; omega) k (by omega)
theorem vertices_f (l : List Int) (n : Int) (hL : l.length ≤ 9223372036854775807) (k : Nat) (hk : l.length < k) : cleanseref27_Vertices.f k l n = some (Hyp.isSetB l n) := by
  unfold cleanseref27_Vertices.f
  rw [increasing_f l hL k hk, Option.bind_some]
  by_cases hi : Hyp.Inc l
  · rw [if_pos (by simpa using hi)]
    by_cases h0 : l.length = 0
    · rw [if_pos (by omega)]
      have : l = [] := List.eq_nil_of_length_eq_zero h0
      subst this; rfl
    · have hp : 0 < l.length := by omega
      have e0 : wrap64 ((l.length : Int) - 1) = ((l.length - 1 : Nat) : Int) := by rw [wrap_small (by omega) (by omega)]; omega
      have r0 : rd l 0 = l[0] := rd_nat l hp
      rw [if_neg (by omega), if_pos (by omega), r0, e0, if_pos (show (0 : Int) ≤ ((l.length - 1 : Nat) : Int) by omega), if_pos (show ((l.length - 1 : Nat) : Int) < (l.length : Int) by omega), rd_nat l (by omega)]
      have key : Hyp.isSetB l n = true ↔ l[0] ≥ 0 ∧ l[l.length - 1] < n := by
        rw [Hyp.isSetB_iff]
        constructor
        · rintro ⟨h1, _⟩
          exact ⟨(h1 _ (List.getElem_mem hp)).1, (h1 _ (List.getElem_mem (by omega))).2⟩
        · rintro ⟨h1, h2⟩
          refine ⟨fun x hx => ?_, hi⟩
          obtain ⟨j, hj, rfl⟩ := List.mem_iff_getElem.1 hx
          have a1 : l[0] ≤ l[j] := by
            rcases Nat.eq_zero_or_pos j with e | e
            · subst e; exact Int.le_refl _
            · exact Int.le_of_lt (List.pairwise_iff_getElem.1 hi 0 j hp hj e)
          have a2 : l[j] ≤ l[l.length - 1] := by
            by_cases e : j = l.length - 1
            · subst e; exact Int.le_refl _
            · exact Int.le_of_lt (List.pairwise_iff_getElem.1 hi j (l.length - 1) hj (by omega) (by omega))
          omega
      by_cases h1 : l[0] ≥ 0
      · rw [if_pos h1]
        congr 1
        rw [Bool.eq_iff_iff, decide_eq_true_eq, key]
        exact ⟨fun h => ⟨h1, h⟩, fun h => h.2⟩
      · rw [if_neg h1]
        congr 1
        rw [Bool.eq_iff_iff, key]
        exact ⟨fun h => (by cases h), fun h => absurd h.1 h1⟩
  · rw [if_neg (by simpa using hi)]
    congr 1
    rw [Bool.eq_iff_iff, Hyp.isSetB_iff]
    exact ⟨fun h => (by cases h), fun h => absurd h.2 hi⟩
end Hy
end Go.Proofs.YtgjbnmobhafajaaDoor
end
