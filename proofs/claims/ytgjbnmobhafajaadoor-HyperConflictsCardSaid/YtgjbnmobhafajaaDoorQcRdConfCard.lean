/- Proved: called with any number, costs, edges and set that can be read as data, with the three library tables reading as the program's text lays them, HyperConflicts returns true and changes nothing that was there before (no further condition). -/
import Derived.Test.YtgjbnmobhafajaaDoorQcKaOpen
import Derived.Test.YtgjbnmobhafajaaDoorQcHyConf
import Derived.SevenTiedAt
import Derived.ChangeSame
import Derived.RowKitTokens
import Derived.Test.YtgjbnmobhafajaaDoorQcRf
import Derived.Test.YtgjbnmobhafajaaDoorTie
import Derived.Test.YtgjbnmobhafajaaDoorCards
set_option linter.unusedVariables false
set_option linter.unusedSimpArgs false
section
namespace Go.Proofs.YtgjbnmobhafajaaDoor
open Go Go.ChangeShapes Go.WideShapes Go.ChangeAt Go.RowKit Go.Proofs.YtgjbnmobhafajaaDoorW.PrintWords Go.Proofs.YtgjbnmobhafajaaDoorW.PrintLast
def HyperConflictsPure : Prop := ∀ (n0 : Int) (l1 : List Int) (l2 : List (List Int)) (l3 : List Int), -9223372036854775808 ≤ n0 ∧ n0 ≤ 9223372036854775807 → WfL l1 → l1.length ≤ 9223372036854775807 → (∀ e ∈ l2, WfL e) → l2.length ≤ 9223372036854775807 → WfL l3 → l3.length ≤ 9223372036854775807 →
  ∃ k, Hy.cleanselaw27_HyperConflicts.f k n0 l1 l2 l3 = some true
set_option maxRecDepth 1000000 in
theorem hyperConflicts_lifted (P : HyperConflictsPure) (os : Os) (started : os.Started) (H : Type) (enc : TypeId × Value → H) :
    ReturnsInHanded {} Tryd.checked os 4 .any (fun w args => (Rows.hyperConflictsSpec.pre enc Tryd.prog Tryd.f4 Rows.hyperConflictsRow.domain false w args ∧ laidMet Tryd.prog Rows.hyperConflictsRow.laid w) ∧ sizedMet enc Tryd.prog Tryd.f4 (OpenSpec.ofChange Rows.hyperConflictsSpec) false w args)
      (Rows.hyperConflictsSpec.post enc Tryd.prog Tryd.f4 false true false false) := by
  refine returnsInHanded_of_change_and (C := Tryd.checked) (X := fun w _ => laidMet Tryd.prog Rows.hyperConflictsRow.laid w) (fun _ _ _ hh h => h.of_heap hh) ownK started (by kernel_rfl) Tryd.func4
    (ChangeSpec.witness_at (enc := enc) (C := Tryd.checked) (os := os) (X := fun w _ => laidMet Tryd.prog Rows.hyperConflictsRow.laid w) false (laidWorld os) #[.int .i64 0, .slice none 0 0, .slice none 0 0, .slice none 0 0] 80 rfl (by kernel_rfl) (by kernel_rfl) (by kernel_rfl) (by kernel_rfl) (by kernel_rfl) (laidWorld_met os _)) ?_
  intro W base args ds gs before hval0 hW _ _ _ _
  have hval : ∀ (j : Nat) t v, Tryd.f4.params[j]? = some t → args[j]? = some v → Value.okWide Tryd.prog W .any base t v := hval0
  have hW' := hW
  obtain ⟨p, q, hA0, hV, rfl, hfz, hnd⟩ := hW
  have hA : DataW.TrodAll enc Tryd.prog W 0 (fun _ => true) true Tryd.f4.params.toList args.toList ds p := hA0
  rw [Tryd.params4] at hA hval
  obtain ⟨v0, vs0, d0, ds0, p0, q0, hargs, rfl, rfl, h0, r0⟩ := trodAll_cons hA
  obtain ⟨v1, vs1, d1, ds1, p1, q1, rfl, rfl, rfl, h1, r1⟩ := trodAll_cons r0
  obtain ⟨v2, vs2, d2, ds2, p2, q2, rfl, rfl, rfl, h2, r2⟩ := trodAll_cons r1
  obtain ⟨v3, vs3, d3, ds3, p3, q3, rfl, rfl, rfl, h3, r3⟩ := trodAll_cons r2
  obtain ⟨rfl, rfl, rfl⟩ := trodAll_nil r3
  obtain rfl : args = #[v0, v1, v2, v3] := by cases args; simp_all
  obtain ⟨rfl, rfl⟩ := trodVars_none hV
  obtain ⟨n0, rfl, rfl, rfl, wn0⟩ := open_int Tryd.underlying3 (hval 0 3 v0 rfl rfl) h0
  have lt1 : ∀ x ∈ p1, x.block < W.heap.size := by obtain ⟨m, hm⟩ := h1; exact DataW.trod_lt m _ _ _ hm
  obtain ⟨x1, y1, z1, rfl⟩ := okWide_slice Tryd.underlying27 (hval 1 27 v1 rfl rfl)
  have k1 := h1
  obtain ⟨f1, g1⟩ := h1
  obtain ⟨A1, c1, l1, e1, hc1, hC1, hw1⟩ := open_rowI (v := .slice x1 y1 z1) g1
  obtain ⟨rfl, rfl, rfl⟩ : x1 = A1 ∧ y1 = l1.length ∧ z1 = c1 := by simpa using e1
  have lt2 : ∀ x ∈ p2, x.block < W.heap.size := by obtain ⟨m, hm⟩ := h2; exact DataW.trod_lt m _ _ _ hm
  obtain ⟨x2, y2, z2, rfl⟩ := okWide_slice Tryd.underlying22 (hval 2 22 v2 rfl rfl)
  have k2 := h2
  obtain ⟨f2, g2⟩ := h2
  obtain ⟨A2, c2, l2, e2, hc2, hC2, hw2⟩ := open_rowsI (v := .slice x2 y2 z2) g2
  obtain ⟨rfl, rfl, rfl⟩ : x2 = A2 ∧ y2 = l2.length ∧ z2 = c2 := by simpa using e2
  have lt3 : ∀ x ∈ p3, x.block < W.heap.size := by obtain ⟨m, hm⟩ := h3; exact DataW.trod_lt m _ _ _ hm
  obtain ⟨x3, y3, z3, rfl⟩ := okWide_slice Tryd.underlying27 (hval 3 27 v3 rfl rfl)
  have k3 := h3
  obtain ⟨f3, g3⟩ := h3
  obtain ⟨A3, c3, l3, e3, hc3, hC3, hw3⟩ := open_rowI (v := .slice x3 y3 z3) g3
  obtain ⟨rfl, rfl, rfl⟩ : x3 = A3 ∧ y3 = l3.length ∧ z3 = c3 := by simpa using e3
  obtain ⟨k, hk⟩ := P n0 l1 l2 l3 (bounds_i64 wn0) hw1 hC1.2.1 hw2 hC2.2.1 hw3 hC3.2.1
  refine (Hy.cleanselaw27_HyperConflicts.calls k n0 x1 z1 l1 x2 z2 l2 x3 z3 l3 true W hC1 hc1 hC2 hc2 hC3 hc3 hk).mono fun e W' ⟨he, bel⟩ => ?_
  subst he
  exact ⟨_, rfl, _, _, _, [], _, [], hW', trodAll_mk1 (shut_bool Tryd.underlying4 _), trodAll_cons_mk (shut_int Tryd.underlying3 wn0) (trodAll_cons_mk (Below.trod laidOut (by kernel_rfl) (of_decide_eq_true (by kernel_rfl)) k1 bel lt1) (trodAll_cons_mk (Below.trod laidOut (by kernel_rfl) (of_decide_eq_true (by kernel_rfl)) k2 bel lt2) (trodAll_cons_mk (Below.trod laidOut (by kernel_rfl) (of_decide_eq_true (by kernel_rfl)) k3 bel lt3) trodAll_mk0))), rfl, bel.frame _, fun h => by cases h⟩
end Go.Proofs.YtgjbnmobhafajaaDoor
end
section
namespace Go.Proofs.YtgjbnmobhafajaaDoor
open Go Go.RowKit Go.Proofs.YtgjbnmobhafajaaDoorW.PrintWords Go.Proofs.YtgjbnmobhafajaaDoorW.PrintLast
namespace Hy
theorem wrap_nat {i : Nat} (h : i < 9223372036854775807) : wrap64 ((i : Int) + 1) = ((i + 1 : Nat) : Int) := by
  rw [wrap_small (by omega) (by omega)]; omega
theorem rdL1_nat (xs : List (List Int)) {i : Nat} (h : i < xs.length) : rd_L1 xs (i : Int) = xs[i] := by
  simp [rd_L1, List.getD_eq_getElem?_getD, h]
theorem rd_nat (xs : List Int) {i : Nat} (h : i < xs.length) : rd xs (i : Int) = xs[i] := by
  simp [rd, List.getD_eq_getElem?_getD, h]
theorem few_l0 (xs : List (List Int)) (n : Int) (hL : xs.length ≤ 9223372036854775807) : ∀ (m i : Nat), i + m = xs.length → ∀ k, m < k →
    cleanseref27_Few.l0 k xs n (i : Int) = some (((xs.drop i).all fun e => decide (e.length ≤ 10)) && decide ((xs.length : Int) ≤ n)) := by
  intro m
  induction m with
  | zero =>
    intro i hi k hk
    obtain ⟨k, rfl⟩ : ∃ j, k = j + 1 := ⟨k - 1, by omega⟩
    rw [cleanseref27_Few.l0, if_neg (by omega), List.drop_eq_nil_of_le (by omega)]
    simp
  | succ m ih =>
    intro i hi k hk
    obtain ⟨k, rfl⟩ : ∃ j, k = j + 1 := ⟨k - 1, by omega⟩
    have hlt : i < xs.length := by omega
    rw [cleanseref27_Few.l0, if_pos (by omega), if_pos (by omega), rdL1_nat xs hlt, wrap_nat (by omega), ih (i + 1) (by omega) k (by omega), List.drop_eq_getElem_cons hlt]
    by_cases h : ((xs[i].length : Nat) : Int) > 10
    · rw [if_pos h, List.all_cons, decide_eq_false (p := xs[i].length ≤ 10) (by omega)]; rfl
    · rw [if_neg h, List.all_cons, decide_eq_true (p := xs[i].length ≤ 10) (by omega), Bool.true_and]
theorem few_f (xs : List (List Int)) (n : Int) (hL : xs.length ≤ 9223372036854775807) (k : Nat) (hk : xs.length < k) :
    cleanseref27_Few.f k xs n = some ((xs.all fun e => decide (e.length ≤ 10)) && decide ((xs.length : Int) ≤ n)) := few_l0 xs n hL xs.length 0 (by omega) k hk
theorem ints_l0 (xs ys : List Int) (hl : xs.length = ys.length) (hL : xs.length ≤ 9223372036854775807) : ∀ (m i : Nat), i + m = xs.length → ∀ k, m < k →
    cleanseref06_Ints.l0 k xs ys (i : Int) = some (decide (xs.drop i = ys.drop i)) := by
  intro m
  induction m with
  | zero =>
    intro i hi k hk
    obtain ⟨k, rfl⟩ : ∃ j, k = j + 1 := ⟨k - 1, by omega⟩
    rw [cleanseref06_Ints.l0, if_neg (by omega), List.drop_eq_nil_of_le (by omega), List.drop_eq_nil_of_le (by omega)]
    simp
  | succ m ih =>
    intro i hi k hk
    obtain ⟨k, rfl⟩ : ∃ j, k = j + 1 := ⟨k - 1, by omega⟩
    have hlt : i < xs.length := by omega
    have hlt' : i < ys.length := by omega
    rw [cleanseref06_Ints.l0, if_pos (by omega), if_pos (by omega), if_pos (by omega), rd_nat xs hlt, rd_nat ys hlt', wrap_nat (by omega), ih (i + 1) (by omega) k (by omega), List.drop_eq_getElem_cons hlt, List.drop_eq_getElem_cons hlt']
    by_cases h : xs[i] = ys[i]
    · rw [if_pos h, h]; simp only [List.cons.injEq, true_and]
    · rw [if_neg h, decide_eq_false]; intro e; exact h (List.cons.inj e).1
theorem ints_f (xs ys : List Int) (hL : xs.length ≤ 9223372036854775807) (k : Nat) (hk : xs.length < k) :
    cleanseref06_Ints.f k xs ys = some (decide (xs = ys)) := by
  unfold cleanseref06_Ints.f
  by_cases h : xs.length = ys.length
  · rw [if_pos (by omega)]
    exact ints_l0 xs ys h hL xs.length 0 (by omega) k hk
  · rw [if_neg (by omega), decide_eq_false (fun e => h (by rw [e]))]
theorem con_l0 (e f : List Int) (he : Hyp.Inc e) (hf : Hyp.Inc f) (hE : e.length < 9223372036854775807) (hF : f.length < 9223372036854775807) : ∀ (m i j : Nat), i + m = e.length → j ≤ f.length → ∀ k, 2 * m + 1 < k →
    cleanseref27_Contains.l0 k e f (j : Int) (i : Int) = some (Hyp.subB (f.drop j) (e.drop i)) := by
  intro m
  induction m with
  | zero =>
    intro i j hi hj k hk
    obtain ⟨k, rfl⟩ : ∃ j, k = j + 2 := ⟨k - 2, by omega⟩
    rw [cleanseref27_Contains.l0, if_neg (by omega), cleanseref27_Contains.j1, if_neg (by decide), show List.drop i e = [] from List.drop_eq_nil_of_le (by omega)]
    by_cases h : j = f.length
    · subst h; simp [Hyp.subB]
    · have hlt : j < f.length := by omega
      rw [List.drop_eq_getElem_cons hlt]
      have : ((j : Int) == (f.length : Int)) = false := by simp; omega
      rw [this]; simp [Hyp.subB, -List.getElem_cons_drop]
  | succ m ih =>
    intro i j hi hj k hk
    obtain ⟨k, rfl⟩ : ∃ j, k = j + 2 := ⟨k - 2, by omega⟩
    have hlt : i < e.length := by omega
    rw [cleanseref27_Contains.l0, if_pos (by omega), cleanseref27_Contains.j1]
    by_cases h : j < f.length
    · rw [if_pos (by simp; omega), if_pos (by omega), if_pos (by omega), if_pos (by omega), if_pos (by omega), rd_nat e hlt, rd_nat f h, wrap_nat (by omega), wrap_nat (by omega), ih (i + 1) (j + 1) (by omega) (by omega) k (by omega), ih (i + 1) j (by omega) (by omega) k (by omega)]
      have e1 := List.drop_eq_getElem_cons hlt
      have f1 := List.drop_eq_getElem_cons h
      have he' : Hyp.Inc (e.drop i) := he.sublist (List.drop_sublist _ _)
      have hf' : Hyp.Inc (f.drop j) := hf.sublist (List.drop_sublist _ _)
      rw [e1] at he'
      rw [f1] at hf'
      obtain ⟨he1, he2⟩ := List.pairwise_cons.1 he'
      obtain ⟨hf1, hf2⟩ := List.pairwise_cons.1 hf'
      by_cases hx : e[i] = f[j]
      · rw [if_pos hx]
        congr 1
        rw [Bool.eq_iff_iff, Hyp.subB_iff, Hyp.subB_iff, e1, f1]
        constructor
        · intro hs x hm
          rcases List.mem_cons.1 hm with rfl | hm
          · rw [hx]; exact List.mem_cons_self
          · exact List.mem_cons_of_mem _ (hs x hm)
        · intro hs x hm
          rcases List.mem_cons.1 (hs x (List.mem_cons_of_mem _ hm)) with h3 | h3
          · have := hf1 x hm; omega
          · exact h3
      · rw [if_neg hx]
        congr 1
        rw [Bool.eq_iff_iff, Hyp.subB_iff, Hyp.subB_iff, e1]
        constructor
        · intro hs x hm
          exact List.mem_cons_of_mem _ (hs x hm)
        · intro hs x hm
          rcases List.mem_cons.1 (hs x hm) with h3 | h3
          · exfalso
            rw [f1] at hm hs
            rcases List.mem_cons.1 hm with h4 | h4
            · omega
            · have h5 := hf1 x h4
              rcases List.mem_cons.1 (hs f[j] List.mem_cons_self) with h6 | h6
              · omega
              · have := he1 _ h6; omega
          · exact h3
    · have hj' : j = f.length := by omega
      subst hj'
      rw [if_neg (by simp)]
      simp [Hyp.subB]
theorem con_f (e f : List Int) (he : Hyp.Inc e) (hf : Hyp.Inc f) (hE : e.length < 9223372036854775807) (hF : f.length < 9223372036854775807) (k : Nat) (hk : 2 * e.length + 1 < k) :
    cleanseref27_Contains.f k e f = some (Hyp.subB f e) := con_l0 e f he hf hE hF e.length 0 0 (by omega) (by omega) k hk
theorem ins_inc {S : List Int} (hS : Hyp.Inc S) {j : Nat} {x : Int} (hlo : ∀ y ∈ S.take j, y < x) (hhi : ∀ y ∈ S.drop j, x < y) : Hyp.Inc (S.take j ++ [x] ++ S.drop j) := by
  have h := hS
  unfold Hyp.Inc at h ⊢
  rw [← List.take_append_drop j S] at h
  obtain ⟨h1, h2, h3⟩ := List.pairwise_append.1 h
  refine List.pairwise_append.2 ⟨List.pairwise_append.2 ⟨h1, List.pairwise_singleton _ _, fun a ha b hb => ?_⟩, h2, fun a ha b hb => ?_⟩
  · rw [List.mem_singleton.1 hb]; exact hlo a ha
  · rcases List.mem_append.1 ha with ha | ha
    · exact h3 a ha b hb
    · rw [List.mem_singleton.1 ha]; exact hhi b hb
theorem ins_mem (S : List Int) (j : Nat) (x y : Int) : y ∈ S.take j ++ [x] ++ S.drop j ↔ y = x ∨ y ∈ S := by
  have h : y ∈ S ↔ y ∈ S.take j ∨ y ∈ S.drop j := by
    rw [← List.mem_append, List.take_append_drop]
  rw [List.mem_append, List.mem_append, List.mem_singleton, h]
  constructor
  · rintro ((a | a) | a)
    · exact .inr (.inl a)
    · exact .inl a
    · exact .inr (.inr a)
  · rintro (a | a | a)
    · exact .inl (.inr a)
    · exact .inl (.inl a)
    · exact .inr a
theorem ins_len (S : List Int) (j : Nat) (x : Int) : (S.take j ++ [x] ++ S.drop j).length = S.length + 1 := by
  simp only [List.length_append, List.length_take, List.length_drop, List.length_singleton]; omega
theorem set_l1 (xs S : List Int) (i : Nat) (hi : i < xs.length) (hL : xs.length ≤ 1000000) (hS : Hyp.Inc S) (hSl : S.length ≤ 2000000) (r : List Int)
    (h0 : ∀ T, Hyp.Inc T → (∀ y, y ∈ T ↔ y = xs[i] ∨ y ∈ S) → T.length ≤ S.length + 1 → ∃ K, ∀ k, K ≤ k → cleanseref27_Set.l0 k xs T ((i + 1 : Nat) : Int) = some r) :
    ∀ (d j : Nat), j + d = S.length → (∀ y ∈ S.take j, y < xs[i]) → ∃ K, ∀ k, K ≤ k → cleanseref27_Set.l1 k xs S (i : Int) (j : Int) = some r := by
  intro d
  induction d with
  | zero =>
    intro j hj hlo
    obtain ⟨K, hK⟩ := h0 (S.take j ++ [xs[i]] ++ S.drop j) (ins_inc hS hlo (by rw [List.drop_eq_nil_of_le (by omega)]; simp)) (ins_mem S j xs[i]) (by rw [ins_len]; omega)
    refine ⟨K + 1, fun k hk => ?_⟩
    obtain ⟨k, rfl⟩ : ∃ j, k = j + 1 := ⟨k - 1, by omega⟩
    rw [cleanseref27_Set.l1, if_neg (by omega)]
    simp only [Option.bind_some, Int.toNat_natCast, List.nil_append]
    rw [if_pos (by omega), if_pos (by omega), if_pos (by simp; omega), if_pos (by omega), if_pos (by omega), if_pos (by simp; omega), if_pos (by simp; omega), rd_nat xs hi, wrap_nat (by omega)]
    exact hK k (by omega)
  | succ d ih =>
    intro j hj hlo
    have hjl : j < S.length := by omega
    have hd := List.drop_eq_getElem_cons hjl
    have hInc : Hyp.Inc (S.drop j) := hS.sublist (List.drop_sublist _ _)
    rw [hd] at hInc
    obtain ⟨hd1, hd2⟩ := List.pairwise_cons.1 hInc
    by_cases h1 : S[j] < xs[i]
    · obtain ⟨K, hK⟩ := ih (j + 1) (by omega) (fun y hy => by
        rw [List.take_succ_eq_append_getElem hjl] at hy
        rcases List.mem_append.1 hy with hy | hy
        · exact hlo y hy
        · rw [List.mem_singleton.1 hy]; exact h1)
      refine ⟨K + 1, fun k hk => ?_⟩
      obtain ⟨k, rfl⟩ : ∃ j, k = j + 1 := ⟨k - 1, by omega⟩
      rw [cleanseref27_Set.l1, if_pos (by omega), if_pos (by omega), if_pos (by omega), if_pos (by omega), rd_nat xs hi, rd_nat S hjl, if_pos h1, wrap_nat (by omega)]
      exact hK k (by omega)
    by_cases h2 : S[j] = xs[i]
    · obtain ⟨K, hK⟩ := h0 S hS (fun y => ⟨.inr, fun h => by
        rcases h with rfl | h
        · rw [← h2]; exact List.getElem_mem hjl
        · exact h⟩) (by omega)
      refine ⟨K + 1, fun k hk => ?_⟩
      obtain ⟨k, rfl⟩ : ∃ j, k = j + 1 := ⟨k - 1, by omega⟩
      rw [cleanseref27_Set.l1, if_pos (by omega), if_pos (by omega), if_pos (by omega), if_pos (by omega), rd_nat xs hi, rd_nat S hjl, if_neg h1, if_pos h2, wrap_nat (by omega)]
      exact hK k (by omega)
    · obtain ⟨K, hK⟩ := h0 (S.take j ++ [xs[i]] ++ S.drop j) (ins_inc hS hlo (by
        rw [hd]
        intro y hy
        rcases List.mem_cons.1 hy with rfl | hy
        · omega
        · have := hd1 y hy; omega)) (ins_mem S j xs[i]) (by rw [ins_len]; omega)
      refine ⟨K + 1, fun k hk => ?_⟩
      obtain ⟨k, rfl⟩ : ∃ j, k = j + 1 := ⟨k - 1, by omega⟩
      rw [cleanseref27_Set.l1, if_pos (by omega), if_pos (by omega), if_pos (by omega), if_pos (by omega), rd_nat xs hi, rd_nat S hjl, if_neg h1, if_neg h2]
      simp only [Option.bind_some, Int.toNat_natCast, List.nil_append]
      rw [if_pos (by omega), if_pos (by simp; omega), if_pos (by simp; omega), if_pos (by simp; omega), wrap_nat (by omega)]
      exact hK k (by omega)
theorem set_l0 (xs : List Int) (hL : xs.length ≤ 1000000) : ∀ (m i : Nat) (S : List Int), i + m = xs.length → Hyp.Inc S → S.length + m ≤ 1000000 →
    ∃ K, ∀ k, K ≤ k → cleanseref27_Set.l0 k xs S (i : Int) = some (Hyp.setOf (S ++ xs.drop i)) := by
  intro m
  induction m with
  | zero =>
    intro i S hi hS hSl
    refine ⟨1, fun k hk => ?_⟩
    obtain ⟨k, rfl⟩ : ∃ j, k = j + 1 := ⟨k - 1, by omega⟩
    rw [cleanseref27_Set.l0, if_neg (by omega), List.drop_eq_nil_of_le (by omega), List.append_nil, Hyp.setOf_of_inc hS]
  | succ m ih =>
    intro i S hi hS hSl
    have hlt : i < xs.length := by omega
    obtain ⟨K, hK⟩ := set_l1 xs S i hlt hL hS (by omega) (Hyp.setOf (S ++ xs.drop i)) (fun T hT hm hl => by
      obtain ⟨K, hK⟩ := ih (i + 1) T (by omega) hT (by omega)
      refine ⟨K, fun k hk => ?_⟩
      rw [hK k hk]
      refine congrArg some (Hyp.inc_ext (Hyp.setOf_inc _) (Hyp.setOf_inc _) fun y => ?_)
      rw [Hyp.mem_setOf, Hyp.mem_setOf, List.mem_append, List.mem_append, hm, List.drop_eq_getElem_cons hlt, List.mem_cons]
      constructor
      · rintro ((a | a) | a)
        · exact .inr (.inl a)
        · exact .inl a
        · exact .inr (.inr a)
      · rintro (a | a | a)
        · exact .inl (.inr a)
        · exact .inl (.inl a)
        · exact .inr a) S.length 0 (by omega) (by simp)
    refine ⟨K + 1, fun k hk => ?_⟩
    obtain ⟨k, rfl⟩ : ∃ j, k = j + 1 := ⟨k - 1, by omega⟩
    rw [cleanseref27_Set.l0, if_pos (by omega)]
    exact hK k (by omega)
theorem set_f (xs : List Int) (hL : xs.length ≤ 1000000) : ∃ K, ∀ k, K ≤ k → cleanseref27_Set.f k xs = some (Hyp.setOf xs) := by
  obtain ⟨K, hK⟩ := set_l0 xs hL xs.length 0 [] (by omega) List.Pairwise.nil (by simpa using hL)
  exact ⟨K, hK⟩
theorem free_l0 (es : List (List Int)) (s : List Int) (hs : Hyp.Inc s) (hsl : s.length ≤ 1000000) (he : ∀ e ∈ es, Hyp.Inc e ∧ e.length ≤ 1000000) (hL : es.length ≤ 9223372036854775807) : ∀ (m i : Nat), i + m = es.length → ∀ k, m + 2 * s.length + 2 < k →
    cleanseref27_Free.l0 k es s (i : Int) = some ((es.drop i).all fun e => e.isEmpty || !Hyp.subB e s) := by
  intro m
  induction m with
  | zero =>
    intro i hi k hk
    obtain ⟨k, rfl⟩ : ∃ j, k = j + 1 := ⟨k - 1, by omega⟩
    rw [cleanseref27_Free.l0, if_neg (by omega), List.drop_eq_nil_of_le (by omega)]
    rfl
  | succ m ih =>
    intro i hi k hk
    obtain ⟨k, rfl⟩ : ∃ j, k = j + 1 := ⟨k - 1, by omega⟩
    have hlt : i < es.length := by omega
    have hi' := he es[i] (List.getElem_mem hlt)
    rw [cleanseref27_Free.l0, if_pos (by omega), if_pos (by omega), rdL1_nat es hlt, wrap_nat (by omega), ih (i + 1) (by omega) k (by omega), List.drop_eq_getElem_cons hlt, List.all_cons, con_f s es[i] hs hi'.1 (by omega) (by omega) k (by omega)]
    by_cases h : es[i] = []
    · rw [h, if_neg (by decide)]; rfl
    · have hp := List.length_pos_iff.2 h
      have h3 : es[i].isEmpty = false := by simpa using h
      rw [if_pos (by omega), h3, Option.bind_some]
      cases hb : Hyp.subB es[i] s
      · rw [if_neg (by decide)]; rfl
      · rw [if_pos rfl]; rfl
theorem free_f (es : List (List Int)) (s : List Int) (hs : Hyp.Inc s) (hsl : s.length ≤ 1000000) (he : ∀ e ∈ es, Hyp.Inc e ∧ e.length ≤ 1000000) (hL : es.length ≤ 9223372036854775807) (k : Nat) (hk : es.length + 2 * s.length + 2 < k) :
    cleanseref27_Free.f k es s = some (es.all fun e => e.isEmpty || !Hyp.subB e s) := free_l0 es s hs hsl he hL es.length 0 (by omega) k hk
end Hy
end Go.Proofs.YtgjbnmobhafajaaDoor
end
section
namespace Go.Proofs.YtgjbnmobhafajaaDoor
open Go Go.RowKit Go.Proofs.YtgjbnmobhafajaaDoorW.PrintWords Go.Proofs.YtgjbnmobhafajaaDoorW.PrintLast
theorem Hyp.setsOf_inc {edges : List (List Int)} {e : List Int} (h : e ∈ Hyp.setsOf edges) : Hyp.Inc e ∧ e ≠ [] := by
  obtain ⟨x, hx, rfl⟩ := List.mem_map.1 h
  have hx2 : x ≠ [] := by simpa using (List.mem_filter.1 hx).2
  refine ⟨Hyp.setOf_inc x, fun e0 => ?_⟩
  have := Hyp.setOf_pos (List.length_pos_iff.2 hx2)
  rw [e0] at this
  simp at this
theorem Hyp.minimal_over (edges : List (List Int)) : ∀ e ∈ Hyp.setsOf edges, ∃ f ∈ Hyp.minimal edges, Hyp.subB f e = true := by
  intro e he
  obtain ⟨f, hf, h⟩ := (Hyp.run_is ((Hyp.setsOf edges).mergeSort fun a b => decide (a.length ≤ b.length))).over e (List.mem_mergeSort.2 he)
  exact ⟨f, List.mem_mergeSort.2 hf, h⟩
theorem Hyp.minimal_among {edges : List (List Int)} {e : List Int} (h : e ∈ Hyp.minimal edges) : e ∈ Hyp.setsOf edges := (((Hyp.minimal_is edges).mem e).1 h).1
theorem Hyp.setsOf_same {E : List (List Int)} (h : ∀ e ∈ E, Hyp.Inc e ∧ e ≠ []) : Hyp.setsOf E = E := by
  unfold Hyp.setsOf
  rw [List.filter_eq_self.2 (fun e he => by simpa using (h e he).2)]
  conv => rhs; rw [← List.map_id E]
  exact List.map_congr_left fun e he => Hyp.setOf_of_inc (h e he).1
theorem Hyp.minimal_idem (edges : List (List Int)) : Hyp.minimal (Hyp.minimal edges) = Hyp.minimal edges := by
  refine (Hyp.minimal_is _).unique ⟨(Hyp.minimal_is edges).sorted, fun e => ?_⟩
  rw [Hyp.setsOf_same (fun e he => Hyp.setsOf_inc (Hyp.minimal_among he))]
  refine ⟨fun h => ⟨h, fun f hf hs => (((Hyp.minimal_is edges).mem e).1 h).2 f (Hyp.minimal_among hf) hs⟩, fun h => h.1⟩
theorem Hyp.make_valid {n : Int} {cost : List Int} {edges : List (List Int)} (hw : Hyp.weighedB n cost = true) (hb : edges.any (Hyp.badEdge n) = false) (hl : (Hyp.minimal edges).length ≤ 20000) : Hyp.validB n cost (Hyp.minimal edges) = true := by
  unfold Hyp.validB
  rw [hw, Hyp.minimal_idem, decide_eq_true hl]
  simp only [Bool.true_and, Bool.and_eq_true, beq_self_eq_true, and_true, List.all_eq_true]
  intro e he
  have h1 := Hyp.minimal_among he
  refine ⟨by simpa using (Hyp.setsOf_inc h1).2, ?_⟩
  obtain ⟨x, hx, rfl⟩ := List.mem_map.1 h1
  have h2 := List.any_eq_false.1 hb x (List.mem_filter.1 hx).1
  unfold Hyp.badEdge at h2
  simp only [Bool.or_eq_true, Bool.not_eq_true', not_or, Bool.not_eq_false] at h2
  exact h2.2
theorem Hyp.free_same (edges : List (List Int)) (hne : ∀ e ∈ edges, e ≠ []) (s : List Int) : ((Hyp.minimal edges).all fun e => e.isEmpty || !Hyp.subB e s) = edges.all fun e => !Hyp.subB (Hyp.setOf e) s := by
  rw [Bool.eq_iff_iff, List.all_eq_true, List.all_eq_true]
  constructor
  · intro h e he
    have hs : Hyp.setOf e ∈ Hyp.setsOf edges := List.mem_map.2 ⟨e, List.mem_filter.2 ⟨he, by simpa using hne e he⟩, rfl⟩
    obtain ⟨f, hf, hfe⟩ := Hyp.minimal_over edges _ hs
    have h1 := h f hf
    have h2 : f.isEmpty = false := by simpa using (Hyp.setsOf_inc (Hyp.minimal_among hf)).2
    rw [h2, Bool.false_or, Bool.not_eq_true'] at h1
    rw [Bool.not_eq_true']
    cases hc : Hyp.subB (Hyp.setOf e) s
    · rfl
    · rw [Hyp.subB_trans hfe hc] at h1; cases h1
  · intro h f hf
    obtain ⟨x, hx, rfl⟩ := List.mem_map.1 (Hyp.minimal_among hf)
    rw [h x (List.mem_filter.1 hx).1, Bool.or_true]
namespace Hy
theorem conf_l0 (n : Int) (cost : List Int) (edges : List (List Int)) (s : List Int) (hs : Hyp.Inc s) (hsl : s.length ≤ 1000000) (hE : edges.length ≤ 1000000) (hEl : ∀ e ∈ edges, e.length ≤ 1000000) (M : List (List Int)) (F : Bool)
    (hV : hyper_Valid.f n cost M = some true) (hc : cost.length ≤ 1000000) (hF : ∃ K, ∀ k, K ≤ k → cleanseref27_Free.f k M s = some F) :
    ∀ (m i : Nat) (x : Bool), i + m = edges.length → ∃ K, ∀ k, K ≤ k →
      cleanselaw27_HyperConflicts.l0 k n cost edges true s x (i : Int) n cost M = some (F == (x && (edges.drop i).all fun e => !Hyp.subB (Hyp.setOf e) s)) := by
  intro m
  induction m with
  | zero =>
    intro i x hi
    obtain ⟨K, hK⟩ := hF
    refine ⟨K + cost.length + 2, fun k hk => ?_⟩
    obtain ⟨k, rfl⟩ : ∃ j, k = j + 1 := ⟨k - 1, by omega⟩
    rw [cleanselaw27_HyperConflicts.l0, if_neg (by omega), if_pos rfl, hV, Option.bind_some, if_pos rfl, if_pos rfl, ints_f cost cost (by omega) k (by omega), Option.bind_some, if_pos (by simp), hK k (by omega), Option.bind_some, List.drop_eq_nil_of_le (by omega), List.all_nil, Bool.and_true]
  | succ m ih =>
    intro i x hi
    have hlt : i < edges.length := by omega
    cases x with
    | false =>
      obtain ⟨K, hK⟩ := ih (i + 1) false (by omega)
      refine ⟨K + 1, fun k hk => ?_⟩
      obtain ⟨k, rfl⟩ : ∃ j, k = j + 1 := ⟨k - 1, by omega⟩
      rw [cleanselaw27_HyperConflicts.l0, if_pos (by omega), if_neg (by decide), wrap_nat (by omega), hK k (by omega), Bool.false_and, Bool.false_and]
    | true =>
      obtain ⟨K, hK⟩ := ih (i + 1) (!Hyp.subB (Hyp.setOf edges[i]) s) (by omega)
      obtain ⟨K2, hK2⟩ := set_f edges[i] (hEl _ (List.getElem_mem hlt))
      have hle := Hyp.setOf_le edges[i]
      have hel := hEl _ (List.getElem_mem hlt)
      refine ⟨K + K2 + 2 * s.length + 3, fun k hk => ?_⟩
      obtain ⟨k, rfl⟩ : ∃ j, k = j + 1 := ⟨k - 1, by omega⟩
      rw [cleanselaw27_HyperConflicts.l0, if_pos (by omega), if_pos rfl, if_pos (by omega), rdL1_nat edges hlt, hK2 k (by omega), Option.bind_some, con_f s _ hs (Hyp.setOf_inc _) (by omega) (by omega) k (by omega), Option.bind_some, wrap_nat (by omega), hK k (by omega), List.drop_eq_getElem_cons hlt, List.all_cons, Bool.true_and]
end Hy
theorem hyperConflictsPure : HyperConflictsPure := by
  intro n cost edges set hn hcw hcl hew hel hsw hsl
  have hhead : cleanselaw27_head.f = some true := rfl
  by_cases hbad : ((edges.all fun e => decide (e.length ≤ 10)) && decide ((edges.length : Int) ≤ 80)) = true ∧ cost.length ≤ 100 ∧ set.length ≤ 100
  · obtain ⟨hf, hc, hs⟩ := hbad
    have hfew := hf
    simp only [Bool.and_eq_true, List.all_eq_true, decide_eq_true_eq] at hf
    obtain ⟨he, hl⟩ := hf
    have hM : hyper_Make.f n cost edges = some (Hyp.makeF n cost edges) := by
      unfold hyper_Make.f
      rw [if_pos ⟨hc, by omega, fun x hx => by have := he x hx; omega⟩]
    suffices h : ∃ K, ∀ k, K ≤ k → Hy.cleanselaw27_HyperConflicts.j0 k n cost edges set true false = some true by
      obtain ⟨K, hK⟩ := h
      refine ⟨K + edges.length + 1, ?_⟩
      unfold Hy.cleanselaw27_HyperConflicts.f
      rw [hhead, Option.bind_some, Hy.few_f edges 80 hel _ (by omega), hfew, Option.bind_some, if_pos rfl, if_neg (by omega), decide_eq_false (by omega)]
      exact hK _ (by omega)
    by_cases hok : (Hyp.weighedB n cost = true ∧ edges.any (Hyp.badEdge n) = false) ∧ (Hyp.minimal edges).length ≤ 20000
    · obtain ⟨⟨hw, hb⟩, hml⟩ := hok
      have hMe : Hyp.makeF n cost edges = (n, cost, Hyp.minimal edges, 0) := by
        unfold Hyp.makeF
        rw [if_pos ⟨hw, hb⟩, if_neg (by omega)]
      have hval := Hyp.make_valid hw hb hml
      have hparts := Hyp.valid_parts hval
      have hlen : ∀ e ∈ Hyp.minimal edges, e.length ≤ 10 := by
        intro e hm
        obtain ⟨x, hx, rfl⟩ := List.mem_map.1 (Hyp.minimal_among hm)
        have := he x (List.mem_filter.1 hx).1
        have := Hyp.setOf_le x
        omega
      have hV : hyper_Valid.f n cost (Hyp.minimal edges) = some true := by
        unfold hyper_Valid.f
        rw [if_pos ⟨by have := hparts.2.2.1; omega, by omega, fun x hx => by have := hlen x hx; omega⟩, hval]
      have hne : ∀ e ∈ edges, e ≠ [] := fun e hm => (Hyp.good_edge (by simpa using List.any_eq_false.1 hb e hm)).1
      have hsl2 := Hyp.setOf_le set
      obtain ⟨K, hK⟩ := Hy.conf_l0 n cost edges (Hyp.setOf set) (Hyp.setOf_inc set) (by omega) (by omega) (fun e hm => by have := he e hm; omega) (Hyp.minimal edges) _ hV (by omega)
        ⟨(Hyp.minimal edges).length + 2 * (Hyp.setOf set).length + 3, fun k hk => Hy.free_f _ _ (Hyp.setOf_inc set) (by omega) (fun e hm => ⟨(Hyp.setsOf_inc (Hyp.minimal_among hm)).1, by have := hlen e hm; omega⟩) (by omega) k (by omega)⟩ edges.length 0 true (by omega)
      obtain ⟨K2, hK2⟩ := Hy.set_f set (by omega)
      refine ⟨K + K2 + 1, fun k hk => ?_⟩
      obtain ⟨k, rfl⟩ : ∃ j, k = j + 1 := ⟨k - 1, by omega⟩
      rw [Hy.cleanselaw27_HyperConflicts.j0, if_neg (by decide), hM, Option.bind_some, hMe]
      have h9 := hK k (by omega)
      rw [Hyp.free_same edges hne, Bool.true_and, List.drop_zero, beq_self_eq_true] at h9
      show (if (0 : Int) = 0 then _ else _) = _
      rw [if_pos rfl, hK2 k (by omega), Option.bind_some]
      exact h9
    · have hMe : ∃ c : Int, c ≠ 0 ∧ Hyp.makeF n cost edges = (0, [], [], c) := by
        unfold Hyp.makeF
        by_cases h1 : Hyp.weighedB n cost = true ∧ edges.any (Hyp.badEdge n) = false
        · rw [if_pos h1, if_pos (Nat.lt_of_not_le fun h => hok ⟨h1, h⟩)]
          exact ⟨3, by decide, rfl⟩
        · rw [if_neg h1]
          exact ⟨1, by decide, rfl⟩
      obtain ⟨c, hc0, hMe⟩ := hMe
      refine ⟨1, fun k hk => ?_⟩
      obtain ⟨k, rfl⟩ : ∃ j, k = j + 1 := ⟨k - 1, by omega⟩
      rw [Hy.cleanselaw27_HyperConflicts.j0, if_neg (by decide), hM, Option.bind_some, hMe]
      show (if c = 0 then _ else _) = _
      rw [if_neg hc0]
      rfl
  · refine ⟨edges.length + 1, ?_⟩
    unfold Hy.cleanselaw27_HyperConflicts.f
    rw [hhead, Option.bind_some, Hy.few_f edges 80 hel _ (by omega), Option.bind_some]
    have hj : Hy.cleanselaw27_HyperConflicts.j0 (edges.length + 1) n cost edges set true true = some true := by
      rw [Hy.cleanselaw27_HyperConflicts.j0, if_pos rfl]
    by_cases h1 : ((edges.all fun e => decide (e.length ≤ 10)) && decide ((edges.length : Int) ≤ 80)) = true
    · rw [if_pos h1]
      by_cases h2 : (cost.length : Int) > 100
      · rw [if_pos h2]; exact hj
      · have h4 : ¬ set.length ≤ 100 := fun h3 => hbad ⟨h1, by omega, h3⟩
        rw [if_neg h2, decide_eq_true (by omega)]; exact hj
    · rw [if_neg h1]; exact hj
end Go.Proofs.YtgjbnmobhafajaaDoor
end
section
namespace Go.Proofs.YtgjbnmobhafajaaDoor
open Go Go.ChangeShapes Go.WideShapes Go.ChangeAt Go.RowKit
theorem hyperConflicts_holds : Rows.HyperConflictsSaid :=
  OpenClaim.holds_of_wide 4 Tryd.f4 rfl rfl rfl rfl rfl rfl rfl ⟨rfl, rfl, rfl, rfl, rfl⟩ rfl rfl rfl rfl rfl (by kernel_rfl) Tryd.func4 (by kernel_rfl)
    (of_decide_eq_true (by kernel_rfl)) (by unfold Func.isWrapper; first | (rw [if_pos (by decide +kernel)]; kernel_rfl) | (rw [if_neg (by decide +kernel)]; exact ⟨rfl, rfl⟩))
    (fun os started H enc _ => hyperConflicts_lifted hyperConflictsPure os started H enc)
theorem hyperConflicts_card : Rows.HyperConflictsCardSaid :=
  Claim7.holds_tied_plain_at .later [] [.data, .data, .data] true (true, "297c43443dcd613df36feb01ff9f81e2f139ace8ad17d17613030ba674d4a706") false
    hyperConflicts_holds (fun _ h => by cases h) (by kernel_rfl) (fun _ h => by cases h) hyperConflicts_row_tie rfl ⟨rfl, rfl⟩ (by kernel_rfl) rfl
    (fun f fn hf hfn => by
      obtain rfl : f = 4 := Option.some.inj ((show Tryd.prog.funcNamed "cleanse/cleanselaw27.HyperConflicts" = some 4 by kernel_rfl).symm.trans hf) |>.symm
      obtain rfl : fn = Tryd.f4 := (Option.some.inj (Tryd.func4.symm.trans hfn)).symm
      exact ⟨by kernel_rfl, fun j t ht => by
        rw [Tryd.params4] at ht
        have h3 : t = 3 ∨ t = 27 ∨ t = 22 := by
          rcases j with _ | _ | _ | _ | j
          · left; simpa using ht.symm
          · right; left; simpa using ht.symm
          · right; right; simpa using ht.symm
          · right; left; simpa using ht.symm
          · simp at ht
        rcases h3 with rfl | rfl | rfl
        · exact (show Tryd.prog.wantsStandIn 3 = false by kernel_rfl)
        · exact (show Tryd.prog.wantsStandIn 27 = false by kernel_rfl)
        · exact (show Tryd.prog.wantsStandIn 22 = false by kernel_rfl)⟩)
    (by kernel_rfl)
#print axioms hyperConflicts_card
end Go.Proofs.YtgjbnmobhafajaaDoor
end
