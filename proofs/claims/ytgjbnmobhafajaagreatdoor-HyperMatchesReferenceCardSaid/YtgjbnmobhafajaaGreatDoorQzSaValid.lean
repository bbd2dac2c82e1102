/- The texts of this claim, SaValid. -/
import Derived.Test.YtgjbnmobhafajaaGreatDoorQzRaRefs
import Derived.Test.YtgjbnmobhafajaaGreatDoorQzRbMin
import Derived.Test.YtgjbnmobhafajaaGreatDoorQzRfB
set_option linter.unusedVariables false
set_option linter.unusedSimpArgs false
section
namespace Go.Proofs.YtgjbnmobhafajaaGreatDoor
open Go Go.RowKit Go.Proofs.YtgjbnmobhafajaaGreatDoorW.PrintWords Go.Proofs.YtgjbnmobhafajaaGreatDoorW.PrintLast
namespace Hy
theorem costs_l0 (n : Int) (cost : List Int) (hl : (cost.length : Int) = n) (hn : n ≤ 4000) : ∀ (m i : Nat), i + m = cost.length → ∀ k, m < k →
    cleanseref27_costs.l0 k n cost (i : Int) = some (!(cost.drop i).any Hyp.badCost) := by
  intro m
  induction m with
  | zero =>
    intro i hi k hk
    obtain ⟨k, rfl⟩ : ∃ j, k = j + 1 := ⟨k - 1, by omega⟩
    rw [cleanseref27_costs.l0, if_neg (by omega), List.drop_eq_nil_of_le (by omega)]; rfl
  | succ m ih =>
    intro i hi k hk
    obtain ⟨k, rfl⟩ : ∃ j, k = j + 1 := ⟨k - 1, by omega⟩
    have hlt : i < cost.length := by omega
    rw [cleanseref27_costs.l0, if_pos (by omega), if_pos (by omega), if_pos (by omega), rd_nat cost hlt, wrap_nat (by omega), ih (i + 1) (by omega) k (by omega), List.drop_eq_getElem_cons hlt, List.any_cons]
    unfold Hyp.badCost
    by_cases h1 : cost[i] < 0
    · rw [if_pos h1, decide_eq_true h1]; rfl
    · rw [if_neg h1, decide_eq_false h1]
      by_cases h2 : cost[i] > 1000000000
      · rw [if_pos h2, decide_eq_true (p := 1000000000 < cost[i]) h2]; rfl
      · rw [if_neg h2, decide_eq_false (p := 1000000000 < cost[i]) h2]; rfl
theorem costs_f (n : Int) (cost : List Int) (hL : cost.length ≤ 9223372036854775807) (k : Nat) (hk : cost.length + 1 < k) : cleanseref27_costs.f k n cost = some (Hyp.weighedB n cost) := by
  unfold cleanseref27_costs.f Hyp.weighedB
  obtain ⟨k, rfl⟩ : ∃ j, k = j + 1 := ⟨k - 1, by omega⟩
  by_cases h1 : n < 0
  · rw [if_pos h1, cleanseref27_costs.j0, if_pos rfl, decide_eq_false (by omega)]; rfl
  · rw [if_neg h1]
    by_cases h2 : n > 4000
    · rw [if_pos h2, cleanseref27_costs.j0, if_pos rfl, decide_eq_true (p := 0 ≤ n) (by omega), decide_eq_false (p := n ≤ 4000) (by omega)]; rfl
    · rw [if_neg h2, decide_eq_true (p := 0 ≤ n) (by omega), decide_eq_true (p := n ≤ 4000) (by omega)]
      by_cases h3 : (cost.length : Int) = n
      · rw [cleanseref27_costs.j0, if_neg (by simpa using h3), decide_eq_true h3]
        have h4 := costs_l0 n cost h3 (by omega) cost.length 0 (by omega) k (by omega)
        rw [List.drop_zero] at h4
        exact h4
      · rw [cleanseref27_costs.j0, if_pos (by simpa using h3), decide_eq_false h3]; rfl
theorem con_some (e f : List Int) (hE : e.length < 9223372036854775807) (hF : f.length < 9223372036854775807) : ∀ (m i j : Nat), i + m = e.length → j ≤ f.length → ∀ k, 2 * m + 1 < k →
    ∃ b, cleanseref27_Contains.l0 k e f (j : Int) (i : Int) = some b := by
  intro m
  induction m with
  | zero =>
    intro i j hi hj k hk
    obtain ⟨k, rfl⟩ : ∃ j, k = j + 2 := ⟨k - 2, by omega⟩
    rw [cleanseref27_Contains.l0, if_neg (by omega), cleanseref27_Contains.j1, if_neg (by decide)]
    exact ⟨_, rfl⟩
  | succ m ih =>
    intro i j hi hj k hk
    obtain ⟨k, rfl⟩ : ∃ j, k = j + 2 := ⟨k - 2, by omega⟩
    have hlt : i < e.length := by omega
    rw [cleanseref27_Contains.l0, if_pos (by omega), cleanseref27_Contains.j1]
    by_cases h : j < f.length
    · rw [if_pos (by simp; omega), if_pos (by omega), if_pos (by omega), if_pos (by omega), if_pos (by omega), rd_nat e hlt, rd_nat f h, wrap_nat (by omega), wrap_nat (by omega)]
      split
      · exact ih (i + 1) (j + 1) (by omega) (by omega) k (by omega)
      · exact ih (i + 1) j (by omega) (by omega) k (by omega)
    · rw [if_neg (by simp; omega)]
      exact ⟨_, rfl⟩
theorem con_any (e f : List Int) (hE : e.length < 9223372036854775807) (hF : f.length < 9223372036854775807) (k : Nat) (hk : 2 * e.length + 1 < k) : ∃ b, cleanseref27_Contains.f k e f = some b := con_some e f hE hF e.length 0 0 (by omega) (by omega) k hk
def okAt (n : Int) (es : List (List Int)) (i : Nat) : Bool := !(es.getD i []).isEmpty && Hyp.isSetB (es.getD i []) n && (decide (i = 0) || decide (Hyp.cmpL (es.getD (i - 1) []) (es.getD i []) < 0))
section
variable {n : Int} {cost : List Int} {es : List (List Int)}
theorem getD_at {i : Nat} (h : i < es.length) : es.getD i [] = es[i] := by rw [List.getD_eq_getElem?_getD, List.getElem?_eq_getElem h]; rfl
theorem valid_l1_any (hel : es.length ≤ 1000) (hee : ∀ e ∈ es, e.length ≤ 1000) (i : Nat) (hi : i < es.length) : ∀ (m j : Nat), j + m = es.length → ∀ k, 2002 + m < k →
    cleanseref27_Valid.l1 k (i : Int) es[i] (j : Int) n cost es = some false ∨ ∃ q, k ≤ q + m + 1 ∧ cleanseref27_Valid.l1 k (i : Int) es[i] (j : Int) n cost es = cleanseref27_Valid.l0 q ((i + 1 : Nat) : Int) n cost es := by
  have hb := hee _ (List.getElem_mem hi)
  intro m
  induction m with
  | zero =>
    intro j hj k hk
    obtain ⟨k, rfl⟩ : ∃ j, k = j + 1 := ⟨k - 1, by omega⟩
    right
    refine ⟨k, by omega, ?_⟩
    rw [cleanseref27_Valid.l1, if_neg (by omega), wrap_nat (by omega)]
  | succ m ih =>
    intro j hj k hk
    obtain ⟨k, rfl⟩ : ∃ j, k = j + 1 := ⟨k - 1, by omega⟩
    have hlt : j < es.length := by omega
    have hbj := hee _ (List.getElem_mem hlt)
    rw [cleanseref27_Valid.l1, if_pos (by omega), wrap_nat (by omega)]
    have hn := ih (j + 1) (by omega) k (by omega)
    have hn' : cleanseref27_Valid.l1 k (i : Int) es[i] ((j + 1 : Nat) : Int) n cost es = some false ∨ ∃ q, k + 1 ≤ q + (m + 1) + 1 ∧ cleanseref27_Valid.l1 k (i : Int) es[i] ((j + 1 : Nat) : Int) n cost es = cleanseref27_Valid.l0 q ((i + 1 : Nat) : Int) n cost es := by
      rcases hn with h | ⟨q, h1, h2⟩
      · exact .inl h
      · exact .inr ⟨q, by omega, h2⟩
    by_cases hij : j = i
    · rw [if_pos (by omega)]; exact hn'
    · rw [if_neg (by omega), if_pos (by omega), rdL1_nat es hlt]
      obtain ⟨b, hbb⟩ := con_any es[i] es[j] (by omega) (by omega) k (by omega)
      rw [hbb, Option.bind_some]
      cases b with
      | true => rw [if_pos rfl]; exact .inl rfl
      | false => rw [if_neg (by decide)]; exact hn'
theorem valid_l1_on (hel : es.length ≤ 1000) (hee : ∀ e ∈ es, e.length ≤ 1000) (hin : ∀ e ∈ es, Hyp.Inc e) (i : Nat) (hi : i < es.length) (hap : ∀ (j : Nat) (hj : j < es.length), j ≠ i → Hyp.subB es[j] es[i] = false) : ∀ (m j : Nat), j + m = es.length → ∀ k, 2002 + m < k →
    ∃ q, k ≤ q + m + 1 ∧ cleanseref27_Valid.l1 k (i : Int) es[i] (j : Int) n cost es = cleanseref27_Valid.l0 q ((i + 1 : Nat) : Int) n cost es := by
  have hb := hee _ (List.getElem_mem hi)
  intro m
  induction m with
  | zero =>
    intro j hj k hk
    obtain ⟨k, rfl⟩ : ∃ j, k = j + 1 := ⟨k - 1, by omega⟩
    refine ⟨k, by omega, ?_⟩
    rw [cleanseref27_Valid.l1, if_neg (by omega), wrap_nat (by omega)]
  | succ m ih =>
    intro j hj k hk
    obtain ⟨k, rfl⟩ : ∃ j, k = j + 1 := ⟨k - 1, by omega⟩
    have hlt : j < es.length := by omega
    have hbj := hee _ (List.getElem_mem hlt)
    obtain ⟨q, h1, h2⟩ := ih (j + 1) (by omega) k (by omega)
    refine ⟨q, by omega, ?_⟩
    rw [cleanseref27_Valid.l1, if_pos (by omega), wrap_nat (by omega)]
    by_cases hij : j = i
    · rw [if_pos (by omega)]; exact h2
    · rw [if_neg (by omega), if_pos (by omega), rdL1_nat es hlt, con_f es[i] es[j] (hin _ (List.getElem_mem hi)) (hin _ (List.getElem_mem hlt)) (by omega) (by omega) k (by omega), hap j hlt hij, Option.bind_some, if_neg (by decide)]
      exact h2
theorem valid_l1_off (hel : es.length ≤ 1000) (hee : ∀ e ∈ es, e.length ≤ 1000) (hin : ∀ e ∈ es, Hyp.Inc e) (i : Nat) (hi : i < es.length) (t : Nat) (ht : t < es.length) (hti : t ≠ i) (hs : Hyp.subB es[t] es[i] = true) : ∀ (m j : Nat), j + m = es.length → j ≤ t → ∀ k, 2002 + m < k →
    cleanseref27_Valid.l1 k (i : Int) es[i] (j : Int) n cost es = some false := by
  have hb := hee _ (List.getElem_mem hi)
  intro m
  induction m with
  | zero => intro j hj hjt; omega
  | succ m ih =>
    intro j hj hjt k hk
    obtain ⟨k, rfl⟩ : ∃ j, k = j + 1 := ⟨k - 1, by omega⟩
    have hlt : j < es.length := by omega
    have hbj := hee _ (List.getElem_mem hlt)
    rw [cleanseref27_Valid.l1, if_pos (by omega), wrap_nat (by omega)]
    by_cases hij : j = i
    · rw [if_pos (by omega)]; exact ih (j + 1) (by omega) (by omega) k (by omega)
    · rw [if_neg (by omega), if_pos (by omega), rdL1_nat es hlt, con_f es[i] es[j] (hin _ (List.getElem_mem hi)) (hin _ (List.getElem_mem hlt)) (by omega) (by omega) k (by omega), Option.bind_some]
      by_cases hjt' : j = t
      · subst hjt'
        rw [hs, if_pos rfl]
      · split
        · rfl
        · exact ih (j + 1) (by omega) (by omega) k (by omega)
theorem valid_l0_step (hel : es.length ≤ 1000) (hee : ∀ e ∈ es, e.length ≤ 1000) (i : Nat) (hi : i < es.length) (k : Nat) (hk : 2003 < k) :
    cleanseref27_Valid.l0 (k + 2) (i : Int) n cost es = if okAt n es i = true then cleanseref27_Valid.l1 k (i : Int) es[i] 0 n cost es else some false := by
  have hb := hee _ (List.getElem_mem hi)
  have hg := getD_at (es := es) hi
  have hj2 : ∀ b, cleanseref27_Valid.j2 (k + 1) (i : Int) es[i] b n cost es = if b = true then some false else cleanseref27_Valid.l1 k (i : Int) es[i] 0 n cost es := fun b => by rw [cleanseref27_Valid.j2]
  unfold okAt
  rw [cleanseref27_Valid.l0, if_pos (by omega), if_pos (by omega), rdL1_nat es hi, hg]
  by_cases h0 : es[i].length = 0
  · rw [if_pos (by omega), hj2, if_pos rfl, List.eq_nil_of_length_eq_zero h0]
    rfl
  · have hne : es[i].isEmpty = false := by cases h : es[i] <;> simp_all
    rw [if_neg (by omega), vertices_f _ _ (by omega) (k + 1) (by omega), Option.bind_some, hne]
    by_cases hs : Hyp.isSetB es[i] n = true
    · rw [hs, if_pos rfl]
      by_cases hi0 : 0 < i
      · have e0 : wrap64 ((i : Int) - 1) = ((i - 1 : Nat) : Int) := by rw [wrap_small (by omega) (by omega)]; omega
        have hq : i - 1 < es.length := by omega
        have hbq := hee _ (List.getElem_mem hq)
        rw [if_pos (by omega), e0, if_pos (by omega), if_pos (by omega), rdL1_nat es hq, less_f _ _ (by omega) (by omega) (k + 1) (by omega), Option.bind_some, hj2, decide_eq_false (p := i = 0) (by omega), getD_at hq]
        by_cases hl : Hyp.cmpL es[i - 1] es[i] < 0
        · rw [decide_eq_true hl]; rfl
        · rw [decide_eq_false hl]; rfl
      · rw [if_neg (by omega), hj2, decide_eq_true (p := i = 0) (by omega)]; rfl
    · have hs' : Hyp.isSetB es[i] n = false := by simpa using hs
      rw [hs', if_neg (by decide), hj2, if_pos rfl]; rfl
theorem valid_bad (hel : es.length ≤ 1000) (hee : ∀ e ∈ es, e.length ≤ 1000) (t : Nat) (ht : t < es.length) (hbad : okAt n es t = false) : ∀ (m i : Nat), i + m = t → ∀ k, 4000 * m + 4000 < k →
    cleanseref27_Valid.l0 k (i : Int) n cost es = some false := by
  intro m
  induction m with
  | zero =>
    intro i hi k hk
    obtain ⟨k, rfl⟩ : ∃ j, k = j + 2 := ⟨k - 2, by omega⟩
    obtain rfl : i = t := by omega
    have hk2 : 2003 < k := by omega
    have hst := valid_l0_step (n := n) (cost := cost) hel hee i ht k hk2
    rw [hst, hbad, if_neg (by decide)]
  | succ m ih =>
    intro i hi k hk
    obtain ⟨k, rfl⟩ : ∃ j, k = j + 2 := ⟨k - 2, by omega⟩
    have hlt : i < es.length := by omega
    have hk2 : 2003 < k := by omega
    have hst := valid_l0_step (n := n) (cost := cost) hel hee i hlt k hk2
    rw [hst]
    split
    · rcases valid_l1_any (n := n) (cost := cost) hel hee i hlt es.length 0 (by omega) k (by omega) with h | ⟨q, h1, h2⟩
      · exact h
      · have h2' : cleanseref27_Valid.l1 k (i : Int) es[i] 0 n cost es = _ := h2
        rw [h2']
        exact ih (i + 1) (by omega) q (by omega)
    · rfl
theorem valid_apart_no (hel : es.length ≤ 1000) (hee : ∀ e ∈ es, e.length ≤ 1000) (hin : ∀ e ∈ es, Hyp.Inc e) (t u : Nat) (ht : t < es.length) (hu : u < es.length) (hut : u ≠ t) (hs : Hyp.subB es[u] es[t] = true) : ∀ (m i : Nat), i + m = t → ∀ k, 4000 * m + 4000 < k →
    cleanseref27_Valid.l0 k (i : Int) n cost es = some false := by
  intro m
  induction m with
  | zero =>
    intro i hi k hk
    obtain ⟨k, rfl⟩ : ∃ j, k = j + 2 := ⟨k - 2, by omega⟩
    obtain rfl : i = t := by omega
    have hk2 : 2003 < k := by omega
    have hst := valid_l0_step (n := n) (cost := cost) hel hee i ht k hk2
    rw [hst]
    split
    · exact valid_l1_off hel hee hin i ht u hu hut hs es.length 0 (by omega) (by omega) k (by omega)
    · rfl
  | succ m ih =>
    intro i hi k hk
    obtain ⟨k, rfl⟩ : ∃ j, k = j + 2 := ⟨k - 2, by omega⟩
    have hlt : i < es.length := by omega
    have hk2 : 2003 < k := by omega
    have hst := valid_l0_step (n := n) (cost := cost) hel hee i hlt k hk2
    rw [hst]
    split
    · rcases valid_l1_any (n := n) (cost := cost) hel hee i hlt es.length 0 (by omega) k (by omega) with h | ⟨q, h1, h2⟩
      · exact h
      · have h2' : cleanseref27_Valid.l1 k (i : Int) es[i] 0 n cost es = _ := h2
        rw [h2']
        exact ih (i + 1) (by omega) q (by omega)
    · rfl
theorem valid_good (hel : es.length ≤ 1000) (hee : ∀ e ∈ es, e.length ≤ 1000) (hin : ∀ e ∈ es, Hyp.Inc e) (hok : ∀ i, i < es.length → okAt n es i = true) (hap : ∀ (i j : Nat) (hi : i < es.length) (hj : j < es.length), j ≠ i → Hyp.subB es[j] es[i] = false) : ∀ (m i : Nat), i + m = es.length → ∀ k, 4000 * m + 4000 < k →
    cleanseref27_Valid.l0 k (i : Int) n cost es = some true := by
  intro m
  induction m with
  | zero =>
    intro i hi k hk
    obtain ⟨k, rfl⟩ : ∃ j, k = j + 1 := ⟨k - 1, by omega⟩
    rw [cleanseref27_Valid.l0, if_neg (by omega)]
  | succ m ih =>
    intro i hi k hk
    obtain ⟨k, rfl⟩ : ∃ j, k = j + 2 := ⟨k - 2, by omega⟩
    have hlt : i < es.length := by omega
    have hk2 : 2003 < k := by omega
    have hst := valid_l0_step (n := n) (cost := cost) hel hee i hlt k hk2
    rw [hst, hok i hlt, if_pos rfl]
    obtain ⟨q, h1, h2⟩ := valid_l1_on (n := n) (cost := cost) hel hee hin i hlt (fun j hj hji => hap i j hlt hj hji) es.length 0 (by omega) k (by omega)
    have h2' : cleanseref27_Valid.l1 k (i : Int) es[i] 0 n cost es = _ := h2
    rw [h2']
    exact ih (i + 1) (by omega) q (by omega)
end
theorem valid_f (n : Int) (cost : List Int) (es : List (List Int)) (hc : cost.length ≤ 1000) (hel : es.length ≤ 1000) (hee : ∀ e ∈ es, e.length ≤ 1000) (k : Nat) (hk : 5000000 < k) : cleanseref27_Valid.f k n cost es = some (Hyp.validB n cost es) := by
  unfold cleanseref27_Valid.f
  rw [costs_f n cost (by omega) k (by omega), Option.bind_some]
  obtain ⟨k, rfl⟩ : ∃ j, k = j + 1 := ⟨k - 1, by omega⟩
  unfold Hyp.validB
  by_cases hw : Hyp.weighedB n cost = true
  · rw [hw, if_pos rfl, cleanseref27_Valid.j0, if_neg (by simp; omega), decide_eq_true (p := es.length ≤ 20000) (by omega), Bool.true_and, Bool.true_and]
    by_cases hok : ∀ i, i < es.length → okAt n es i = true
    · have hset : ∀ e ∈ es, e ≠ [] ∧ Hyp.isSetB e n = true := by
        intro e he
        obtain ⟨i, hi, rfl⟩ := List.mem_iff_getElem.1 he
        have := hok i hi
        unfold okAt at this
        rw [getD_at hi] at this
        simp only [Bool.and_eq_true, Bool.not_eq_true', List.isEmpty_eq_false_iff] at this
        exact ⟨this.1.1, this.1.2⟩
      have hin : ∀ e ∈ es, Hyp.Inc e := fun e he => ((Hyp.isSetB_iff _ _).1 (hset e he).2).2
      have hall : (es.all fun e => !e.isEmpty && Hyp.isSetB e n) = true := by
        rw [List.all_eq_true]
        intro e he
        rw [(hset e he).2]
        simpa using (hset e he).1
      have hsorted : es.Pairwise fun a b => Hyp.cmpL a b < 0 := by
        have hstep : ∀ i, i + 1 < es.length → Hyp.cmpL (es.getD i []) (es.getD (i + 1) []) < 0 := by
          intro i hi
          have := hok (i + 1) hi
          unfold okAt at this
          simp only [Bool.and_eq_true, Bool.or_eq_true, decide_eq_true_eq] at this
          rcases this.2 with h | h
          · omega
          · exact h
        rw [List.pairwise_iff_getElem]
        intro i j hi hj hij
        have key : ∀ d, ∀ j, j = i + 1 + d → (hj : j < es.length) → Hyp.cmpL (es.getD i []) (es.getD j []) < 0 := by
          intro d
          induction d with
          | zero => intro j e hj; subst e; exact hstep i hj
          | succ d ih =>
            intro j e hj
            have h1 := ih (i + 1 + d) rfl (by omega)
            have h2 := hstep (i + 1 + d) (by omega)
            have h3 := Hyp.cmpL_trans _ _ _ h1 h2
            subst e
            exact h3
        have := key (j - i - 1) j (by omega) hj
        rw [getD_at hi, getD_at hj] at this
        exact this
      have hso : Hyp.setsOf es = es := Hyp.setsOf_same fun e he => ⟨hin e he, (hset e he).1⟩
      rw [hall, Bool.true_and]
      by_cases hap : ∀ (i j : Nat) (hi : i < es.length) (hj : j < es.length), j ≠ i → Hyp.subB es[j] es[i] = false
      · have h1 := valid_good (cost := cost) hel hee hin hok hap es.length 0 (by omega) k (by omega)
        have hm : Hyp.minimal es = es := by
          refine (Hyp.minimal_is es).unique ⟨hsorted, fun e => ?_⟩
          rw [hso]
          refine ⟨fun he => ⟨he, fun f hf hs => ?_⟩, fun h => h.1⟩
          obtain ⟨i, hi, rfl⟩ := List.mem_iff_getElem.1 he
          obtain ⟨j, hj, rfl⟩ := List.mem_iff_getElem.1 hf
          by_cases hji : j = i
          · subst hji; rfl
          · rw [hap i j hi hj hji] at hs; cases hs
        rw [hm, beq_self_eq_true]
        exact h1
      · simp only [Classical.not_forall] at hap
        obtain ⟨t, u, ht, hu, hut, hs⟩ := hap
        have hs' : Hyp.subB es[u] es[t] = true := by simpa using hs
        have h1 := valid_apart_no (n := n) (cost := cost) hel hee hin t u ht hu hut hs' t 0 (by omega) k (by omega)
        have hm : (Hyp.minimal es == es) = false := by
          rw [beq_eq_false_iff_ne]
          intro hm
          have h2 := (Hyp.minimal_is es).mem es[t]
          rw [hm, hso] at h2
          have h3 := (h2.1 (List.getElem_mem ht)).2 es[u] (List.getElem_mem hu) hs'
          have hp := List.pairwise_iff_getElem.1 hsorted
          rcases Nat.lt_or_gt_of_ne hut with h | h
          · have := hp u t hu ht h
            rw [h3, Hyp.cmpL_self] at this; omega
          · have := hp t u ht hu h
            rw [h3, Hyp.cmpL_self] at this; omega
        rw [hm]
        exact h1
    · simp only [Classical.not_forall] at hok
      obtain ⟨t, ht, hb⟩ := hok
      have hb' : okAt n es t = false := by simpa using hb
      have h1 := valid_bad (cost := cost) hel hee t ht hb' t 0 (by omega) k (by omega)
      refine (show _ = some false from h1).trans ?_
      congr 1
      symm
      rw [Bool.and_eq_false_iff]
      unfold okAt at hb'
      rw [getD_at ht] at hb'
      by_cases hall : (es.all fun e => !e.isEmpty && Hyp.isSetB e n) = true
      · right
        rw [List.all_eq_true] at hall
        have h2 := hall _ (List.getElem_mem ht)
        rw [h2, Bool.true_and, Bool.or_eq_false_iff, decide_eq_false_iff_not, decide_eq_false_iff_not] at hb'
        rw [beq_eq_false_iff_ne]
        intro hm
        have hp := (Hyp.minimal_is es).sorted
        rw [hm] at hp
        have := List.pairwise_iff_getElem.1 hp (t - 1) t (by omega) ht (by omega)
        rw [getD_at (by omega : t - 1 < es.length)] at hb'
        exact hb'.2 this
      · left; simpa using hall
  · have hw' : Hyp.weighedB n cost = false := by simpa using hw
    rw [hw', if_neg (by decide), cleanseref27_Valid.j0, if_pos rfl]; rfl
end Hy
end Go.Proofs.YtgjbnmobhafajaaGreatDoor
end
