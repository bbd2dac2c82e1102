/- The texts of this claim, RFixPure. -/
import Derived.Test.YtgjbnmobhafajaaDoorQsRaRefs
import Derived.Test.YtgjbnmobhafajaaDoorQsRbMin
import Derived.Test.YtgjbnmobhafajaaDoorQsRFixLift
set_option linter.unusedVariables false
set_option linter.unusedSimpArgs false
section
namespace Go.Proofs.YtgjbnmobhafajaaDoor
open Go Go.RowKit Go.Proofs.YtgjbnmobhafajaaDoorW.PrintWords Go.Proofs.YtgjbnmobhafajaaDoorW.PrintLast
theorem Hyp.mem_free {P : Nat → Bool} {n : Nat} {x : Int} : x ∈ Hyp.freeUp P n ↔ 0 ≤ x ∧ x < (n : Int) ∧ P x.toNat = false := by
  unfold Hyp.freeUp
  simp only [List.mem_map, List.mem_filter, List.mem_range, Bool.not_eq_true']
  constructor
  · rintro ⟨a, ⟨h1, h2⟩, rfl⟩
    exact ⟨by omega, by omega, by simpa using h2⟩
  · rintro ⟨h1, h2, h3⟩
    exact ⟨x.toNat, ⟨by omega, h3⟩, by omega⟩
theorem Hyp.free_set (P : Nat → Bool) (n : Nat) : Hyp.isSetB (Hyp.freeUp P n) (n : Int) = true :=
  (Hyp.isSetB_iff _ _).2 ⟨fun x hx => ⟨(Hyp.mem_free.1 hx).1, (Hyp.mem_free.1 hx).2.1⟩, Hyp.cast_inc ((Hyp.range_lt n).sublist List.filter_sublist)⟩
theorem Hyp.inB_iff {edges : List (List Int)} {v : Nat} : Hyp.inB edges v = true ↔ ∃ e ∈ edges, (v : Int) ∈ e := by
  unfold Hyp.inB
  simp only [List.any_eq_true, List.contains_iff_mem]
theorem Hyp.one_of {e : List Int} (h : e.length = 1) : e = [e.getD 0 0] := by
  match e, h with
  | [x], _ => rfl
theorem Hyp.mem_alone {edges : List (List Int)} {x : Int} : x ∈ Hyp.aloneOf edges ↔ [x] ∈ edges := by
  unfold Hyp.aloneOf
  simp only [List.mem_map, List.mem_filter, beq_iff_eq]
  constructor
  · rintro ⟨e, ⟨h1, h2⟩, rfl⟩
    rw [← Hyp.one_of h2]; exact h1
  · intro h
    exact ⟨[x], ⟨h, rfl⟩, rfl⟩
theorem Hyp.alone_set {n : Int} {cost : List Int} {edges : List (List Int)} (h : Hyp.validB n cost edges = true) : Hyp.isSetB (Hyp.aloneOf edges) n = true := by
  obtain ⟨v1, v2, v3, v4, v5, v6, v7⟩ := Hyp.valid_parts h
  refine (Hyp.isSetB_iff _ _).2 ⟨fun x hx => (v6 _ (Hyp.mem_alone.1 hx)).2.1 x List.mem_cons_self, ?_⟩
  unfold Hyp.aloneOf Hyp.Inc
  rw [List.pairwise_map]
  refine List.Pairwise.imp_of_mem ?_ ((Hyp.valid_sorted h).sublist List.filter_sublist)
  intro a b ha hb hab
  have ea := Hyp.one_of (by simpa using (List.mem_filter.1 ha).2)
  have eb := Hyp.one_of (by simpa using (List.mem_filter.1 hb).2)
  rw [ea, eb] at hab
  simp only [Hyp.cmpL] at hab
  split at hab
  · assumption
  · split at hab <;> omega
def Hyp.freeB (es : List (List Int)) (s : List Int) : Bool := es.all fun e => e.isEmpty || !Hyp.subB e s
def Hyp.moreB (edges : List (List Int)) (v : Int) : Bool := edges.any fun e => decide (e.length > 1) && decide (v ∈ e)
theorem Hyp.free_more {n : Int} {cost : List Int} {edges : List (List Int)} (h : Hyp.validB n cost edges = true) (s t : List Int) (ht : ∀ x, x ∈ t ↔ x ∈ s ∨ x ∈ Hyp.freeUp (Hyp.inB edges) n.toNat) : Hyp.freeB edges t = Hyp.freeB edges s := by
  obtain ⟨v1, v2, v3, v4, v5, v6, v7⟩ := Hyp.valid_parts h
  have key : ∀ e ∈ edges, Hyp.subB e t = Hyp.subB e s := by
    intro e he
    rw [Bool.eq_iff_iff, Hyp.subB_iff, Hyp.subB_iff]
    refine ⟨fun hs x hx => ?_, fun hs x hx => (ht x).2 (.inl (hs x hx))⟩
    rcases (ht x).1 (hs x hx) with h1 | h1
    · exact h1
    · have h2 := (Hyp.mem_free.1 h1)
      have h3 : Hyp.inB edges x.toNat = true := Hyp.inB_iff.2 ⟨e, he, by rw [show ((x.toNat : Nat) : Int) = x from by omega]; exact hx⟩
      rw [h3] at h2
      exact absurd h2.2.2 (by decide)
  unfold Hyp.freeB
  rw [Bool.eq_iff_iff, List.all_eq_true, List.all_eq_true]
  constructor
  · intro H e he
    rw [← key e he]; exact H e he
  · intro H e he
    rw [key e he]; exact H e he
theorem Hyp.fixed_tells {n : Int} {cost : List Int} {edges : List (List Int)} (h : Hyp.validB n cost edges = true) (v : Nat) (hv : (v : Int) < n) :
    Hyp.moreB edges v = !(decide ((v : Int) ∈ Hyp.freeUp (Hyp.inB edges) n.toNat) || decide ((v : Int) ∈ Hyp.aloneOf edges)) ∧ ¬ ((v : Int) ∈ Hyp.freeUp (Hyp.inB edges) n.toNat ∧ (v : Int) ∈ Hyp.aloneOf edges) ∧ ((v : Int) ∈ Hyp.aloneOf edges → Hyp.freeB edges [(v : Int)] = false) := by
  obtain ⟨v1, v2, v3, v4, v5, v6, v7⟩ := Hyp.valid_parts h
  have hF : (v : Int) ∈ Hyp.freeUp (Hyp.inB edges) n.toNat ↔ ¬ ∃ e ∈ edges, (v : Int) ∈ e := by
    rw [Hyp.mem_free, ← Hyp.inB_iff, Bool.not_eq_true]
    simp only [Int.toNat_natCast]
    exact ⟨fun h => h.2.2, fun h => ⟨by omega, by omega, h⟩⟩
  have hA : (v : Int) ∈ Hyp.aloneOf edges ↔ [(v : Int)] ∈ edges := Hyp.mem_alone
  have hM : Hyp.moreB edges v = true ↔ ∃ e ∈ edges, e.length > 1 ∧ (v : Int) ∈ e := by
    unfold Hyp.moreB
    simp only [List.any_eq_true, Bool.and_eq_true, decide_eq_true_eq]
  refine ⟨?_, ?_, ?_⟩
  · rw [Bool.eq_iff_iff, hM, Bool.not_eq_true', Bool.or_eq_false_iff, decide_eq_false_iff_not, decide_eq_false_iff_not, hF, hA]
    constructor
    · rintro ⟨e, he, h1, h2⟩
      refine ⟨fun h3 => h3 ⟨e, he, h2⟩, fun h3 => ?_⟩
      have := Hyp.valid_apart h he h3 ((Hyp.subB_iff _ _).2 fun x hx => by rw [List.mem_singleton.1 hx]; exact h2)
      rw [← this] at h1
      simp at h1
    · rintro ⟨h3, h4⟩
      have h5 : ∃ e ∈ edges, (v : Int) ∈ e := Classical.not_not.1 h3
      obtain ⟨e, he, hve⟩ := h5
      refine ⟨e, he, ?_, hve⟩
      have hne := List.length_pos_iff.2 (v6 e he).1
      by_cases h1 : e.length = 1
      · have h6 := Hyp.one_of h1
        rw [h6] at hve
        rw [← List.mem_singleton.1 hve] at h6
        rw [h6] at he
        exact absurd he h4
      · omega
  · rintro ⟨h1, h2⟩
    exact hF.1 h1 ⟨_, hA.1 h2, List.mem_cons_self⟩
  · intro h1
    have h2 := hA.1 h1
    unfold Hyp.freeB
    rw [List.all_eq_false]
    refine ⟨_, h2, ?_⟩
    have : Hyp.subB [(v : Int)] [(v : Int)] = true := Hyp.subB_refl _
    rw [this]
    simp
namespace Hy
theorem fixed_l1 (n : Int) (cost : List Int) (edges : List (List Int)) (hel : edges.length ≤ 1000) (hee : ∀ e ∈ edges, Hyp.Inc e ∧ e.length ≤ 1000) (a b : List Int) (v : Nat) (hvl : v ≤ 1000000) (fa al : Bool) (hI : Hyp.moreB edges v = !(fa || al)) (hna : ¬ (fa = true ∧ al = true)) (hfr : al = true → Hyp.freeB edges [(v : Int)] = false)
    (h0 : ∃ K, ∀ k, K ≤ k → cleanselaw27_HyperFixed.l0 k true a b ((v + 1 : Nat) : Int) n cost edges = some true) :
    ∀ (m j : Nat) (x : Bool), j + m = edges.length → (x || (edges.drop j).any fun e => decide (e.length > 1) && decide ((v : Int) ∈ e)) = Hyp.moreB edges v → ∃ K, ∀ k, K ≤ k → cleanselaw27_HyperFixed.l1 k true a b (v : Int) fa al x (j : Int) n cost edges = some true := by
  intro m
  induction m with
  | zero =>
    intro j x hj hx
    obtain ⟨K, hK⟩ := h0
    refine ⟨K + edges.length + 10, fun k hk => ?_⟩
    obtain ⟨k, rfl⟩ : ∃ j, k = j + 1 := ⟨k - 1, by omega⟩
    rw [List.drop_eq_nil_of_le (by omega), List.any_nil, Bool.or_false, hI] at hx
    rw [cleanselaw27_HyperFixed.l1, if_neg (by omega), wrap_nat (by omega)]
    have h2 := hK k (by omega)
    cases fa <;> cases al
    · simp at hx; subst hx
      rw [if_neg (by decide), if_neg (by decide), if_neg (by decide)]; exact h2
    · simp at hx; subst hx
      rw [if_neg (by decide), if_pos rfl, free_f edges _ (List.pairwise_singleton _ _) (by simp) (fun e he => ⟨(hee e he).1, by have := (hee e he).2; omega⟩) (by omega) k (by simp; omega), Option.bind_some]
      have h3 := hfr rfl
      unfold Hyp.freeB at h3
      rw [h3, if_neg (by decide), if_neg (by decide)]; exact h2
    · simp at hx; subst hx
      rw [if_pos rfl, if_neg (by decide), if_neg (by decide)]; exact h2
    · exact absurd ⟨rfl, rfl⟩ hna
  | succ m ih =>
    intro j x hj hx
    have hlt : j < edges.length := by omega
    have hd := List.drop_eq_getElem_cons hlt
    rw [hd, List.any_cons] at hx
    have hb := (hee _ (List.getElem_mem hlt)).2
    cases x with
    | true =>
      obtain ⟨K, hK⟩ := ih (j + 1) true (by omega) (by rw [← hx]; simp)
      refine ⟨K + 1, fun k hk => ?_⟩
      obtain ⟨k, rfl⟩ : ∃ j, k = j + 1 := ⟨k - 1, by omega⟩
      rw [cleanselaw27_HyperFixed.l1, if_pos (by omega), if_pos rfl, wrap_nat (by omega)]
      exact hK k (by omega)
    | false =>
      rw [Bool.false_or] at hx
      obtain ⟨K, hK⟩ := ih (j + 1) _ (by omega) hx
      refine ⟨K + 1002, fun k hk => ?_⟩
      obtain ⟨k, rfl⟩ : ∃ j, k = j + 1 := ⟨k - 1, by omega⟩
      have h2 := hK k (by omega)
      rw [cleanselaw27_HyperFixed.l1, if_pos (by omega), if_neg (by decide), if_pos (by omega), rdL1_nat edges hlt, wrap_nat (by omega)]
      by_cases h1 : edges[j].length > 1
      · rw [if_pos (by omega), in_f _ _ (by omega) k (by omega), Option.bind_some]
        rw [decide_eq_true h1, Bool.true_and] at h2
        exact h2
      · rw [if_neg (by omega)]
        rw [decide_eq_false h1, Bool.false_and] at h2
        exact h2
theorem fixed_l0 (n : Int) (cost : List Int) (edges : List (List Int)) (hn : n ≤ 100) (hel : edges.length ≤ 1000) (hee : ∀ e ∈ edges, e.length ≤ 1000) (hv : Hyp.validB n cost edges = true) (hal : (Hyp.aloneOf edges).length ≤ 1000000) (hfl : (Hyp.freeUp (Hyp.inB edges) n.toNat).length ≤ 1000000) :
    ∀ (m v : Nat), v + m = n.toNat → ∃ K, ∀ k, K ≤ k → cleanselaw27_HyperFixed.l0 k true (Hyp.freeUp (Hyp.inB edges) n.toNat) (Hyp.aloneOf edges) (v : Int) n cost edges = some true := by
  obtain ⟨v1, v2, v3, v4, v5, v6, v7⟩ := Hyp.valid_parts hv
  intro m
  induction m with
  | zero =>
    intro v hvn
    refine ⟨1, fun k hk => ?_⟩
    obtain ⟨k, rfl⟩ : ∃ j, k = j + 1 := ⟨k - 1, by omega⟩
    rw [cleanselaw27_HyperFixed.l0, if_neg (by omega)]
  | succ m ih =>
    intro v hvn
    obtain ⟨t1, t2, t3⟩ := Hyp.fixed_tells hv v (by omega)
    obtain ⟨K, hK⟩ := fixed_l1 n cost edges hel (fun e he => ⟨(v6 e he).2.2, hee e he⟩) _ _ v (by omega) _ _ t1 (by simpa using t2) (by simpa using t3) (ih (v + 1) (by omega)) edges.length 0 false (by omega) (by rw [List.drop_zero, Bool.false_or]; rfl)
    refine ⟨K + (Hyp.aloneOf edges).length + (Hyp.freeUp (Hyp.inB edges) n.toNat).length + 2, fun k hk => ?_⟩
    obtain ⟨k, rfl⟩ : ∃ j, k = j + 1 := ⟨k - 1, by omega⟩
    rw [cleanselaw27_HyperFixed.l0, if_pos (by omega), in_f _ _ (by omega) k (by omega), Option.bind_some, in_f _ _ (by omega) k (by omega), Option.bind_some]
    exact hK k (by omega)
end Hy
theorem hyperFixedPure : HyperFixedPure := by
  intro n cost edges set hn hcw hew hcl hel hsw hsl
  have hhead : cleanselaw27_head.f = some true := rfl
  have hj : ∀ k, Hy.cleanselaw27_HyperFixed.j0 (k + 1) set true true n cost edges = some true := fun k => by rw [Hy.cleanselaw27_HyperFixed.j0, if_pos rfl]
  have hS := fun k hk => Hy.small_f n cost edges 100 80 hel k hk
  by_cases hsm : (decide (n ≤ 100) && (decide ((cost.length : Int) ≤ 100) && ((edges.all fun e => decide (e.length ≤ 10)) && decide ((edges.length : Int) ≤ 80)))) = true
  · rw [hsm] at hS
    simp only [Bool.and_eq_true, List.all_eq_true, decide_eq_true_eq] at hsm
    obtain ⟨hn60, hc60, he10, he60⟩ := hsm
    by_cases hs60 : set.length ≤ 100
    · have hV : hyper_Valid.f n cost edges = some (Hyp.validB n cost edges) := by
        unfold hyper_Valid.f
        rw [if_pos ⟨by omega, by omega, fun x hx => by have := he10 x hx; omega⟩]
      by_cases hv : Hyp.validB n cost edges = true
      · obtain ⟨v1, v2, v3, v4, v5, v6, v7⟩ := Hyp.valid_parts hv
        have hF : hyper_Fixed.f n cost edges = some (Hyp.freeUp (Hyp.inB edges) n.toNat, Hyp.aloneOf edges) := by
          unfold hyper_Fixed.f Hyp.fixedF
          rw [if_pos ⟨by omega, by omega, fun x hx => by have := he10 x hx; omega⟩, if_pos hv]
        have hfs : Hyp.isSetB (Hyp.freeUp (Hyp.inB edges) n.toNat) n = true := by
          have := Hyp.free_set (Hyp.inB edges) n.toNat
          rwa [show ((n.toNat : Nat) : Int) = n from by omega] at this
        have has := Hyp.alone_set hv
        have hfl := Hyp.set_len hfs v1
        have hal := Hyp.set_len has v1
        have hso := Hyp.setOf_le set
        generalize hs : Hyp.setOf set = s at *
        have hsi : Hyp.Inc s := hs ▸ Hyp.setOf_inc set
        obtain ⟨K, hK⟩ := Hy.fixed_l0 n cost edges hn60 (by omega) (fun e he => by have := he10 e he; omega) hv (by omega) (by omega) n.toNat 0 (by omega)
        obtain ⟨K2, hK2⟩ := Hy.set_f set (by omega)
        rw [hs] at hK2
        have hml : (s ++ Hyp.freeUp (Hyp.inB edges) n.toNat).length ≤ 1000 := by rw [List.length_append]; omega
        obtain ⟨K3, hK3⟩ := Hy.set_f (s ++ Hyp.freeUp (Hyp.inB edges) n.toNat) (by omega)
        have hmi := Hyp.setOf_inc (s ++ Hyp.freeUp (Hyp.inB edges) n.toNat)
        have hmo := Hyp.setOf_le (s ++ Hyp.freeUp (Hyp.inB edges) n.toNat)
        have hmm := Hyp.free_more hv s (Hyp.setOf (s ++ Hyp.freeUp (Hyp.inB edges) n.toNat)) (fun x => by rw [Hyp.mem_setOf, List.mem_append])
        have hfe : ∀ e ∈ edges, Hyp.Inc e ∧ e.length ≤ 1000000 := fun e he => ⟨(v6 e he).2.2, by have := he10 e he; omega⟩
        refine ⟨K + K2 + K3 + edges.length + 5000, ?_⟩
        unfold Hy.cleanselaw27_HyperFixed.f
        rw [hhead, Option.bind_some, hS _ (by omega), Option.bind_some, if_pos rfl, if_neg (by omega), hV, Option.bind_some, hv]
        show Hy.cleanselaw27_HyperFixed.j0 (K + K2 + K3 + edges.length + 4998 + 1 + 1) set true false n cost edges = some true
        rw [Hy.cleanselaw27_HyperFixed.j0, if_neg (by decide), hF, Option.bind_some, hK2 _ (by omega)]
        simp only [Option.bind_some, List.nil_append, List.length_nil, Nat.zero_add]
        rw [if_pos (by omega), if_pos (by omega), hK3 _ (by omega)]
        simp only [Option.bind_some]
        rw [Hy.vertices_f _ n (by omega) _ (by omega), hfs, Option.bind_some, if_pos rfl, Hy.vertices_f _ n (by omega) _ (by omega), has, Option.bind_some, if_pos rfl, Hy.free_f edges s hsi (by omega) hfe (by omega) _ (by omega), Hy.free_f edges _ hmi (by omega) hfe (by omega) _ (by omega)]
        simp only [Option.bind_some]
        unfold Hyp.freeB at hmm
        rw [hmm]
        simp only [bne_self_eq_false]
        rw [Hy.cleanselaw27_HyperFixed.j1, if_neg (by decide)]
        exact hK _ (by omega)
      · refine ⟨edges.length + 2, ?_⟩
        unfold Hy.cleanselaw27_HyperFixed.f
        rw [hhead, Option.bind_some, hS _ (by omega), Option.bind_some, if_pos rfl, if_neg (by omega), hV, Option.bind_some, show Hyp.validB n cost edges = false by simpa using hv]
        exact hj _
    · refine ⟨edges.length + 2, ?_⟩
      unfold Hy.cleanselaw27_HyperFixed.f
      rw [hhead, Option.bind_some, hS _ (by omega), Option.bind_some, if_pos rfl, if_pos (by omega)]
      exact hj _
  · refine ⟨edges.length + 2, ?_⟩
    unfold Hy.cleanselaw27_HyperFixed.f
    rw [hhead, Option.bind_some, hS _ (by omega), Option.bind_some, if_neg hsm]
    exact hj _
end Go.Proofs.YtgjbnmobhafajaaDoor
end
