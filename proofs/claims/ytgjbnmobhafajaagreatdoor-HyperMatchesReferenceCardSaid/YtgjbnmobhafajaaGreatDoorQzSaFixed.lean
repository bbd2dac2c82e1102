/- The texts of this claim, SaFixed. -/
import Derived.Test.YtgjbnmobhafajaaGreatDoorQzSaValid
import Derived.Test.YtgjbnmobhafajaaGreatDoorQzRfD
set_option linter.unusedVariables false
set_option linter.unusedSimpArgs false
section
namespace Go.Proofs.YtgjbnmobhafajaaGreatDoor
open Go Go.RowKit Go.Proofs.YtgjbnmobhafajaaGreatDoorW.PrintWords Go.Proofs.YtgjbnmobhafajaaGreatDoorW.PrintLast
theorem Hyp.marks_congr (n : Nat) {P Q : Nat → Bool} (h : ∀ x, x < n → P x = Q x) : Hyp.marks n P = Hyp.marks n Q := by
  unfold Hyp.marks
  exact List.map_congr_left fun x hx => h x (List.mem_range.1 hx)
theorem Hyp.marks_none (n : Nat) : Hyp.marks n (fun _ => false) = List.replicate n false := by
  refine List.ext_getElem (by simp [Hyp.marks]) fun x h1 h2 => ?_
  simp [Hyp.marks]
def Hyp.upOf (A : Nat → Bool) (i : Nat) : List Int := ((List.range i).filter A).map fun (v : Nat) => (v : Int)
theorem Hyp.upOf_succ (A : Nat → Bool) (i : Nat) : Hyp.upOf A (i + 1) = Hyp.upOf A i ++ if A i = true then [(i : Int)] else [] := by
  unfold Hyp.upOf
  rw [List.range_succ, List.filter_append, List.map_append]
  congr 1
  by_cases h : A i = true <;> simp [h]
theorem Hyp.upOf_len (A : Nat → Bool) (i : Nat) : (Hyp.upOf A i).length ≤ i := by
  unfold Hyp.upOf
  rw [List.length_map]
  exact Nat.le_trans (List.length_filter_le _ _) (by simp)
theorem Hyp.mem_upOf {A : Nat → Bool} {n : Nat} {x : Int} : x ∈ Hyp.upOf A n ↔ 0 ≤ x ∧ x < (n : Int) ∧ A x.toNat = true := by
  unfold Hyp.upOf
  simp only [List.mem_map, List.mem_filter, List.mem_range]
  constructor
  · rintro ⟨a, ⟨h1, h2⟩, rfl⟩
    exact ⟨by omega, by omega, by simpa using h2⟩
  · rintro ⟨h1, h2, h3⟩
    exact ⟨x.toNat, ⟨by omega, h3⟩, by omega⟩
def Hyp.aloneB (es : List (List Int)) (v : Nat) : Bool := es.any fun e => e == [(v : Int)]
theorem Hyp.upOf_alone {n : Int} {cost : List Int} {es : List (List Int)} (h : Hyp.validB n cost es = true) : Hyp.upOf (Hyp.aloneB es) n.toNat = Hyp.aloneOf es := by
  have h1 := (Hyp.isSetB_iff _ _).1 (Hyp.alone_set h)
  refine Hyp.inc_ext (Hyp.cast_inc ((Hyp.range_lt _).sublist List.filter_sublist)) h1.2 fun x => ?_
  rw [Hyp.mem_upOf, Hyp.mem_alone]
  unfold Hyp.aloneB
  rw [List.any_eq_true]
  constructor
  · rintro ⟨a, b, e, he, hx⟩
    rw [beq_iff_eq] at hx
    rw [show ((x.toNat : Nat) : Int) = x by omega] at hx
    rw [← hx]; exact he
  · intro hx
    have h2 := h1.1 x (Hyp.mem_alone.2 hx)
    refine ⟨h2.1, by omega, _, hx, ?_⟩
    rw [beq_iff_eq, show ((x.toNat : Nat) : Int) = x by omega]
namespace Hy
section
variable {n : Int} {cost : List Int} {es : List (List Int)}
theorem rdOf_marks (m : Nat) (P : Nat → Bool) (i : Nat) (hi : i < m) : rdOf false (Hyp.marks m P) (i : Int) = P i := by
  show (Hyp.marks m P).getD (i : Int).toNat false = P i
  exact Hyp.marks_get m P i hi
theorem fixed_l2r (hn0 : 0 ≤ n) (hn : n ≤ 1000) (P A : Nat → Bool) : ∀ (m i : Nat), i + m = n.toNat → ∀ k, m < k →
    cleanseref27_Fixed.l2 k (Hyp.marks n.toNat P) (Hyp.marks n.toNat A) (Hyp.freeUp P i) (Hyp.upOf A i) (i : Int) n cost es = some (Hyp.freeUp P n.toNat, Hyp.upOf A n.toNat) := by
  intro m
  induction m with
  | zero =>
    intro i hi k hk
    obtain ⟨k, rfl⟩ : ∃ j, k = j + 1 := ⟨k - 1, by omega⟩
    obtain rfl : i = n.toNat := by omega
    rw [cleanseref27_Fixed.l2, if_neg (by omega)]
  | succ m ih =>
    intro i hi k hk
    obtain ⟨k, rfl⟩ : ∃ j, k = j + 1 := ⟨k - 1, by omega⟩
    have h1 := Hyp.freeUp_len P i
    have h2 := Hyp.upOf_len A i
    have h3 := ih (i + 1) (by omega) k (by omega)
    have hm1 := Hyp.marks_len n.toNat P
    have hm2 := Hyp.marks_len n.toNat A
    rw [Hyp.freeUp_succ, Hyp.upOf_succ] at h3
    rw [cleanseref27_Fixed.l2, if_pos (by omega), if_pos (by omega), if_pos (by omega), rdOf_marks n.toNat P i (by omega), rdOf_marks n.toNat A i (by omega), wrap_nat (by omega)]
    cases hp : P i <;> cases ha : A i
    · rw [hp, ha, if_neg (by decide), if_neg (by decide), List.append_nil] at h3
      rw [if_neg (by decide), if_pos (by omega), Option.bind_some, if_pos (by omega), if_neg (by decide)]
      exact h3
    · rw [hp, ha, if_neg (by decide), if_pos rfl] at h3
      rw [if_neg (by decide), if_pos (by omega), Option.bind_some, if_pos (by omega), if_pos rfl, if_pos (by omega)]
      exact h3
    · rw [hp, ha, if_pos rfl, if_neg (by decide), List.append_nil, List.append_nil] at h3
      rw [if_pos rfl, if_pos (by omega), if_neg (by decide)]
      exact h3
    · rw [hp, ha, if_pos rfl, if_pos rfl, List.append_nil] at h3
      rw [if_pos rfl, if_pos (by omega), if_pos rfl, if_pos (by omega)]
      exact h3
theorem fixed_l1r (hn0 : 0 ≤ n) (hn : n ≤ 1000) (hel : es.length ≤ 1000) (i : Nat) (hi : i < es.length) (hne : es[i] ≠ []) (hin : ∀ x ∈ es[i], 0 ≤ x ∧ x < n) (hee : es[i].length ≤ 1000) (A : Nat → Bool) (r : List Int × List Int)
    (h0 : ∀ P A' : Nat → Bool, (∀ x, x < n.toNat → P x = Hyp.inB (es.take (i + 1)) x) → (∀ x, x < n.toNat → A' x = (A x || es[i] == [(x : Int)])) → ∃ K, ∀ k, K ≤ k → cleanseref27_Fixed.l0 k (Hyp.marks n.toNat P) (Hyp.marks n.toNat A') ((i + 1 : Nat) : Int) n cost es = some r) :
    ∀ (m j : Nat) (P : Nat → Bool), j + m = es[i].length → (∀ x, x < n.toNat → P x = (Hyp.inB (es.take i) x || (es[i].take j).contains (x : Int))) → ∃ K, ∀ k, K ≤ k → cleanseref27_Fixed.l1 k (Hyp.marks n.toNat P) (Hyp.marks n.toNat A) (i : Int) (j : Int) n cost es = some r := by
  intro m
  induction m with
  | zero =>
    intro j P hj hP
    obtain rfl : j = es[i].length := by omega
    have hP' : ∀ x, x < n.toNat → P x = Hyp.inB (es.take (i + 1)) x := fun x hx => by
      rw [hP x hx, List.take_length, List.take_succ_eq_append_getElem hi]
      unfold Hyp.inB
      rw [List.any_append]; simp
    by_cases h1 : es[i].length = 1
    · have h2 := Hyp.one_of h1
      have hv := hin (es[i].getD 0 0) (by rw [Hyp.getD_get _ 0 (by omega)]; exact List.getElem_mem _)
      have hrd : rd es[i] 0 = es[i].getD 0 0 := rfl
      have hset := Hyp.marks_set n.toNat A (es[i].getD 0 0).toNat
      obtain ⟨K, hK⟩ := h0 P (fun x => A x || x == (es[i].getD 0 0).toNat) hP' (fun x hx => by
        congr 1
        rw [Bool.eq_iff_iff, beq_iff_eq, beq_iff_eq]
        conv => rhs; rw [h2]
        simp only [List.cons.injEq, and_true]
        omega)
      refine ⟨K + 1, fun k hk => ?_⟩
      obtain ⟨k, rfl⟩ : ∃ j, k = j + 1 := ⟨k - 1, by omega⟩
      have hm := Hyp.marks_len n.toNat A
      rw [cleanseref27_Fixed.l1, if_pos (by omega), if_pos (by omega), rdL1_nat es hi, if_neg (by omega), if_pos (by omega), if_pos (by omega), hrd, if_pos (by omega), if_pos (by omega), hset, wrap_nat (by omega)]
      exact hK k (by omega)
    · obtain ⟨K, hK⟩ := h0 P A hP' (fun x hx => by
        have : (es[i] == [(x : Int)]) = false := by
          rw [beq_eq_false_iff_ne]
          intro h
          rw [h] at h1
          exact h1 rfl
        rw [this, Bool.or_false])
      refine ⟨K + 1, fun k hk => ?_⟩
      obtain ⟨k, rfl⟩ : ∃ j, k = j + 1 := ⟨k - 1, by omega⟩
      rw [cleanseref27_Fixed.l1, if_pos (by omega), if_pos (by omega), rdL1_nat es hi, if_neg (by omega), if_neg (by omega), wrap_nat (by omega)]
      exact hK k (by omega)
  | succ m ih =>
    intro j P hj hP
    have hjl : j < es[i].length := by omega
    have hv := hin _ (List.getElem_mem hjl)
    have hset := Hyp.marks_set n.toNat P (es[i][j]).toNat
    obtain ⟨K, hK⟩ := ih (j + 1) (fun x => P x || x == (es[i][j]).toNat) (by omega) (fun x hx => by
      rw [hP x hx, Bool.or_assoc]
      congr 1
      rw [List.take_succ_eq_append_getElem hjl, Bool.eq_iff_iff]
      simp only [Bool.or_eq_true, List.contains_iff_mem, beq_iff_eq, List.mem_append, List.mem_singleton]
      generalize es[i][j] = v at *
      constructor
      · rintro (h | h)
        · exact .inl h
        · exact .inr (by omega)
      · rintro (h | h)
        · exact .inl h
        · exact .inr (by omega))
    have hm := Hyp.marks_len n.toNat P
    refine ⟨K + 1, fun k hk => ?_⟩
    obtain ⟨k, rfl⟩ : ∃ j, k = j + 1 := ⟨k - 1, by omega⟩
    rw [cleanseref27_Fixed.l1, if_pos (by omega), if_pos (by omega), rdL1_nat es hi, if_pos (by omega), if_pos (by omega), rd_nat _ hjl, if_pos (by omega), if_pos (by omega), hset, wrap_nat (by omega)]
    exact hK k (by omega)
theorem fixed_l0r (hn0 : 0 ≤ n) (hn : n ≤ 1000) (hel : es.length ≤ 1000) (hin : ∀ e ∈ es, e ≠ [] ∧ ∀ x ∈ e, 0 ≤ x ∧ x < n) (hee : ∀ e ∈ es, e.length ≤ 1000) :
    ∀ (m i : Nat) (P A : Nat → Bool), i + m = es.length → (∀ x, x < n.toNat → P x = Hyp.inB (es.take i) x) → (∀ x, x < n.toNat → A x = Hyp.aloneB (es.take i) x) → ∃ K, ∀ k, K ≤ k → cleanseref27_Fixed.l0 k (Hyp.marks n.toNat P) (Hyp.marks n.toNat A) (i : Int) n cost es = some (Hyp.freeUp (Hyp.inB es) n.toNat, Hyp.upOf (Hyp.aloneB es) n.toNat) := by
  intro m
  induction m with
  | zero =>
    intro i P A hi hP hA
    rw [List.take_of_length_le (by omega)] at hP hA
    refine ⟨n.toNat + 2, fun k hk => ?_⟩
    obtain ⟨k, rfl⟩ : ∃ j, k = j + 1 := ⟨k - 1, by omega⟩
    rw [cleanseref27_Fixed.l0, if_neg (by omega), Hyp.marks_congr n.toNat hP, Hyp.marks_congr n.toNat hA]
    exact fixed_l2r hn0 hn (Hyp.inB es) (Hyp.aloneB es) n.toNat 0 (by omega) k (by omega)
  | succ m ih =>
    intro i P A hi hP hA
    have hlt : i < es.length := by omega
    obtain ⟨hne, hx⟩ := hin _ (List.getElem_mem hlt)
    obtain ⟨K, hK⟩ := fixed_l1r (cost := cost) hn0 hn hel i hlt hne hx (hee _ (List.getElem_mem hlt)) A _ (fun P' A' h1 h2 => ih (i + 1) P' A' (by omega) h1 (fun x hx => by
      rw [h2 x hx, hA x hx, List.take_succ_eq_append_getElem hlt]
      unfold Hyp.aloneB
      rw [List.any_append]; simp)) es[i].length 0 P (by omega) (fun x hx => by rw [hP x hx]; simp)
    refine ⟨K + 1, fun k hk => ?_⟩
    obtain ⟨k, rfl⟩ : ∃ j, k = j + 1 := ⟨k - 1, by omega⟩
    rw [cleanseref27_Fixed.l0, if_pos (by omega)]
    exact hK k (by omega)
end
theorem fixed_f (n : Int) (cost : List Int) (es : List (List Int)) (hn : n ≤ 1000) (hc : cost.length ≤ 1000) (hel : es.length ≤ 1000) (hee : ∀ e ∈ es, e.length ≤ 1000) : ∃ K, ∀ k, K ≤ k → cleanseref27_Fixed.f k n cost es = some (Hyp.fixedF n cost es) := by
  have hV := fun k hk => valid_f n cost es hc hel hee k hk
  unfold Hyp.fixedF
  by_cases hv : Hyp.validB n cost es = true
  · rw [if_pos hv]
    obtain ⟨v1, v2, v3, v4, v5, v6, v7⟩ := Hyp.valid_parts hv
    obtain ⟨K, hK⟩ := fixed_l0r (cost := cost) v1 hn hel (fun e he => ⟨(v6 e he).1, (v6 e he).2.1⟩) hee es.length 0 (fun _ => false) (fun _ => false) (by omega) (fun x hx => by simp [Hyp.inB]) (fun x hx => by simp [Hyp.aloneB])
    rw [Hyp.marks_none, Hyp.upOf_alone hv] at hK
    refine ⟨K + 5000002, fun k hk => ?_⟩
    unfold cleanseref27_Fixed.f
    rw [hV k (by omega), hv, Option.bind_some, if_pos rfl, if_pos v1, if_pos (by omega)]
    exact hK k (by omega)
  · rw [if_neg hv]
    refine ⟨5000002, fun k hk => ?_⟩
    unfold cleanseref27_Fixed.f
    rw [hV k (by omega), show Hyp.validB n cost es = false by simpa using hv, Option.bind_some, if_neg (by decide)]
end Hy
end Go.Proofs.YtgjbnmobhafajaaGreatDoor
end
