/- The texts of this claim, RbMin. -/
import Derived.Test.YtgjbnmobhafajaaDoorQsME
set_option linter.unusedVariables false
set_option linter.unusedSimpArgs false
section
namespace Go.Proofs.YtgjbnmobhafajaaDoor
open Go Go.RowKit Go.Proofs.YtgjbnmobhafajaaDoorW.PrintWords Go.Proofs.YtgjbnmobhafajaaDoorW.PrintLast
theorem Hyp.setsOf_inc {edges : List (List Int)} {e : List Int} (h : e ∈ Hyp.setsOf edges) : Hyp.Inc e ∧ e ≠ [] := by
  obtain ⟨x, hx, rfl⟩ := List.mem_map.1 h
  have hx2 : x ≠ [] := by simpa using (List.mem_filter.1 hx).2
  refine ⟨Hyp.setOf_inc x, fun e0 => ?_⟩
  have := Hyp.setOf_pos (List.length_pos_iff.2 hx2)
  rw [e0] at this
  simp at this
theorem Hyp.minimal_over (edges : List (List Int)) : ∀ e ∈ Hyp.setsOf edges, ∃ f ∈ Hyp.minimal edges, Hyp.subB f e = true := by
  intro e he
  obtain ⟨f, hf, h⟩ := (Hyp.run_is ((Hyp.setsOf edges).mergeSort fun a b => decide (a.length ≤ b.length))).over e (List.mem_mergeSort.2 he)
  exact ⟨f, List.mem_mergeSort.2 hf, h⟩
theorem Hyp.minimal_among {edges : List (List Int)} {e : List Int} (h : e ∈ Hyp.minimal edges) : e ∈ Hyp.setsOf edges := (((Hyp.minimal_is edges).mem e).1 h).1
theorem Hyp.setsOf_same {E : List (List Int)} (h : ∀ e ∈ E, Hyp.Inc e ∧ e ≠ []) : Hyp.setsOf E = E := by
  unfold Hyp.setsOf
  rw [List.filter_eq_self.2 (fun e he => by simpa using (h e he).2)]
  conv => rhs; rw [← List.map_id E]
  exact List.map_congr_left fun e he => Hyp.setOf_of_inc (h e he).1
theorem Hyp.minimal_idem (edges : List (List Int)) : Hyp.minimal (Hyp.minimal edges) = Hyp.minimal edges := by
  refine (Hyp.minimal_is _).unique ⟨(Hyp.minimal_is edges).sorted, fun e => ?_⟩
  rw [Hyp.setsOf_same (fun e he => Hyp.setsOf_inc (Hyp.minimal_among he))]
  refine ⟨fun h => ⟨h, fun f hf hs => (((Hyp.minimal_is edges).mem e).1 h).2 f (Hyp.minimal_among hf) hs⟩, fun h => h.1⟩
theorem Hyp.valid_sorted {n : Int} {cost : List Int} {edges : List (List Int)} (h : Hyp.validB n cost edges = true) : edges.Pairwise fun a b => Hyp.cmpL a b < 0 := by
  obtain ⟨_, _, _, _, _, _, hm⟩ := Hyp.valid_parts h
  have := (Hyp.minimal_is edges).sorted
  rw [hm] at this
  exact this
theorem Hyp.valid_apart {n : Int} {cost : List Int} {edges : List (List Int)} (h : Hyp.validB n cost edges = true) {e f : List Int} (he : e ∈ edges) (hf : f ∈ edges) (hs : Hyp.subB f e = true) : f = e := by
  obtain ⟨_, _, _, _, _, h6, hm⟩ := Hyp.valid_parts h
  have hs2 : Hyp.setsOf edges = edges := Hyp.setsOf_same fun e he => ⟨(h6 e he).2.2, (h6 e he).1⟩
  rw [← hm] at he
  refine (((Hyp.minimal_is edges).mem e).1 he).2 f ?_ hs
  rw [hs2]; exact hf
theorem Hyp.join_good {n : Nat} {r : Nat → Nat} (le : ∀ x, x < n → r x ≤ x) (rr : ∀ x, x < n → r (r x) = r x) {a b : Nat} (ra : r a = a) (rb : r b = b) :
    (∀ x, x < n → Hyp.join r (max a b) (min a b) x ≤ x) ∧ ∀ x, x < n → Hyp.join r (max a b) (min a b) (Hyp.join r (max a b) (min a b) x) = Hyp.join r (max a b) (min a b) x := by
  have hm : r (min a b) = min a b := by
    rcases Nat.le_total a b with h | h
    · rw [Nat.min_eq_left h]; exact ra
    · rw [Nat.min_eq_right h]; exact rb
  have hle : min a b ≤ max a b := by omega
  generalize max a b = M at *
  generalize min a b = m at *
  refine ⟨fun x hx => ?_, fun x hx => ?_⟩
  · have := le x hx
    unfold Hyp.join
    split <;> omega
  · have h2 := rr x hx
    by_cases h : r x = M
    · have e : Hyp.join r M m x = m := by unfold Hyp.join; rw [if_pos h]
      rw [e]
      unfold Hyp.join
      rw [hm]
      split <;> rfl
    · have e : Hyp.join r M m x = r x := by unfold Hyp.join; rw [if_neg h]
      rw [e]
      unfold Hyp.join
      rw [h2, if_neg h]
theorem Hyp.root_exists (n : Nat) (edges : List (List Int)) (hin : ∀ e ∈ edges, ∀ x ∈ e, 0 ≤ x ∧ x < (n : Int)) : ∃ r, Hyp.IsRoot n edges r := by
  have key : ∀ k, k ≤ edges.length → ∃ r, (∀ x, x < n → r x ≤ x) ∧ (∀ x, x < n → r (r x) = r x) ∧ Hyp.Conn n edges k 0 r := by
    intro k
    induction k with
    | zero => exact fun _ => ⟨id, fun x _ => Nat.le_refl x, fun _ _ => rfl, Hyp.Conn.start n edges⟩
    | succ k ih =>
      intro hk
      obtain ⟨r0, le0, rr0, c0⟩ := ih (by omega)
      have e1 : edges.getD k [] = edges[k] := by rw [List.getD_eq_getElem?_getD, List.getElem?_eq_getElem hk]; rfl
      have hem : edges.getD k [] ∈ edges := by rw [e1]; exact List.getElem_mem hk
      have inner : ∀ j, j ≤ (edges.getD k []).length → ∃ r, (∀ x, x < n → r x ≤ x) ∧ (∀ x, x < n → r (r x) = r x) ∧ Hyp.Conn n edges k j r := by
        intro j
        induction j with
        | zero => exact fun _ => ⟨r0, le0, rr0, c0⟩
        | succ j ih2 =>
          intro hj
          obtain ⟨r, le, rr, c⟩ := ih2 (by omega)
          have i0 := hin _ hem ((edges.getD k []).getD 0 0) (by rw [Hyp.getD_get _ 0 (by omega)]; exact List.getElem_mem _)
          have ij := hin _ hem ((edges.getD k []).getD j 0) (by rw [Hyp.getD_get _ j (by omega)]; exact List.getElem_mem _)
          have hc := c.join hk (by omega) (hin _ hem) rr (a := r ((edges.getD k []).getD 0 0).toNat) (b := r ((edges.getD k []).getD j 0).toNat) rfl rfl
          obtain ⟨g1, g2⟩ := Hyp.join_good le rr (a := r ((edges.getD k []).getD 0 0).toNat) (b := r ((edges.getD k []).getD j 0).toNat) (rr _ (by omega)) (rr _ (by omega))
          exact ⟨_, g1, g2, hc⟩
      obtain ⟨r, le, rr, c⟩ := inner _ (Nat.le_refl _)
      exact ⟨r, le, rr, c.next hk⟩
  obtain ⟨r, le, rr, c⟩ := key _ (Nat.le_refl _)
  have hd := c.done
  rw [List.take_length] at hd
  exact ⟨r, le, rr, hd, c.cls⟩
theorem Hyp.components_is {n : Int} {cost : List Int} {edges : List (List Int)} (h : Hyp.validB n cost edges = true) : ∃ r, Hyp.IsRoot n.toNat edges r ∧ Hyp.components n.toNat edges = Hyp.compsUp r n.toNat := by
  obtain ⟨h1, _, _, _, _, h6, _⟩ := Hyp.valid_parts h
  obtain ⟨r, hr⟩ := Hyp.root_exists n.toNat edges fun e he x hx => by have := (h6 e he).2.1 x hx; omega
  exact ⟨r, hr, Hyp.components_eq hr⟩
theorem Hyp.cast_inc {l : List Nat} (h : l.Pairwise (· < ·)) : Hyp.Inc (l.map fun (x : Nat) => (x : Int)) := by
  unfold Hyp.Inc
  rw [List.pairwise_map]
  exact h.imp fun h => by omega
theorem Hyp.range_lt (n : Nat) : (List.range n).Pairwise (· < ·) := List.pairwise_lt_range
theorem Hyp.group_inc (r : Nat → Nat) (n t : Nat) : Hyp.Inc (Hyp.group r n t) := Hyp.cast_inc ((Hyp.range_lt n).sublist List.filter_sublist)
theorem Hyp.mem_group {r : Nat → Nat} {n t : Nat} {x : Int} : x ∈ Hyp.group r n t ↔ 0 ≤ x ∧ x < (n : Int) ∧ r x.toNat = t := by
  unfold Hyp.group
  simp only [List.mem_map, List.mem_filter, List.mem_range, beq_iff_eq]
  constructor
  · rintro ⟨a, ⟨h1, h2⟩, rfl⟩
    exact ⟨by omega, by omega, by simpa using h2⟩
  · rintro ⟨h1, h2, h3⟩
    exact ⟨x.toNat, ⟨by omega, h3⟩, by omega⟩
theorem Hyp.group_set (r : Nat → Nat) (n t : Nat) : Hyp.isSetB (Hyp.group r n t) (n : Int) = true :=
  (Hyp.isSetB_iff _ _).2 ⟨fun x hx => ⟨(Hyp.mem_group.1 hx).1, (Hyp.mem_group.1 hx).2.1⟩, Hyp.group_inc r n t⟩
theorem Hyp.comp_of {r : Nat → Nat} {n : Nat} {c : List Int} (h : c ∈ Hyp.compsUp r n) : ∃ t, t < n ∧ r t = t ∧ c = Hyp.group r n t := by
  unfold Hyp.compsUp at h
  obtain ⟨t, ht, rfl⟩ := List.mem_map.1 h
  have := Hyp.mem_rootsUp.1 ht
  exact ⟨t, this.1, this.2, rfl⟩
theorem Hyp.set_len {c : List Int} {n : Int} (h : Hyp.isSetB c n = true) (h0 : 0 ≤ n) : (c.length : Int) ≤ n := by
  obtain ⟨h1, h2⟩ := (Hyp.isSetB_iff _ _).1 h
  have := (Hyp.inc_nodup h2).length_le_of_subset (l₂ := (List.range n.toNat).map fun (x : Nat) => (x : Int)) fun x hx => by
    have := h1 x hx
    exact List.mem_map.2 ⟨x.toNat, List.mem_range.2 (by omega), by omega⟩
  simp at this
  omega
theorem Hyp.idx_mem {c : List Int} {x : Int} (hx : x ∈ c) : 0 ≤ Hyp.idx c x ∧ Hyp.idx c x < (c.length : Int) ∧ c.getD (Hyp.idx c x).toNat 0 = x := by
  have h1 : c.idxOf x < c.length := List.idxOf_lt_length_iff.2 hx
  unfold Hyp.idx
  refine ⟨by omega, by omega, ?_⟩
  rw [show ((c.idxOf x : Nat) : Int).toNat = c.idxOf x from rfl, Hyp.getD_get c _ h1]
  exact List.getElem_idxOf h1
theorem Hyp.getD_mono {c : List Int} (hc : Hyp.Inc c) {i j : Nat} (hij : i < j) (hj : j < c.length) : c.getD i 0 < c.getD j 0 := by
  rw [Hyp.getD_get c i (by omega), Hyp.getD_get c j hj]
  exact List.pairwise_iff_getElem.1 hc i j (by omega) hj hij
theorem Hyp.idx_lt {c : List Int} (hc : Hyp.Inc c) {x y : Int} (hx : x ∈ c) (hy : y ∈ c) : Hyp.idx c x < Hyp.idx c y ↔ x < y := by
  obtain ⟨a1, a2, a3⟩ := Hyp.idx_mem hx
  obtain ⟨b1, b2, b3⟩ := Hyp.idx_mem hy
  generalize Hyp.idx c x = i at *
  generalize Hyp.idx c y = j at *
  rcases Int.lt_trichotomy i j with h | h | h
  · have := Hyp.getD_mono hc (i := i.toNat) (j := j.toNat) (by omega) (by omega)
    rw [a3, b3] at this
    exact ⟨fun _ => this, fun _ => h⟩
  · subst h
    rw [a3] at b3
    constructor <;> intro h <;> omega
  · have := Hyp.getD_mono hc (i := j.toNat) (j := i.toNat) (by omega) (by omega)
    rw [a3, b3] at this
    constructor <;> intro h <;> omega
theorem Hyp.idx_inj {c : List Int} {x y : Int} (hx : x ∈ c) (hy : y ∈ c) (h : Hyp.idx c x = Hyp.idx c y) : x = y := by
  obtain ⟨_, _, a3⟩ := Hyp.idx_mem hx
  obtain ⟨_, _, b3⟩ := Hyp.idx_mem hy
  rw [← a3, h, b3]
theorem Hyp.map_inc {c : List Int} (hc : Hyp.Inc c) : ∀ {e : List Int}, (∀ x ∈ e, x ∈ c) → Hyp.Inc e → Hyp.Inc (e.map (Hyp.idx c)) := by
  intro e h he
  unfold Hyp.Inc
  rw [List.pairwise_map]
  refine List.Pairwise.imp_of_mem ?_ he
  intro a b ha hb hab
  exact (Hyp.idx_lt hc (h a ha) (h b hb)).2 hab
theorem Hyp.cmpL_map {c : List Int} (hc : Hyp.Inc c) : ∀ {e f : List Int}, (∀ x ∈ e, x ∈ c) → (∀ x ∈ f, x ∈ c) → Hyp.cmpL (e.map (Hyp.idx c)) (f.map (Hyp.idx c)) = Hyp.cmpL e f := by
  intro e
  induction e with
  | nil => intro f _ _; cases f <;> rfl
  | cons x e ih =>
    intro f h1 h2
    cases f with
    | nil => rfl
    | cons y f =>
      have hx := h1 x List.mem_cons_self
      have hy := h2 y List.mem_cons_self
      simp only [List.map_cons, Hyp.cmpL, Hyp.idx_lt hc hx hy, Hyp.idx_lt hc hy hx, ih (fun z hz => h1 z (List.mem_cons_of_mem _ hz)) (fun z hz => h2 z (List.mem_cons_of_mem _ hz))]
theorem Hyp.subB_map {c e f : List Int} (h1 : ∀ x ∈ e, x ∈ c) (h2 : ∀ x ∈ f, x ∈ c) : Hyp.subB (f.map (Hyp.idx c)) (e.map (Hyp.idx c)) = Hyp.subB f e := by
  rw [Bool.eq_iff_iff, Hyp.subB_iff, Hyp.subB_iff]
  constructor
  · intro h x hx
    obtain ⟨y, hy, hxy⟩ := List.mem_map.1 (h _ (List.mem_map.2 ⟨x, hx, rfl⟩))
    rw [← Hyp.idx_inj (h1 y hy) (h2 x hx) hxy]; exact hy
  · intro h x hx
    obtain ⟨y, hy, rfl⟩ := List.mem_map.1 hx
    exact List.mem_map.2 ⟨y, h y hy, rfl⟩
theorem Hyp.mem_partE {vs : List Int} {edges : List (List Int)} {e' : List Int} : e' ∈ Hyp.partE vs edges ↔ ∃ e ∈ edges, (∀ x ∈ e, x ∈ vs) ∧ e' = e.map (Hyp.idx vs) := by
  unfold Hyp.partE
  simp only [List.mem_map, List.mem_filter, List.all_eq_true, List.contains_iff_mem]
  constructor
  · rintro ⟨e, ⟨h1, h2⟩, rfl⟩; exact ⟨e, h1, h2, rfl⟩
  · rintro ⟨e, h1, h2, rfl⟩; exact ⟨e, ⟨h1, h2⟩, rfl⟩
theorem Hyp.part_valid {n : Int} {cost : List Int} {edges : List (List Int)} (h : Hyp.validB n cost edges = true) {c : List Int} (hs : Hyp.isSetB c n = true) : Hyp.validB (c.length : Int) (Hyp.costsOf cost c) (Hyp.partE c edges) = true := by
  obtain ⟨h1, h2, h3, h4, h5, h6, h7⟩ := Hyp.valid_parts h
  obtain ⟨s1, s2⟩ := (Hyp.isSetB_iff _ _).1 hs
  have hl := Hyp.set_len hs h1
  have hE : ∀ e' ∈ Hyp.partE c edges, Hyp.Inc e' ∧ e' ≠ [] ∧ ∀ x ∈ e', 0 ≤ x ∧ x < (c.length : Int) := by
    intro e' he'
    obtain ⟨e, he, hsub, rfl⟩ := Hyp.mem_partE.1 he'
    refine ⟨Hyp.map_inc s2 hsub (h6 e he).2.2, by simpa using (h6 e he).1, fun x hx => ?_⟩
    obtain ⟨y, hy, rfl⟩ := List.mem_map.1 hx
    have := Hyp.idx_mem (hsub y hy)
    exact ⟨this.1, this.2.1⟩
  have hset : Hyp.setsOf (Hyp.partE c edges) = Hyp.partE c edges := Hyp.setsOf_same fun e he => ⟨(hE e he).1, (hE e he).2.1⟩
  have hmin : Hyp.minimal (Hyp.partE c edges) = Hyp.partE c edges := by
    refine (Hyp.minimal_is _).unique ⟨?_, fun e => ?_⟩
    · unfold Hyp.partE
      rw [List.pairwise_map]
      refine List.Pairwise.imp_of_mem ?_ ((Hyp.valid_sorted h).sublist List.filter_sublist)
      intro a b ha hb hab
      rw [Hyp.cmpL_map s2 (by simpa using (List.mem_filter.1 ha).2) (by simpa using (List.mem_filter.1 hb).2)]
      exact hab
    · rw [hset]
      refine ⟨fun he => ⟨he, fun f hf hfe => ?_⟩, fun he => he.1⟩
      obtain ⟨e0, he0, hse, rfl⟩ := Hyp.mem_partE.1 he
      obtain ⟨f0, hf0, hsf, rfl⟩ := Hyp.mem_partE.1 hf
      rw [Hyp.subB_map hse hsf] at hfe
      rw [Hyp.valid_apart h he0 hf0 hfe]
  unfold Hyp.validB Hyp.weighedB
  have hcl : (Hyp.costsOf cost c).length = c.length := by simp [Hyp.costsOf]
  have hpl : (Hyp.partE c edges).length ≤ edges.length := by
    unfold Hyp.partE
    rw [List.length_map]
    exact List.length_filter_le _ _
  have hbad : (Hyp.costsOf cost c).any Hyp.badCost = false := by
    rw [List.any_eq_false]
    intro x hx
    obtain ⟨v, hv, rfl⟩ := List.mem_map.1 hx
    have hv2 := s1 v hv
    have hvl : v.toNat < cost.length := by omega
    rw [Hyp.getD_get cost _ hvl, h4 _ (List.getElem_mem hvl)]
    decide
  rw [hmin, hbad, decide_eq_true (p := (0 : Int) ≤ (c.length : Int)) (by omega), decide_eq_true (p := (c.length : Int) ≤ 4000) (by omega), decide_eq_true (p := ((Hyp.costsOf cost c).length : Int) = (c.length : Int)) (by omega), decide_eq_true (p := (Hyp.partE c edges).length ≤ 20000) (by omega)]
  simp only [Bool.true_and, Bool.not_false, beq_self_eq_true, Bool.and_true, List.all_eq_true, Bool.and_eq_true, Bool.not_eq_true', List.isEmpty_eq_false_iff]
  intro e he
  exact ⟨(hE e he).2.1, (Hyp.isSetB_iff _ _).2 ⟨(hE e he).2.2, (hE e he).1⟩⟩
end Go.Proofs.YtgjbnmobhafajaaDoor
end
