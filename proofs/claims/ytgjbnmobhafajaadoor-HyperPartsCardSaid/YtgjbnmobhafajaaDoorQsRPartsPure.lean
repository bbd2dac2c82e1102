/- The texts of this claim, RPartsPure. -/
import Derived.Test.YtgjbnmobhafajaaDoorQsRaRefs
import Derived.Test.YtgjbnmobhafajaaDoorQsRbMin
import Derived.Test.YtgjbnmobhafajaaDoorQsRPartsLift
set_option linter.unusedVariables false
set_option linter.unusedSimpArgs false
section
namespace Go.Proofs.YtgjbnmobhafajaaDoor
open Go Go.RowKit Go.Proofs.YtgjbnmobhafajaaDoorW.PrintWords Go.Proofs.YtgjbnmobhafajaaDoorW.PrintLast
def Hyp.localUp (s c : List Int) (j : Nat) : List Int := ((List.range j).filter fun k => decide (c.getD k 0 ∈ s)).map fun (k : Nat) => (k : Int)
theorem Hyp.localUp_succ (s c : List Int) (j : Nat) : Hyp.localUp s c (j + 1) = Hyp.localUp s c j ++ if c.getD j 0 ∈ s then [(j : Int)] else [] := by
  unfold Hyp.localUp
  rw [List.range_succ, List.filter_append, List.map_append]
  congr 1
  by_cases h : c.getD j 0 ∈ s
  · rw [if_pos h, List.filter_cons_of_pos (by simpa using h)]; rfl
  · rw [if_neg h, List.filter_cons_of_neg (by simpa using h)]; rfl
theorem Hyp.localUp_len (s c : List Int) (j : Nat) : (Hyp.localUp s c j).length ≤ j := by
  unfold Hyp.localUp
  rw [List.length_map]
  exact Nat.le_trans (List.length_filter_le _ _) (by simp)
theorem Hyp.localUp_inc (s c : List Int) (j : Nat) : Hyp.Inc (Hyp.localUp s c j) := Hyp.cast_inc ((Hyp.range_lt j).sublist List.filter_sublist)
theorem Hyp.mem_local {s c : List Int} {y : Int} : y ∈ Hyp.localUp s c c.length ↔ 0 ≤ y ∧ y < (c.length : Int) ∧ c.getD y.toNat 0 ∈ s := by
  unfold Hyp.localUp
  simp only [List.mem_map, List.mem_filter, List.mem_range, decide_eq_true_eq]
  constructor
  · rintro ⟨k, ⟨h1, h2⟩, rfl⟩
    exact ⟨by omega, by omega, h2⟩
  · rintro ⟨h1, h2, h3⟩
    exact ⟨y.toNat, ⟨by omega, h3⟩, by omega⟩
theorem Hyp.sub_local {s c e : List Int} (h : ∀ x ∈ e, x ∈ c) : Hyp.subB (e.map (Hyp.idx c)) (Hyp.localUp s c c.length) = Hyp.subB e s := by
  rw [Bool.eq_iff_iff, Hyp.subB_iff, Hyp.subB_iff]
  constructor
  · intro hs x hx
    have h1 := Hyp.mem_local.1 (hs _ (List.mem_map.2 ⟨x, hx, rfl⟩))
    rw [(Hyp.idx_mem (h x hx)).2.2] at h1
    exact h1.2.2
  · intro hs y hy
    obtain ⟨x, hx, rfl⟩ := List.mem_map.1 hy
    obtain ⟨h1, h2, h3⟩ := Hyp.idx_mem (h x hx)
    exact Hyp.mem_local.2 ⟨h1, h2, by rw [h3]; exact hs x hx⟩
def Hyp.freeB (es : List (List Int)) (s : List Int) : Bool := es.all fun e => e.isEmpty || !Hyp.subB e s
def Hyp.partFree (edges : List (List Int)) (s c : List Int) : Bool := Hyp.freeB (Hyp.partE c edges) (Hyp.localUp s c c.length)
theorem Hyp.parts_free {n : Int} {cost : List Int} {edges : List (List Int)} (h : Hyp.validB n cost edges = true) {r : Nat → Nat} (hr : Hyp.IsRoot n.toNat edges r) (s : List Int) :
    ((Hyp.compsUp r n.toNat).all fun c => Hyp.partFree edges s c) = Hyp.freeB edges s := by
  obtain ⟨h1, _, _, _, _, h6, _⟩ := Hyp.valid_parts h
  rw [Bool.eq_iff_iff]
  unfold Hyp.partFree Hyp.freeB
  simp only [List.all_eq_true]
  constructor
  · intro H e he
    obtain ⟨hne, hin, _⟩ := h6 e he
    have hp := List.length_pos_iff.2 hne
    have m0 : e.getD 0 0 ∈ e := by rw [Hyp.getD_get e 0 hp]; exact List.getElem_mem _
    have i0 := hin _ m0
    have hlt : (e.getD 0 0).toNat < n.toNat := by omega
    have hsub : ∀ x ∈ e, x ∈ Hyp.group r n.toNat (r (e.getD 0 0).toNat) := fun x hx => Hyp.mem_group.2 ⟨(hin x hx).1, by have := hin x hx; omega, hr.con e he x hx⟩
    have hc : Hyp.group r n.toNat (r (e.getD 0 0).toNat) ∈ Hyp.compsUp r n.toNat :=
      List.mem_map.2 ⟨_, Hyp.mem_rootsUp.2 ⟨Nat.lt_of_le_of_lt (hr.le _ hlt) hlt, hr.rr _ hlt⟩, rfl⟩
    have h2 := H _ hc (e.map (Hyp.idx _)) (Hyp.mem_partE.2 ⟨e, he, hsub, rfl⟩)
    rw [Hyp.sub_local hsub] at h2
    simpa using h2
  · intro H c hc e' he'
    obtain ⟨e, he, hsub, rfl⟩ := Hyp.mem_partE.1 he'
    rw [Hyp.sub_local hsub]
    simpa using H e he
namespace Hy
theorem parts_l1 (n : Int) (cost : List Int) (edges : List (List Int)) (s : List Int) (hsl : s.length ≤ 1000000) (L : List (List Int)) (i : Nat) (hi : i < L.length) (hc : L[i].length ≤ 1000000) (x : Bool) (n' : Int) (cost' : List Int) (E : List (List Int)) (hE : ∀ e ∈ E, Hyp.Inc e ∧ e.length ≤ 1000000) (hEl : E.length ≤ 1000000) (r : Bool) (hL : L.length ≤ 1000000)
    (h0 : ∃ K, ∀ k, K ≤ k → cleanselaw27_HyperParts.l0 k true s L (x && Hyp.freeB E (Hyp.localUp s L[i] L[i].length)) ((i + 1 : Nat) : Int) n cost edges = some r) :
    ∀ (m j : Nat), j + m = L[i].length → ∃ K, ∀ k, K ≤ k → cleanselaw27_HyperParts.l1 k true s L x (i : Int) (Hyp.localUp s L[i] j) (j : Int) n cost edges n' cost' E = some r := by
  intro m
  induction m with
  | zero =>
    intro j hj
    obtain ⟨K, hK⟩ := h0
    have hll := Hyp.localUp_len s L[i] L[i].length
    refine ⟨K + E.length + 2 * L[i].length + 4, fun k hk => ?_⟩
    obtain ⟨k, rfl⟩ : ∃ j, k = j + 1 := ⟨k - 1, by omega⟩
    obtain rfl : j = L[i].length := by omega
    rw [cleanselaw27_HyperParts.l1, if_pos (by omega), if_pos (by omega), rdL1_nat L hi, if_neg (by omega), wrap_nat (by omega)]
    have h2 := hK k (by omega)
    cases x with
    | true =>
      rw [if_pos rfl, free_f E _ (Hyp.localUp_inc _ _ _) (by omega) hE (by omega) k (by omega), Option.bind_some]
      rw [Bool.true_and] at h2
      exact h2
    | false =>
      rw [if_neg (by decide)]
      rw [Bool.false_and] at h2
      exact h2
  | succ m ih =>
    intro j hj
    obtain ⟨K, hK⟩ := ih (j + 1) (by omega)
    have hlt : j < L[i].length := by omega
    refine ⟨K + s.length + 2, fun k hk => ?_⟩
    obtain ⟨k, rfl⟩ : ∃ j, k = j + 1 := ⟨k - 1, by omega⟩
    have hll := Hyp.localUp_len s L[i] j
    rw [cleanselaw27_HyperParts.l1, if_pos (by omega), if_pos (by omega), rdL1_nat L hi, if_pos (by omega), if_pos (by omega), rd_nat _ hlt, in_f s _ (by omega) k (by omega), Option.bind_some, wrap_nat (by omega)]
    have h2 := hK k (by omega)
    rw [Hyp.localUp_succ, Hyp.getD_get _ j hlt] at h2
    by_cases hin : L[i][j] ∈ s
    · rw [if_pos (by simpa using hin), if_pos (by omega)]
      rw [if_pos hin] at h2
      exact h2
    · rw [if_neg (by simpa using hin)]
      rw [if_neg hin, List.append_nil] at h2
      exact h2
theorem parts_l0 (n : Int) (cost : List Int) (edges : List (List Int)) (s : List Int) (hs : Hyp.Inc s) (hsl : s.length ≤ 1000000) (hn : n ≤ 100) (hel : edges.length ≤ 1000) (hee : ∀ e ∈ edges, e.length ≤ 1000) (hv : Hyp.validB n cost edges = true) (L : List (List Int)) (hL : L.length ≤ 1000000) (hLs : ∀ c ∈ L, Hyp.isSetB c n = true) :
    ∀ (m i : Nat) (x : Bool), i + m = L.length → ∃ K, ∀ k, K ≤ k → cleanselaw27_HyperParts.l0 k true s L x (i : Int) n cost edges = some ((x && (L.drop i).all fun c => Hyp.partFree edges s c) == Hyp.freeB edges s) := by
  obtain ⟨v1, v2, v3, v4, v5, v6, v7⟩ := Hyp.valid_parts hv
  intro m
  induction m with
  | zero =>
    intro i x hi
    refine ⟨edges.length + 2 * s.length + 4, fun k hk => ?_⟩
    obtain ⟨k, rfl⟩ : ∃ j, k = j + 1 := ⟨k - 1, by omega⟩
    rw [cleanselaw27_HyperParts.l0, if_neg (by omega), if_pos rfl, free_f edges s hs hsl (fun e he => ⟨(v6 e he).2.2, by have := hee e he; omega⟩) (by omega) k (by omega), Option.bind_some, List.drop_eq_nil_of_le (by omega), List.all_nil, Bool.and_true]
    rfl
  | succ m ih =>
    intro i x hi
    have hlt : i < L.length := by omega
    have hset := hLs _ (List.getElem_mem hlt)
    have hcl := Hyp.set_len hset v1
    have hpv := Hyp.part_valid hv hset
    have hpl : (Hyp.partE L[i] edges).length ≤ edges.length := by
      unfold Hyp.partE
      rw [List.length_map]
      exact List.length_filter_le _ _
    have hpe : ∀ e ∈ Hyp.partE L[i] edges, Hyp.Inc e ∧ e.length ≤ 1000 := by
      intro e' he'
      have h1 := (Hyp.valid_parts hpv).2.2.2.2.2.1 e' he'
      obtain ⟨e, he, _, rfl⟩ := Hyp.mem_partE.1 he'
      refine ⟨h1.2.2, ?_⟩
      rw [List.length_map]; exact hee e he
    obtain ⟨K, hK⟩ := parts_l1 n cost edges s hsl L i hlt (by omega) x (L[i].length : Int) (Hyp.costsOf cost L[i]) (Hyp.partE L[i] edges) (fun e he => ⟨(hpe e he).1, by have := (hpe e he).2; omega⟩) (by omega) _ hL (ih (i + 1) _ (by omega)) L[i].length 0 (by omega)
    refine ⟨K + 3, fun k hk => ?_⟩
    obtain ⟨k, rfl⟩ : ∃ j, k = j + 2 := ⟨k - 2, by omega⟩
    have hP : hyper_Part.f n cost edges L[i] = some ((L[i].length : Int), Hyp.costsOf cost L[i], Hyp.partE L[i] edges, 0) := by
      unfold hyper_Part.f Hyp.partF
      rw [if_pos ⟨⟨hn, by omega, fun e he => by have := hee e he; omega⟩, by omega⟩, if_pos ⟨hv, hset⟩]
    have hV : hyper_Valid.f (L[i].length : Int) (Hyp.costsOf cost L[i]) (Hyp.partE L[i] edges) = some true := by
      unfold hyper_Valid.f
      rw [if_pos ⟨by omega, by omega, fun e he => by have := (hpe e he).2; omega⟩, hpv]
    rw [cleanselaw27_HyperParts.l0, if_pos (by omega), if_pos (by omega), rdL1_nat L hlt, hP, Option.bind_some]
    show (if (0 : Int) = 0 then _ else _) = _
    rw [if_pos rfl]
    show ((hyper_Valid.f (L[i].length : Int) (Hyp.costsOf cost L[i]) (Hyp.partE L[i] edges)).bind _) = _
    rw [hV, Option.bind_some, if_pos rfl]
    have hb : (((L[i].length : Nat) : Int) != ((L[i].length : Nat) : Int)) = false := by simp
    show cleanselaw27_HyperParts.j2 (k + 1) true s L x (i : Int) (((L[i].length : Nat) : Int) != ((L[i].length : Nat) : Int)) n cost edges _ _ _ = _
    rw [hb, cleanselaw27_HyperParts.j2, if_neg (by decide)]
    have h2 := hK k (by omega)
    rw [List.drop_eq_getElem_cons hlt, List.all_cons, ← Bool.and_assoc]
    exact h2
end Hy
theorem hyperPartsPure : HyperPartsPure := by
  intro n cost edges set hn hcw hew hcl hel hsw hsl
  have hhead : cleanselaw27_head.f = some true := rfl
  have hj : ∀ k, Hy.cleanselaw27_HyperParts.j0 (k + 1) set true true n cost edges = some true := fun k => by rw [Hy.cleanselaw27_HyperParts.j0, if_pos rfl]
  have hS := fun k hk => Hy.small_f n cost edges 60 60 hel k hk
  by_cases hsm : (decide (n ≤ 60) && (decide ((cost.length : Int) ≤ 60) && ((edges.all fun e => decide (e.length ≤ 10)) && decide ((edges.length : Int) ≤ 60)))) = true
  · rw [hsm] at hS
    simp only [Bool.and_eq_true, List.all_eq_true, decide_eq_true_eq] at hsm
    obtain ⟨hn60, hc60, he10, he60⟩ := hsm
    by_cases hs60 : set.length ≤ 60
    · have hV : hyper_Valid.f n cost edges = some (Hyp.validB n cost edges) := by
        unfold hyper_Valid.f
        rw [if_pos ⟨by omega, by omega, fun x hx => by have := he10 x hx; omega⟩]
      by_cases hv : Hyp.validB n cost edges = true
      · obtain ⟨v1, v2, v3, v4, v5, v6, v7⟩ := Hyp.valid_parts hv
        obtain ⟨r, hr, hcomp⟩ := Hyp.components_is hv
        have hC : hyper_Components.f n cost edges = some (Hyp.compsUp r n.toNat) := by
          unfold hyper_Components.f
          rw [if_pos ⟨by omega, by omega, fun x hx => by have := he10 x hx; omega⟩, if_pos hv, hcomp]
        have hLl : (Hyp.compsUp r n.toNat).length ≤ n.toNat := by
          rw [Hyp.compsUp_len]
          unfold Hyp.rank Hyp.rootsUp
          exact Nat.le_trans (List.length_filter_le _ _) (by simp)
        have hLs : ∀ c ∈ Hyp.compsUp r n.toNat, Hyp.isSetB c n = true := by
          intro c hc
          obtain ⟨t, _, _, rfl⟩ := Hyp.comp_of hc
          have := Hyp.group_set r n.toNat t
          rwa [show ((n.toNat : Nat) : Int) = n from by omega] at this
        have hso := Hyp.setOf_le set
        obtain ⟨K, hK⟩ := Hy.parts_l0 n cost edges (Hyp.setOf set) (Hyp.setOf_inc set) (by omega) (by omega) (by omega) (fun e he => by have := he10 e he; omega) hv (Hyp.compsUp r n.toNat) (by omega) hLs (Hyp.compsUp r n.toNat).length 0 true (by omega)
        obtain ⟨K2, hK2⟩ := Hy.set_f set (by omega)
        refine ⟨K + K2 + edges.length + 2, ?_⟩
        unfold Hy.cleanselaw27_HyperParts.f
        rw [hhead, Option.bind_some, hS _ (by omega), Option.bind_some, if_pos rfl, if_neg (by omega), hV, Option.bind_some, hv]
        show Hy.cleanselaw27_HyperParts.j0 (K + K2 + edges.length + 1 + 1) set true false n cost edges = some true
        rw [Hy.cleanselaw27_HyperParts.j0, if_neg (by decide), hK2 _ (by omega), Option.bind_some, hC, Option.bind_some]
        have h2 := hK (K + K2 + edges.length + 1) (by omega)
        rw [List.drop_zero, Hyp.parts_free hv hr, Bool.true_and, beq_self_eq_true] at h2
        exact h2
      · refine ⟨edges.length + 2, ?_⟩
        unfold Hy.cleanselaw27_HyperParts.f
        rw [hhead, Option.bind_some, hS _ (by omega), Option.bind_some, if_pos rfl, if_neg (by omega), hV, Option.bind_some, show Hyp.validB n cost edges = false by simpa using hv]
        exact hj _
    · refine ⟨edges.length + 2, ?_⟩
      unfold Hy.cleanselaw27_HyperParts.f
      rw [hhead, Option.bind_some, hS _ (by omega), Option.bind_some, if_pos rfl, if_pos (by omega)]
      exact hj _
  · refine ⟨edges.length + 2, ?_⟩
    unfold Hy.cleanselaw27_HyperParts.f
    rw [hhead, Option.bind_some, hS _ (by omega), Option.bind_some, if_neg hsm]
    exact hj _
end Go.Proofs.YtgjbnmobhafajaaDoor
end
