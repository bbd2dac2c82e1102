/- The texts of this claim, RCompPure. -/
import Derived.Test.YtgjbnmobhafajaaDoorQsRaRefs
import Derived.Test.YtgjbnmobhafajaaDoorQsRbMin
import Derived.Test.YtgjbnmobhafajaaDoorQsRCompLift
set_option linter.unusedVariables false
set_option linter.unusedSimpArgs false
section
namespace Go.Proofs.YtgjbnmobhafajaaDoor
open Go Go.RowKit Go.Proofs.YtgjbnmobhafajaaDoorW.PrintWords Go.Proofs.YtgjbnmobhafajaaDoorW.PrintLast
def Hyp.cidx (r : Nat → Nat) (x : Nat) : Nat := Hyp.rank r (r x)
theorem Hyp.rootsUp_inc (r : Nat → Nat) (n : Nat) : (Hyp.rootsUp r n).Pairwise (· < ·) := (Hyp.range_lt n).sublist List.filter_sublist
theorem Hyp.rank_get {r : Nat → Nat} {n i : Nat} (hi : i < (Hyp.rootsUp r n).length) : Hyp.rank r (Hyp.rootsUp r n)[i] = i := by
  have hm := Hyp.mem_rootsUp.1 (List.getElem_mem hi)
  have h1 := Hyp.rootsUp_get (i := n) hm.1 hm.2
  obtain ⟨h2, h3⟩ := List.getElem?_eq_some_iff.1 h1
  have hs := List.pairwise_iff_getElem.1 (Hyp.rootsUp_inc r n)
  rcases Nat.lt_trichotomy (Hyp.rank r (Hyp.rootsUp r n)[i]) i with h | h | h
  · have := hs _ _ h2 hi h; omega
  · exact h
  · have := hs _ _ hi h2 h; omega
theorem Hyp.comp_len (r : Nat → Nat) (n : Nat) : (Hyp.compsUp r n).length = (Hyp.rootsUp r n).length := by simp [Hyp.compsUp]
theorem Hyp.comp_get {r : Nat → Nat} {n i : Nat} (hi : i < (Hyp.compsUp r n).length) (hi' : i < (Hyp.rootsUp r n).length) : (Hyp.compsUp r n)[i] = Hyp.group r n (Hyp.rootsUp r n)[i] := by simp [Hyp.compsUp]
section
variable {n : Nat} {edges : List (List Int)} {r : Nat → Nat}
theorem Hyp.cidx_lt (hr : Hyp.IsRoot n edges r) {x : Nat} (hx : x < n) : Hyp.cidx r x < (Hyp.compsUp r n).length := by
  have h1 := Hyp.rootsUp_get (i := n) (Nat.lt_of_le_of_lt (hr.le x hx) hx) (hr.rr x hx)
  rw [Hyp.comp_len]
  exact (List.getElem?_eq_some_iff.1 h1).1
theorem Hyp.mem_comp (hr : Hyp.IsRoot n edges r) {i : Nat} (hi : i < (Hyp.compsUp r n).length) {x : Int} : x ∈ (Hyp.compsUp r n)[i] ↔ 0 ≤ x ∧ x < (n : Int) ∧ Hyp.cidx r x.toNat = i := by
  have hi' : i < (Hyp.rootsUp r n).length := by rw [← Hyp.comp_len]; exact hi
  rw [Hyp.comp_get hi hi', Hyp.mem_group]
  constructor
  · rintro ⟨h1, h2, h3⟩
    refine ⟨h1, h2, ?_⟩
    unfold Hyp.cidx
    rw [h3, Hyp.rank_get]
  · rintro ⟨h1, h2, h3⟩
    refine ⟨h1, h2, ?_⟩
    have hx : x.toNat < n := by omega
    have h4 := Hyp.rootsUp_get (i := n) (Nat.lt_of_le_of_lt (hr.le _ hx) hx) (hr.rr _ hx)
    obtain ⟨h5, h6⟩ := List.getElem?_eq_some_iff.1 h4
    unfold Hyp.cidx at h3
    simp only [h3] at h6
    exact h6.symm
theorem Hyp.comp_head (hr : Hyp.IsRoot n edges r) {i : Nat} (hi : i < (Hyp.compsUp r n).length) (hi' : i < (Hyp.rootsUp r n).length) : 0 < (Hyp.compsUp r n)[i].length ∧ (Hyp.compsUp r n)[i].getD 0 0 = ((Hyp.rootsUp r n)[i] : Int) := by
  have hm := Hyp.mem_rootsUp.1 (List.getElem_mem hi')
  have hc := Hyp.comp_get hi hi'
  have hin : (((Hyp.rootsUp r n)[i] : Nat) : Int) ∈ (Hyp.compsUp r n)[i] := by
    rw [hc]
    exact Hyp.mem_group.2 ⟨by omega, by omega, by simpa using hm.2⟩
  have hinc : Hyp.Inc (Hyp.compsUp r n)[i] := by rw [hc]; exact Hyp.group_inc _ _ _
  have hp := List.length_pos_of_mem hin
  refine ⟨hp, ?_⟩
  have h0 : (Hyp.compsUp r n)[i].getD 0 0 ∈ (Hyp.compsUp r n)[i] := by rw [Hyp.getD_get _ 0 hp]; exact List.getElem_mem hp
  have hle : ((Hyp.rootsUp r n)[i] : Int) ≤ (Hyp.compsUp r n)[i].getD 0 0 := by
    rw [hc] at h0
    obtain ⟨h1, h2, h3⟩ := Hyp.mem_group.1 h0
    rw [hc]
    have := hr.le (((Hyp.group r n (Hyp.rootsUp r n)[i]).getD 0 0).toNat) (by omega)
    omega
  obtain ⟨j, hj, hje⟩ := List.mem_iff_getElem.1 hin
  rcases Nat.eq_zero_or_pos j with e | e
  · subst e
    rw [Hyp.getD_get _ 0 hp]; exact hje
  · have := List.pairwise_iff_getElem.1 hinc 0 j hp hj e
    rw [Hyp.getD_get _ 0 hp] at hle ⊢
    rw [hje] at this
    omega
end
def Hyp.whereOf (r : Nat → Nat) (n : Nat) (S : Nat → Bool) : List Int := (List.range n).map fun x => if S x = true then (Hyp.cidx r x : Int) else -1
theorem Hyp.where_len (r : Nat → Nat) (n : Nat) (S : Nat → Bool) : (Hyp.whereOf r n S).length = n := by simp [Hyp.whereOf]
theorem Hyp.where_get (r : Nat → Nat) (n : Nat) (S : Nat → Bool) {x : Nat} (hx : x < (Hyp.whereOf r n S).length) : (Hyp.whereOf r n S)[x] = if S x = true then (Hyp.cidx r x : Int) else -1 := by simp [Hyp.whereOf]
theorem Hyp.where_set (r : Nat → Nat) (n : Nat) (S T : Nat → Bool) (v : Nat) (h : ∀ x, x < n → T x = (S x || decide (x = v))) : (Hyp.whereOf r n S).set v (Hyp.cidx r v : Int) = Hyp.whereOf r n T := by
  refine List.ext_getElem (by simp [Hyp.whereOf]) fun x h1 h2 => ?_
  have hx : x < n := by simpa [Hyp.whereOf] using h2
  rw [List.getElem_set, Hyp.where_get, Hyp.where_get, h x hx]
  by_cases e : v = x
  · subst e
    rw [if_pos rfl, if_pos (by simp)]
  · rw [if_neg e, decide_eq_false (fun q => e q.symm), Bool.or_false]
theorem Hyp.where_congr (r : Nat → Nat) (n : Nat) (S T : Nat → Bool) (h : ∀ x, x < n → S x = T x) : Hyp.whereOf r n S = Hyp.whereOf r n T := by
  unfold Hyp.whereOf
  refine List.map_congr_left fun x hx => ?_
  rw [h x (List.mem_range.1 hx)]
def Hyp.doneS (r : Nat → Nat) (i : Nat) (l : List Int) (x : Nat) : Bool := decide (Hyp.cidx r x < i) || decide ((x : Int) ∈ l)
def Hyp.cntOf (r : Nat → Nat) (n i : Nat) : Nat := (List.range n).countP fun x => decide (Hyp.cidx r x < i)
theorem Hyp.cnt_succ (r : Nat → Nat) (n i : Nat) : Hyp.cntOf r n (i + 1) = Hyp.cntOf r n i + (List.range n).countP fun x => decide (Hyp.cidx r x = i) := by
  unfold Hyp.cntOf
  induction List.range n with
  | nil => rfl
  | cons a l ih =>
    rw [List.countP_cons, List.countP_cons, List.countP_cons, ih]
    by_cases h1 : Hyp.cidx r a < i
    · simp [h1, show Hyp.cidx r a < i + 1 by omega, show ¬ Hyp.cidx r a = i by omega]; omega
    · by_cases h2 : Hyp.cidx r a = i
      · simp [h2]; omega
      · simp [h1, h2, show ¬ Hyp.cidx r a < i + 1 by omega]
theorem Hyp.cnt_all {n : Nat} {edges : List (List Int)} {r : Nat → Nat} (hr : Hyp.IsRoot n edges r) : Hyp.cntOf r n (Hyp.compsUp r n).length = n := by
  unfold Hyp.cntOf
  rw [List.countP_eq_length.2 (fun x hx => by simpa using Hyp.cidx_lt hr (List.mem_range.1 hx)), List.length_range]
theorem Hyp.cnt_le (r : Nat → Nat) (n i : Nat) : Hyp.cntOf r n i ≤ n := by
  have := List.countP_le_length (p := fun x => decide (Hyp.cidx r x < i)) (l := List.range n)
  simpa [Hyp.cntOf] using this
theorem Hyp.comp_size {n : Nat} {edges : List (List Int)} {r : Nat → Nat} (hr : Hyp.IsRoot n edges r) {i : Nat} (hi : i < (Hyp.compsUp r n).length) : (Hyp.compsUp r n)[i].length = (List.range n).countP fun x => decide (Hyp.cidx r x = i) := by
  have hi' : i < (Hyp.rootsUp r n).length := by rw [← Hyp.comp_len]; exact hi
  rw [Hyp.comp_get hi hi']
  unfold Hyp.group
  rw [List.length_map, ← List.countP_eq_length_filter]
  refine List.countP_congr fun x hx => ?_
  have h1 := Hyp.mem_comp hr hi (x := (x : Int))
  rw [Hyp.comp_get hi hi', Hyp.mem_group] at h1
  have hx2 := List.mem_range.1 hx
  simp only [Int.toNat_natCast] at h1
  simp only [beq_iff_eq, decide_eq_true_eq]
  exact ⟨fun h => (h1.1 ⟨by omega, by omega, h⟩).2.2, fun h => (h1.2 ⟨by omega, by omega, h⟩).2.2⟩
namespace Hy
section
variable {n : Int} {cost : List Int} {edges : List (List Int)} {cls : List Int} {r : Nat → Nat}
theorem comp_l5 (hn0 : 0 ≤ n) (hr : Hyp.IsRoot n.toNat edges r) (hcl : n ≤ (cls.length : Int)) (hL : (Hyp.compsUp r n.toNat).length ≤ 1000) (hn : n ≤ 1000)
    (hsame : ∀ x, x < n.toNat → cls.getD (r x) 0 = cls.getD x 0) : ∀ (m i : Nat), i + m = (Hyp.compsUp r n.toNat).length → ∃ K, ∀ k, K ≤ k → cleanselaw27_HyperComponents.l5 k cls true (Hyp.compsUp r n.toNat) true (i : Int) = some true := by
  intro m
  induction m with
  | zero =>
    intro i hi
    refine ⟨3, fun k hk => ?_⟩
    obtain ⟨k, rfl⟩ : ∃ j, k = j + 2 := ⟨k - 2, by omega⟩
    rw [cleanselaw27_HyperComponents.l5, if_neg (by omega), cleanselaw27_HyperComponents.j7, if_neg (by decide)]
  | succ m ih =>
    intro i hi
    have hlt : i < (Hyp.compsUp r n.toNat).length := by omega
    have hlt' : i < (Hyp.rootsUp r n.toNat).length := by rw [← Hyp.comp_len]; exact hlt
    obtain ⟨K, hK⟩ := ih (i + 1) (by omega)
    obtain ⟨hp, hh⟩ := Hyp.comp_head hr hlt hlt'
    have hm := Hyp.mem_rootsUp.1 (List.getElem_mem hlt')
    have hsz : (Hyp.compsUp r n.toNat)[i].length ≤ n.toNat := by
      rw [Hyp.comp_size hr hlt]
      have := List.countP_le_length (p := fun x => decide (Hyp.cidx r x = i)) (l := List.range n.toNat)
      simpa using this
    have h6 : ∀ (d j : Nat), j + d = (Hyp.compsUp r n.toNat)[i].length → ∀ k, K + d + 1 ≤ k → cleanselaw27_HyperComponents.l6 k cls true (Hyp.compsUp r n.toNat) true (i : Int) (j : Int) = some true := by
      intro d
      induction d with
      | zero =>
        intro j hj k hk
        obtain ⟨k, rfl⟩ : ∃ j, k = j + 1 := ⟨k - 1, by omega⟩
        rw [cleanselaw27_HyperComponents.l6, if_pos (by omega), if_pos (by omega), rdL1_nat _ hlt, if_neg (by omega), wrap_nat (by omega)]
        exact hK k (by omega)
      | succ d ih6 =>
        intro j hj k hk
        obtain ⟨k, rfl⟩ : ∃ j, k = j + 1 := ⟨k - 1, by omega⟩
        have hjl : j < (Hyp.compsUp r n.toNat)[i].length := by omega
        have hv := (Hyp.mem_comp hr hlt).1 (List.getElem_mem hjl)
        have hi' : (Hyp.compsUp r n.toNat)[i] = Hyp.group r n.toNat (Hyp.rootsUp r n.toNat)[i] := Hyp.comp_get hlt hlt'
        have hg := List.getElem_mem hjl
        generalize hvv : (Hyp.compsUp r n.toNat)[i][j] = v at *
        rw [hi', Hyp.mem_group] at hg
        have h0 : rd (Hyp.compsUp r n.toNat)[i] 0 = ((Hyp.rootsUp r n.toNat)[i] : Int) := by
          have := rd_nat (Hyp.compsUp r n.toNat)[i] hp
          rw [show ((0 : Nat) : Int) = 0 from rfl] at this
          rw [this, ← Hyp.getD_get _ 0 hp, hh]
        rw [cleanselaw27_HyperComponents.l6, if_pos (by omega), if_pos (by omega), rdL1_nat _ hlt, if_pos (by omega), if_pos (by omega), rd_nat _ hjl, hvv, h0, if_pos (by omega), if_pos (by omega), if_pos (by omega), if_pos (by omega), if_pos (by omega), wrap_nat (by omega), ih6 (j + 1) (by omega) k (by omega)]
        refine if_pos ?_
        have := hsame v.toNat (by omega)
        rw [hg.2.2] at this
        simp only [rd, Int.toNat_natCast]
        exact this.symm
    refine ⟨K + (Hyp.compsUp r n.toNat)[i].length + 3, fun k hk => ?_⟩
    obtain ⟨k, rfl⟩ : ∃ j, k = j + 2 := ⟨k - 2, by omega⟩
    rw [cleanselaw27_HyperComponents.l5, if_pos (by omega), cleanselaw27_HyperComponents.j7, if_pos rfl]
    exact h6 (Hyp.compsUp r n.toNat)[i].length 0 (by omega) k (by omega)
theorem comp_l5_no (L : List (List Int)) : ∀ k, 2 ≤ k → ∀ i : Int, cleanselaw27_HyperComponents.l5 k cls true L false i = some true := by
  intro k hk i
  obtain ⟨k, rfl⟩ : ∃ j, k = j + 2 := ⟨k - 2, by omega⟩
  rw [cleanselaw27_HyperComponents.l5]
  split <;> rw [cleanselaw27_HyperComponents.j7, if_neg (by decide)]
structure Kept (n : Int) (edges : List (List Int)) (cls : List Int) (i k : Nat) (x : Bool) : Prop where
  len : x = true → n ≤ (cls.length : Int)
  past : x = true → ∀ e ∈ edges.take i, ∀ q, 1 ≤ q → q < e.length → cls.getD (e.getD (q - 1) 0).toNat 0 = cls.getD (e.getD q 0).toNat 0
  cur : x = true → ∀ q, 1 ≤ q → q < k → cls.getD ((edges.getD i []).getD (q - 1) 0).toNat 0 = cls.getD ((edges.getD i []).getD q 0).toNat 0
theorem kept_same (hr : Hyp.IsRoot n.toNat edges r) (hin : ∀ e ∈ edges, ∀ x ∈ e, 0 ≤ x ∧ x < n) (hu : ∀ x ∈ cls, 0 ≤ x ∧ x ≤ 255) (h : ∀ e ∈ edges, ∀ q, 1 ≤ q → q < e.length → cls.getD (e.getD (q - 1) 0).toNat 0 = cls.getD (e.getD q 0).toNat 0) (hn0 : 0 ≤ n) (hcl : n ≤ (cls.length : Int)) :
    ∀ x, x < n.toNat → cls.getD (r x) 0 = cls.getD x 0 := by
  have hpos : ∀ x, x < n.toNat → 0 ≤ cls.getD x 0 := fun x hx => by
    rw [Hyp.getD_get cls x (by omega)]
    exact (hu _ (List.getElem_mem _)).1
  have h0 : ∀ e ∈ edges, ∀ q, q < e.length → cls.getD (e.getD q 0).toNat 0 = cls.getD (e.getD 0 0).toNat 0 := by
    intro e he q
    induction q with
    | zero => exact fun _ => rfl
    | succ q ih =>
      intro hq
      rw [← ih (by omega)]
      exact (h e he (q + 1) (by omega) hq).symm
  have hc := hr.cls (fun v => (cls.getD v 0).toNat) (fun e he x hx => by
    obtain ⟨q, hq, rfl⟩ := List.mem_iff_getElem.1 hx
    have := h0 e he q hq
    rw [Hyp.getD_get e q hq] at this
    show (cls.getD _ 0).toNat = (cls.getD _ 0).toNat
    rw [this])
  intro x hx
  have h1 := hc x hx
  have h2 := hpos x hx
  have h3 := hpos (r x) (Nat.lt_of_le_of_lt (hr.le x hx) hx)
  have h4 : (cls.getD (r x) 0).toNat = (cls.getD x 0).toNat := h1
  omega
theorem comp_l3 (hn0 : 0 ≤ n) (hn : n ≤ 1000) (hr : Hyp.IsRoot n.toNat edges r) (hin : ∀ e ∈ edges, e ≠ [] ∧ ∀ x ∈ e, 0 ≤ x ∧ x < n) (hel : edges.length ≤ 1000) (hee : ∀ e ∈ edges, e.length ≤ 1000) (hu : ∀ x ∈ cls, 0 ≤ x ∧ x ≤ 255) (hL : (Hyp.compsUp r n.toNat).length ≤ 1000) (W : List Int) (hW : W = Hyp.whereOf r n.toNat fun _ => true) :
    ∀ (m i : Nat) (x : Bool), i + m = edges.length → Kept n edges cls i 1 x → ∃ K, ∀ k, K ≤ k → cleanselaw27_HyperComponents.l3 k cls true (Hyp.compsUp r n.toNat) W x (i : Int) n cost edges = some true := by
  have hWl : W.length = n.toNat := by rw [hW, Hyp.where_len]
  intro m
  induction m with
  | zero =>
    intro i x hi hk
    cases x with
    | false =>
      refine ⟨3, fun k hk => ?_⟩
      obtain ⟨k, rfl⟩ : ∃ j, k = j + 1 := ⟨k - 1, by omega⟩
      rw [cleanselaw27_HyperComponents.l3, if_neg (by omega)]
      exact comp_l5_no _ k (by omega) 0
    | true =>
      have hp := hk.past rfl
      rw [List.take_of_length_le (by omega)] at hp
      obtain ⟨K, hK⟩ := comp_l5 (cls := cls) hn0 hr (hk.len rfl) hL hn (kept_same hr (fun e he => (hin e he).2) hu hp hn0 (hk.len rfl)) (Hyp.compsUp r n.toNat).length 0 (by omega)
      refine ⟨K + 1, fun k hk => ?_⟩
      obtain ⟨k, rfl⟩ : ∃ j, k = j + 1 := ⟨k - 1, by omega⟩
      rw [cleanselaw27_HyperComponents.l3, if_neg (by omega)]
      exact hK k (by omega)
  | succ m ih =>
    intro i x hi hk
    have hlt : i < edges.length := by omega
    have hmem : edges[i] ∈ edges := List.getElem_mem hlt
    obtain ⟨hne, hei⟩ := hin _ hmem
    have hb := hee _ hmem
    have hgi : edges.getD i [] = edges[i] := by rw [List.getD_eq_getElem?_getD, List.getElem?_eq_getElem hlt]; rfl
    have h4 : ∀ (d k : Nat) (x : Bool), k + d = edges[i].length → 1 ≤ k → Kept n edges cls i k x → ∃ K, ∀ q, K ≤ q → cleanselaw27_HyperComponents.l4 q cls true (Hyp.compsUp r n.toNat) W x (i : Int) (k : Int) n cost edges = some true := by
      intro d
      induction d with
      | zero =>
        intro k x hkd hk1 hkk
        obtain ⟨K, hK⟩ := ih (i + 1) x (by omega) ⟨hkk.len, fun hx e he q h1 h2 => by
          rw [List.take_succ_eq_append_getElem hlt] at he
          rcases List.mem_append.1 he with he | he
          · exact hkk.past hx e he q h1 h2
          · rw [List.mem_singleton.1 he] at h2 ⊢
            have := hkk.cur hx q h1 (by omega)
            rw [hgi] at this
            exact this, fun hx q h1 h2 => by omega⟩
        refine ⟨K + 1, fun q hq => ?_⟩
        obtain ⟨q, rfl⟩ : ∃ j, q = j + 1 := ⟨q - 1, by omega⟩
        rw [cleanselaw27_HyperComponents.l4, if_pos (by omega), if_pos (by omega), rdL1_nat _ hlt, if_neg (by omega), wrap_nat (by omega)]
        exact hK q (by omega)
      | succ d ih4 =>
        intro k x hkd hk1 hkk
        have hkl : k < edges[i].length := by omega
        have hkl' : k - 1 < edges[i].length := by omega
        have e0 : wrap64 ((k : Int) - 1) = ((k - 1 : Nat) : Int) := by rw [wrap_small (by omega) (by omega)]; omega
        have ha := hei _ (List.getElem_mem hkl')
        have hbb := hei _ (List.getElem_mem hkl)
        have hra := hr.con _ hmem _ (List.getElem_mem hkl')
        have hrb := hr.con _ hmem _ (List.getElem_mem hkl)
        have hga : edges[i].getD (k - 1) 0 = edges[i][k - 1] := Hyp.getD_get _ _ hkl'
        have hgb : edges[i].getD k 0 = edges[i][k] := Hyp.getD_get _ _ hkl
        generalize edges[i][k - 1] = a at *
        generalize edges[i][k] = b at *
        have hwa : rd W a = (Hyp.cidx r a.toNat : Int) := by
          have h1 : a.toNat < W.length := by omega
          unfold rd
          rw [Hyp.getD_get W _ h1]
          subst hW
          rw [Hyp.where_get, if_pos rfl]
        have hwb : rd W b = (Hyp.cidx r b.toNat : Int) := by
          have h1 : b.toNat < W.length := by omega
          unfold rd
          rw [Hyp.getD_get W _ h1]
          subst hW
          rw [Hyp.where_get, if_pos rfl]
        have hwe : rd W a = rd W b := by
          rw [hwa, hwb]
          unfold Hyp.cidx
          rw [hra, hrb]
        have key : ∀ y : Bool, (y = true → x = true ∧ cls.getD a.toNat 0 = cls.getD b.toNat 0) → ∃ K, ∀ q, K ≤ q → cleanselaw27_HyperComponents.l4 q cls true (Hyp.compsUp r n.toNat) W y (i : Int) ((k + 1 : Nat) : Int) n cost edges = some true := by
          intro y hy
          refine ih4 (k + 1) y (by omega) (by omega) ⟨fun h => hkk.len (hy h).1, fun h => hkk.past (hy h).1, fun h q h1 h2 => ?_⟩
          by_cases hq : q < k
          · exact hkk.cur (hy h).1 q h1 hq
          · obtain rfl : q = k := by omega
            rw [hgi, hga, hgb]
            exact (hy h).2
        cases x with
        | false =>
          obtain ⟨K, hK⟩ := key false (fun h => by cases h)
          refine ⟨K + 1, fun q hq => ?_⟩
          obtain ⟨q, rfl⟩ : ∃ j, q = j + 1 := ⟨q - 1, by omega⟩
          rw [cleanselaw27_HyperComponents.l4, if_pos (by omega), if_pos (by omega), rdL1_nat _ hlt, if_pos (by omega), e0, if_pos (by omega), if_pos (by omega), if_pos (by omega), rd_nat _ hkl', rd_nat _ hkl]
          rw [show edges[i][k - 1] = a from by rw [← hga, Hyp.getD_get _ _ hkl'], show edges[i][k] = b from by rw [← hgb, Hyp.getD_get _ _ hkl]]
          rw [if_pos (by omega), if_pos (by omega), if_pos (by omega), if_pos (by omega), if_pos hwe, if_neg (by decide), wrap_nat (by omega)]
          exact hK q (by omega)
        | true =>
          have hcl := hkk.len rfl
          obtain ⟨K, hK⟩ := key (rd cls a == rd cls b) (fun h => ⟨rfl, by simpa [rd] using h⟩)
          refine ⟨K + 1, fun q hq => ?_⟩
          obtain ⟨q, rfl⟩ : ∃ j, q = j + 1 := ⟨q - 1, by omega⟩
          rw [cleanselaw27_HyperComponents.l4, if_pos (by omega), if_pos (by omega), rdL1_nat _ hlt, if_pos (by omega), e0, if_pos (by omega), if_pos (by omega), if_pos (by omega), rd_nat _ hkl', rd_nat _ hkl]
          rw [show edges[i][k - 1] = a from by rw [← hga, Hyp.getD_get _ _ hkl'], show edges[i][k] = b from by rw [← hgb, Hyp.getD_get _ _ hkl]]
          rw [if_pos (by omega), if_pos (by omega), if_pos (by omega), if_pos (by omega), if_pos hwe, if_pos rfl, if_pos (by omega), if_pos (by omega), wrap_nat (by omega)]
          exact hK q (by omega)
    obtain ⟨K, hK⟩ := h4 (edges[i].length - 1) 1 x (by have := List.length_pos_iff.2 hne; omega) (by omega) hk
    refine ⟨K + 1, fun k hk => ?_⟩
    obtain ⟨k, rfl⟩ : ∃ j, k = j + 1 := ⟨k - 1, by omega⟩
    rw [cleanselaw27_HyperComponents.l3, if_pos (by omega)]
    exact hK k (by omega)
theorem comp_l1 (hn0 : 0 ≤ n) (hn : n ≤ 1000) (hr : Hyp.IsRoot n.toNat edges r) (hL : (Hyp.compsUp r n.toNat).length ≤ 1000)
    (h3 : ∃ K, ∀ k, K ≤ k → cleanselaw27_HyperComponents.l3 k cls true (Hyp.compsUp r n.toNat) (Hyp.whereOf r n.toNat fun _ => true) (decide ((cls.length : Int) ≥ n)) 0 n cost edges = some true) :
    ∀ (m i : Nat), i + m = (Hyp.compsUp r n.toNat).length → ∃ K, ∀ k, K ≤ k → cleanselaw27_HyperComponents.l1 k cls true (Hyp.compsUp r n.toNat) (Hyp.whereOf r n.toNat (Hyp.doneS r i [])) (Hyp.cntOf r n.toNat i : Int) (i : Int) n cost edges = some true := by
  intro m
  induction m with
  | zero =>
    intro i hi
    obtain ⟨K, hK⟩ := h3
    refine ⟨K + 1, fun k hk => ?_⟩
    obtain ⟨k, rfl⟩ : ∃ j, k = j + 1 := ⟨k - 1, by omega⟩
    obtain rfl : i = (Hyp.compsUp r n.toNat).length := by omega
    rw [cleanselaw27_HyperComponents.l1, if_neg (by omega), Hyp.cnt_all hr, if_pos (by omega), Hyp.where_congr r n.toNat _ (fun _ => true) (fun x hx => by unfold Hyp.doneS; rw [decide_eq_true (Hyp.cidx_lt hr hx), Bool.true_or])]
    exact hK k (by omega)
  | succ m ih =>
    intro i hi
    have hlt : i < (Hyp.compsUp r n.toNat).length := by omega
    have hlt' : i < (Hyp.rootsUp r n.toNat).length := by rw [← Hyp.comp_len]; exact hlt
    obtain ⟨K, hK⟩ := ih (i + 1) (by omega)
    obtain ⟨hp, hh⟩ := Hyp.comp_head hr hlt hlt'
    have hset : Hyp.isSetB (Hyp.compsUp r n.toNat)[i] n = true := by
      rw [Hyp.comp_get hlt hlt']
      have := Hyp.group_set r n.toNat (Hyp.rootsUp r n.toNat)[i]
      rwa [show ((n.toNat : Nat) : Int) = n from by omega] at this
    have hsz : (Hyp.compsUp r n.toNat)[i].length ≤ n.toNat := by have := Hyp.set_len hset hn0; omega
    have hinc := ((Hyp.isSetB_iff _ _).1 hset).2
    have hcs := Hyp.cnt_succ r n.toNat i
    rw [← Hyp.comp_size hr hlt] at hcs
    have hcle := Hyp.cnt_le r n.toNat (i + 1)
    have h2 : ∀ (d j : Nat), j + d = (Hyp.compsUp r n.toNat)[i].length → ∀ k, K + d + 1 ≤ k →
        cleanselaw27_HyperComponents.l2 k cls true (Hyp.compsUp r n.toNat) (Hyp.whereOf r n.toNat (Hyp.doneS r i ((Hyp.compsUp r n.toNat)[i].take j))) ((Hyp.cntOf r n.toNat i + j : Nat) : Int) (i : Int) (j : Int) n cost edges = some true := by
      intro d
      induction d with
      | zero =>
        intro j hj k hk
        obtain ⟨k, rfl⟩ : ∃ j, k = j + 1 := ⟨k - 1, by omega⟩
        obtain rfl : j = (Hyp.compsUp r n.toNat)[i].length := by omega
        rw [cleanselaw27_HyperComponents.l2, if_pos (by omega), if_pos (by omega), rdL1_nat _ hlt, if_neg (by omega), wrap_nat (by omega), ← hcs, List.take_length]
        rw [Hyp.where_congr r n.toNat _ (Hyp.doneS r (i + 1) []) (fun x hx => by
          unfold Hyp.doneS
          rw [Bool.eq_iff_iff]
          simp only [Bool.or_eq_true, decide_eq_true_eq, List.not_mem_nil, or_false]
          rw [Hyp.mem_comp hr hlt]
          simp only [Int.toNat_natCast]
          constructor
          · rintro (h | h) <;> omega
          · intro h
            by_cases he : Hyp.cidx r x < i
            · exact .inl he
            · exact .inr ⟨by omega, by omega, by omega⟩)]
        exact hK k (by omega)
      | succ d ih2 =>
        intro j hj k hk
        obtain ⟨k, rfl⟩ : ∃ j, k = j + 1 := ⟨k - 1, by omega⟩
        have hjl : j < (Hyp.compsUp r n.toNat)[i].length := by omega
        have hv := (Hyp.mem_comp hr hlt).1 (List.getElem_mem hjl)
        have hnot : (Hyp.compsUp r n.toNat)[i][j] ∉ (Hyp.compsUp r n.toNat)[i].take j := by
          intro h
          obtain ⟨q, hq, hqe⟩ := List.mem_iff_getElem.1 h
          rw [List.length_take] at hq
          rw [List.getElem_take] at hqe
          have := List.pairwise_iff_getElem.1 hinc q j (by omega) hjl (by omega)
          omega
        have htake := List.take_succ_eq_append_getElem hjl
        generalize (Hyp.compsUp r n.toNat)[i][j] = v at *
        have hrd : rd (Hyp.compsUp r n.toNat)[i] (j : Int) = v := by
          have h7 := congrArg (fun l => l.getD j 0) htake
          simp only [List.getD_eq_getElem?_getD, List.getElem?_take] at h7
          rw [rd_nat _ hjl]
          rw [if_pos (by omega), List.getElem?_eq_getElem hjl, List.getElem?_append_right (by rw [List.length_take]; omega)] at h7
          simpa [List.length_take, Nat.min_eq_left (Nat.le_of_lt hjl)] using h7
        have hwl : (Hyp.whereOf r n.toNat (Hyp.doneS r i ((Hyp.compsUp r n.toNat)[i].take j))).length = n.toNat := Hyp.where_len _ _ _
        have hnd : Hyp.doneS r i ((Hyp.compsUp r n.toNat)[i].take j) v.toNat = false := by
          unfold Hyp.doneS
          rw [decide_eq_false (by omega), decide_eq_false (by rw [show ((v.toNat : Nat) : Int) = v from by omega]; exact hnot)]; rfl
        have hrw : rd (Hyp.whereOf r n.toNat (Hyp.doneS r i ((Hyp.compsUp r n.toNat)[i].take j))) v = -1 := by
          have h1 : v.toNat < (Hyp.whereOf r n.toNat (Hyp.doneS r i ((Hyp.compsUp r n.toNat)[i].take j))).length := by omega
          unfold rd
          rw [Hyp.getD_get _ _ h1, Hyp.where_get, hnd, if_neg (by decide)]
        have hst : (Hyp.whereOf r n.toNat (Hyp.doneS r i ((Hyp.compsUp r n.toNat)[i].take j))).set v.toNat (i : Int) = Hyp.whereOf r n.toNat (Hyp.doneS r i ((Hyp.compsUp r n.toNat)[i].take (j + 1))) := by
          have h8 := Hyp.where_set r n.toNat (Hyp.doneS r i ((Hyp.compsUp r n.toNat)[i].take j)) (Hyp.doneS r i ((Hyp.compsUp r n.toNat)[i].take (j + 1))) v.toNat (fun x hx => by
            unfold Hyp.doneS
            rw [htake, Bool.eq_iff_iff]
            simp only [Bool.or_eq_true, decide_eq_true_eq, List.mem_append, List.mem_singleton]
            rw [show (x : Int) = v ↔ x = v.toNat from by omega, or_assoc])
          rw [hv.2.2] at h8
          exact h8
        rw [cleanselaw27_HyperComponents.l2, if_pos (by omega), if_pos (by omega), rdL1_nat _ hlt, if_pos (by omega), if_pos (by omega), hrd, if_pos (by omega), if_pos (by omega), hrw, if_neg (by omega), hst, wrap_nat (by omega), wrap_nat (by omega)]
        exact ih2 (j + 1) (by omega) k (by omega)
    refine ⟨K + (Hyp.compsUp r n.toNat)[i].length + 2000, fun k hk => ?_⟩
    obtain ⟨k, rfl⟩ : ∃ j, k = j + 2 := ⟨k - 2, by omega⟩
    have hj2 : cleanselaw27_HyperComponents.j2 (k + 1) cls true (Hyp.compsUp r n.toNat) (Hyp.whereOf r n.toNat (Hyp.doneS r i [])) (Hyp.cntOf r n.toNat i : Int) (i : Int) false n cost edges = some true := by
      rw [cleanselaw27_HyperComponents.j2, if_neg (by decide)]
      exact h2 (Hyp.compsUp r n.toNat)[i].length 0 (by omega) k (by omega)
    rw [cleanselaw27_HyperComponents.l1, if_pos (by omega), if_pos (by omega), rdL1_nat _ hlt, if_neg (by omega), vertices_f _ _ (by omega) (k + 1) (by omega), hset, Option.bind_some, if_pos rfl]
    by_cases hi0 : 0 < i
    · have e0 : wrap64 ((i : Int) - 1) = ((i - 1 : Nat) : Int) := by rw [wrap_small (by omega) (by omega)]; omega
      have hq : i - 1 < (Hyp.compsUp r n.toNat).length := by omega
      have hq' : i - 1 < (Hyp.rootsUp r n.toNat).length := by omega
      obtain ⟨hp2, hh2⟩ := Hyp.comp_head hr hq hq'
      have hs := List.pairwise_iff_getElem.1 (Hyp.rootsUp_inc r n.toNat) (i - 1) i hq' hlt' (by omega)
      have r1 : rd (Hyp.compsUp r n.toNat)[i] 0 = ((Hyp.rootsUp r n.toNat)[i] : Int) := hh
      have r2 : rd (Hyp.compsUp r n.toNat)[i - 1] 0 = ((Hyp.rootsUp r n.toNat)[i - 1] : Int) := hh2
      rw [if_pos (by omega), if_pos (by omega), e0, if_pos (by omega), if_pos (by omega), rdL1_nat _ hq, if_pos (by omega), r1, r2, decide_eq_false (by omega)]
      exact hj2
    · rw [if_neg (by omega)]
      exact hj2
theorem comp_l0 (hn0 : 0 ≤ n) (hn : n ≤ 1000) (L : List (List Int)) (h1 : ∃ K, ∀ k, K ≤ k → cleanselaw27_HyperComponents.l1 k cls true L (List.replicate n.toNat (-1)) 0 0 n cost edges = some true) :
    ∀ (m i : Nat), i + m = n.toNat → ∃ K, ∀ k, K ≤ k → cleanselaw27_HyperComponents.l0 k cls true L (List.replicate i (-1) ++ List.replicate m 0) (i : Int) n cost edges = some true := by
  intro m
  induction m with
  | zero =>
    intro i hi
    obtain ⟨K, hK⟩ := h1
    refine ⟨K + 1, fun k hk => ?_⟩
    obtain ⟨k, rfl⟩ : ∃ j, k = j + 1 := ⟨k - 1, by omega⟩
    obtain rfl : i = n.toNat := by omega
    rw [cleanselaw27_HyperComponents.l0, if_neg (by omega), List.replicate_zero, List.append_nil]
    exact hK k (by omega)
  | succ m ih =>
    intro i hi
    obtain ⟨K, hK⟩ := ih (i + 1) (by omega)
    refine ⟨K + 1, fun k hk => ?_⟩
    obtain ⟨k, rfl⟩ : ∃ j, k = j + 1 := ⟨k - 1, by omega⟩
    have hs : (List.replicate i (-1 : Int) ++ List.replicate (m + 1) 0).set i (-1) = List.replicate (i + 1) (-1) ++ List.replicate m 0 := by
      rw [List.set_append_right _ _ (by simp), List.length_replicate, Nat.sub_self, List.replicate_succ, List.set_cons_zero, List.replicate_succ', List.append_assoc, List.singleton_append]
    rw [cleanselaw27_HyperComponents.l0, if_pos (by omega), if_pos (by omega), if_pos (by simp; omega), Int.toNat_natCast, hs, wrap_nat (by omega)]
    exact hK k (by omega)
end
end Hy
theorem hyperComponentsPure : HyperComponentsPure := by
  intro n cost edges cls hn hcw hew hcl hel hu hul
  have hhead : cleanselaw27_head.f = some true := rfl
  have hS := fun k hk => Hy.small_f n cost edges 100 80 hel k hk
  by_cases hsm : (decide (n ≤ 100) && (decide ((cost.length : Int) ≤ 100) && ((edges.all fun e => decide (e.length ≤ 10)) && decide ((edges.length : Int) ≤ 80)))) = true
  · rw [hsm] at hS
    simp only [Bool.and_eq_true, List.all_eq_true, decide_eq_true_eq] at hsm
    obtain ⟨hn60, hc60, he10, he60⟩ := hsm
    have hV : hyper_Valid.f n cost edges = some (Hyp.validB n cost edges) := by
      unfold hyper_Valid.f
      rw [if_pos ⟨by omega, by omega, fun x hx => by have := he10 x hx; omega⟩]
    by_cases hv : Hyp.validB n cost edges = true
    · obtain ⟨v1, v2, v3, v4, v5, v6, v7⟩ := Hyp.valid_parts hv
      obtain ⟨r, hr, hcomp⟩ := Hyp.components_is hv
      have hC : hyper_Components.f n cost edges = some (Hyp.compsUp r n.toNat) := by
        unfold hyper_Components.f
        rw [if_pos ⟨by omega, by omega, fun x hx => by have := he10 x hx; omega⟩, if_pos hv, hcomp]
      have hLl : (Hyp.compsUp r n.toNat).length ≤ n.toNat := by
        rw [Hyp.compsUp_len]
        unfold Hyp.rank Hyp.rootsUp
        exact Nat.le_trans (List.length_filter_le _ _) (by simp)
      obtain ⟨K3, hK3⟩ := Hy.comp_l3 (cost := cost) (cls := cls) v1 (by omega) hr (fun e he => ⟨(v6 e he).1, (v6 e he).2.1⟩) (by omega) (fun e he => by have := he10 e he; omega) hu (by omega) _ rfl edges.length 0 (decide ((cls.length : Int) ≥ n)) (by omega)
        ⟨fun h => by simpa using h, fun _ e he => by simp at he, fun _ q h1 h2 => by omega⟩
      obtain ⟨K1, hK1⟩ := Hy.comp_l1 (cost := cost) (cls := cls) v1 (by omega) hr (by omega) ⟨K3, hK3⟩ (Hyp.compsUp r n.toNat).length 0 (by omega)
      have hw0 : Hyp.whereOf r n.toNat (Hyp.doneS r 0 []) = List.replicate n.toNat (-1) := by
        refine List.ext_getElem (by simp [Hyp.whereOf]) fun x h1 h2 => ?_
        rw [Hyp.where_get, List.getElem_replicate, if_neg (by simp [Hyp.doneS])]
      have hc0 : Hyp.cntOf r n.toNat 0 = 0 := by
        unfold Hyp.cntOf
        rw [List.countP_eq_zero]
        intro x _
        simp
      rw [hw0, hc0] at hK1
      obtain ⟨K0, hK0⟩ := Hy.comp_l0 (cost := cost) (cls := cls) (edges := edges) v1 (by omega) (Hyp.compsUp r n.toNat) ⟨K1, hK1⟩ n.toNat 0 (by omega)
      refine ⟨K0 + edges.length + 2, ?_⟩
      unfold Hy.cleanselaw27_HyperComponents.f
      rw [hhead, Option.bind_some, hS _ (by omega), Option.bind_some, if_pos rfl, hC, Option.bind_some, hV, Option.bind_some, hv, if_pos rfl, if_pos v1, if_pos (by omega)]
      have h9 := hK0 (K0 + edges.length + 2) (by omega)
      rw [List.replicate_zero, List.nil_append] at h9
      exact h9
    · have hvf : Hyp.validB n cost edges = false := by simpa using hv
      have hC : hyper_Components.f n cost edges = some [] := by
        unfold hyper_Components.f
        rw [if_pos ⟨by omega, by omega, fun x hx => by have := he10 x hx; omega⟩, if_neg hv]
      refine ⟨edges.length + 2, ?_⟩
      unfold Hy.cleanselaw27_HyperComponents.f
      rw [hhead, Option.bind_some, hS _ (by omega), Option.bind_some, if_pos rfl, hC, Option.bind_some, hV, Option.bind_some, hvf, if_neg (by decide), if_pos rfl]
      rfl
  · refine ⟨edges.length + 2, ?_⟩
    unfold Hy.cleanselaw27_HyperComponents.f
    rw [hhead, Option.bind_some, hS _ (by omega), Option.bind_some, if_neg hsm]
end Go.Proofs.YtgjbnmobhafajaaDoor
end
