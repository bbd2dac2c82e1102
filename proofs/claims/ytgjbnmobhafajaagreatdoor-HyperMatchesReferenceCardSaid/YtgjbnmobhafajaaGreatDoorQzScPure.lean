/- The texts of this claim, ScPure. -/
import Derived.Test.YtgjbnmobhafajaaGreatDoorQzRbMin
section
namespace Go.Proofs.YtgjbnmobhafajaaGreatDoor
open Go Go.RowKit Go.Proofs.YtgjbnmobhafajaaGreatDoorW.PrintWords Go.Proofs.YtgjbnmobhafajaaGreatDoorW.PrintLast
def Hyp.cl (c : List Nat) (v : Int) : Nat := c.getD v.toNat 0
def Hyp.leastOf (n : Nat) (c : List Nat) (e : List Int) : Nat := e.foldl (fun m v => min m (Hyp.cl c v)) n
def Hyp.setTo (c : List Nat) (e : List Int) (L : Nat) : List Nat := e.foldl (fun c v => c.set v.toNat L) c
theorem Hyp.leastOf_snoc (n : Nat) (c : List Nat) (e : List Int) (v : Int) : Hyp.leastOf n c (e ++ [v]) = min (Hyp.leastOf n c e) (Hyp.cl c v) := by simp [Hyp.leastOf]
theorem Hyp.setTo_snoc (c : List Nat) (e : List Int) (v : Int) (L : Nat) : Hyp.setTo c (e ++ [v]) L = (Hyp.setTo c e L).set v.toNat L := by simp [Hyp.setTo]
theorem Hyp.setTo_len (L : Nat) : ∀ (e : List Int) (c : List Nat), (Hyp.setTo c e L).length = c.length
  | [], c => rfl
  | v :: e, c => by
    show (Hyp.setTo (c.set v.toNat L) e L).length = _
    rw [Hyp.setTo_len L e, List.length_set]
theorem Hyp.getD_setN (c : List Nat) (a b L : Nat) (hb : b < c.length) : (c.set a L).getD b 0 = if a = b then L else c.getD b 0 := by
  rw [List.getD_eq_getElem?_getD, List.getD_eq_getElem?_getD, List.getElem?_set]
  by_cases h : a = b
  · subst h; simp [hb]
  · simp [h]
theorem Hyp.setTo_get (L : Nat) : ∀ (e : List Int) (c : List Nat) (x : Nat), x < c.length → (∀ v ∈ e, 0 ≤ v) → (Hyp.setTo c e L).getD x 0 = if (x : Int) ∈ e then L else c.getD x 0
  | [], c, x, _, _ => by simp [Hyp.setTo]
  | v :: e, c, x, hx, hv => by
    show (Hyp.setTo (c.set v.toNat L) e L).getD x 0 = _
    have h0 := hv v List.mem_cons_self
    rw [Hyp.setTo_get L e _ x (by rw [List.length_set]; exact hx) (fun w hw => hv w (List.mem_cons_of_mem _ hw)), Hyp.getD_setN _ _ _ _ hx]
    by_cases h1 : (x : Int) ∈ e
    · rw [if_pos h1, if_pos (List.mem_cons_of_mem _ h1)]
    · rw [if_neg h1]
      by_cases h2 : v.toNat = x
      · rw [if_pos h2, if_pos (by rw [show (x : Int) = v by omega]; exact List.mem_cons_self)]
      · rw [if_neg h2, if_neg]
        intro h3
        rcases List.mem_cons.1 h3 with h3 | h3
        · exact h2 (by omega)
        · exact h1 h3
theorem Hyp.fold_min (c : List Nat) : ∀ (e : List Int) (m : Nat), e.foldl (fun m v => min m (Hyp.cl c v)) m ≤ m ∧ (∀ v ∈ e, e.foldl (fun m v => min m (Hyp.cl c v)) m ≤ Hyp.cl c v) ∧ (e.foldl (fun m v => min m (Hyp.cl c v)) m = m ∨ ∃ v ∈ e, e.foldl (fun m v => min m (Hyp.cl c v)) m = Hyp.cl c v)
  | [], m => ⟨Nat.le_refl _, fun v hv => by simp at hv, .inl rfl⟩
  | w :: e, m => by
    obtain ⟨h1, h2, h3⟩ := Hyp.fold_min c e (min m (Hyp.cl c w))
    rw [List.foldl_cons]
    refine ⟨by omega, fun v hv => ?_, ?_⟩
    · rcases List.mem_cons.1 hv with rfl | hv
      · omega
      · exact h2 v hv
    · rcases h3 with h3 | ⟨v, hv, h3⟩
      · rcases Nat.le_total m (Hyp.cl c w) with h4 | h4
        · left; rw [h3]; omega
        · right; exact ⟨w, List.mem_cons_self, by rw [h3]; omega⟩
      · right; exact ⟨v, List.mem_cons_of_mem _ hv, h3⟩
theorem Hyp.least_le (n : Nat) (c : List Nat) (e : List Int) : ∀ v ∈ e, Hyp.leastOf n c e ≤ Hyp.cl c v := (Hyp.fold_min c e n).2.1
structure Hyp.ClassOk (n : Nat) (r : Nat → Nat) (c : List Nat) : Prop where
  len : c.length = n
  le : ∀ x, x < n → c.getD x 0 ≤ x
  rr : ∀ x, x < n → r (c.getD x 0) = r x
theorem Hyp.ClassOk.start (n : Nat) (r : Nat → Nat) : Hyp.ClassOk n r (List.range n) :=
  ⟨by simp, fun x hx => by rw [List.getD_eq_getElem?_getD, List.getElem?_range hx]; exact Nat.le_refl _, fun x hx => by rw [List.getD_eq_getElem?_getD, List.getElem?_range hx]; rfl⟩
theorem Hyp.least_of {n : Nat} {r : Nat → Nat} {c : List Nat} (h : Hyp.ClassOk n r c) {e : List Int} (hne : e ≠ []) (hin : ∀ x ∈ e, 0 ≤ x ∧ x < (n : Int)) : ∃ v ∈ e, Hyp.leastOf n c e = Hyp.cl c v := by
  obtain ⟨h1, h2, h3⟩ := Hyp.fold_min c e n
  rcases h3 with h3 | h3
  · exfalso
    obtain ⟨v, hv⟩ := List.exists_mem_of_ne_nil e hne
    have := h2 v hv
    have hv2 := hin v hv
    have hv3 : Hyp.cl c v ≤ v.toNat := h.le v.toNat (by omega)
    omega
  · exact h3
theorem Hyp.ClassOk.step {n : Nat} {r : Nat → Nat} {c : List Nat} (h : Hyp.ClassOk n r c) {e : List Int} (hne : e ≠ []) (hin : ∀ x ∈ e, 0 ≤ x ∧ x < (n : Int)) (hcon : ∀ x ∈ e, r x.toNat = r (e.getD 0 0).toNat) : Hyp.ClassOk n r (Hyp.setTo c e (Hyp.leastOf n c e)) := by
  obtain ⟨w, hw, hL⟩ := Hyp.least_of h hne hin
  have hle := Hyp.least_le n c e
  have hg := fun x (hx : x < n) => Hyp.setTo_get (Hyp.leastOf n c e) e c x (by rw [h.len]; exact hx) (fun v hv => (hin v hv).1)
  refine ⟨by rw [Hyp.setTo_len]; exact h.len, fun x hx => ?_, fun x hx => ?_⟩
  · rw [hg x hx]
    split
    · rename_i hm
      have h1 := hle _ hm
      have h2 := h.le x hx
      unfold Hyp.cl at h1
      simp only [Int.toNat_natCast] at h1
      omega
    · exact h.le x hx
  · rw [hg x hx]
    split
    · rename_i hm
      rw [hL]
      have hw2 := hin w hw
      unfold Hyp.cl
      rw [h.rr _ (by omega), hcon w hw]
      have := hcon _ hm
      simp only [Int.toNat_natCast] at this
      exact this.symm
    · exact h.rr x hx
theorem Hyp.step_down {n : Nat} {r : Nat → Nat} {c : List Nat} (h : Hyp.ClassOk n r c) {e : List Int} (hin : ∀ x ∈ e, 0 ≤ x ∧ x < (n : Int)) : ∀ x, x < n → (Hyp.setTo c e (Hyp.leastOf n c e)).getD x 0 ≤ c.getD x 0 := by
  intro x hx
  rw [Hyp.setTo_get _ e c x (by rw [h.len]; exact hx) (fun v hv => (hin v hv).1)]
  split
  · rename_i hm
    have h1 := Hyp.least_le n c e _ hm
    unfold Hyp.cl at h1
    simpa using h1
  · exact Nat.le_refl _
theorem Hyp.sum_le : ∀ (a b : List Nat), a.length = b.length → (∀ x, x < a.length → a.getD x 0 ≤ b.getD x 0) → a.sum ≤ b.sum ∧ ((∃ x, x < a.length ∧ a.getD x 0 < b.getD x 0) → a.sum < b.sum)
  | [], [], _, _ => ⟨Nat.le_refl _, fun ⟨x, hx, _⟩ => by simp at hx⟩
  | a :: ar, b :: bs, hl, h => by
    have h0 := h 0 (by simp)
    obtain ⟨h1, h2⟩ := Hyp.sum_le ar bs (by simpa using hl) (fun x hx => by simpa using h (x + 1) (by simpa using hx))
    simp only [List.getD_cons_zero] at h0
    rw [List.sum_cons, List.sum_cons]
    refine ⟨by omega, fun ⟨x, hx, hlt⟩ => ?_⟩
    cases x with
    | zero => simp only [List.getD_cons_zero] at hlt; omega
    | succ x =>
      have := h2 ⟨x, by simpa using hx, by simpa using hlt⟩
      omega
def Hyp.passStep (n : Nat) (p : List Nat × Bool) (e : List Int) : List Nat × Bool :=
  (Hyp.setTo p.1 e (Hyp.leastOf n p.1 e), p.2 || e.any fun v => Hyp.cl p.1 v != Hyp.leastOf n p.1 e)
def Hyp.pass (n : Nat) (es : List (List Int)) (c : List Nat) : List Nat × Bool := es.foldl (Hyp.passStep n) (c, false)
theorem Hyp.pass_take (n : Nat) (es : List (List Int)) (c : List Nat) (i : Nat) (hi : i < es.length) : Hyp.pass n (es.take (i + 1)) c = Hyp.passStep n (Hyp.pass n (es.take i) c) es[i] := by
  unfold Hyp.pass
  rw [List.take_succ_eq_append_getElem hi, List.foldl_append]; rfl
theorem Hyp.setTo_same {c : List Nat} {e : List Int} {L : Nat} (h : ∀ v ∈ e, 0 ≤ v ∧ v.toNat < c.length ∧ Hyp.cl c v = L) : Hyp.setTo c e L = c := by
  refine List.ext_getElem (Hyp.setTo_len L e c) fun x h1 h2 => ?_
  have h3 := Hyp.setTo_get L e c x h2 (fun v hv => (h v hv).1)
  rw [List.getD_eq_getElem?_getD, List.getElem?_eq_getElem h1, List.getD_eq_getElem?_getD, List.getElem?_eq_getElem h2] at h3
  simp only [Option.getD_some] at h3
  rw [h3]
  split
  · rename_i hm
    have h4 := (h _ hm).2.2
    unfold Hyp.cl at h4
    rw [Int.toNat_natCast, List.getD_eq_getElem?_getD, List.getElem?_eq_getElem h2] at h4
    exact h4.symm
  · rfl
theorem Hyp.pass_facts {n : Nat} {r : Nat → Nat} {es : List (List Int)} (hin : ∀ e ∈ es, e ≠ [] ∧ ∀ x ∈ e, 0 ≤ x ∧ x < (n : Int)) (hcon : ∀ e ∈ es, ∀ x ∈ e, r x.toNat = r (e.getD 0 0).toNat) {c : List Nat} (h : Hyp.ClassOk n r c) :
    ∀ i, i ≤ es.length → Hyp.ClassOk n r (Hyp.pass n (es.take i) c).1 ∧ (Hyp.pass n (es.take i) c).1.sum ≤ c.sum ∧ ((Hyp.pass n (es.take i) c).2 = true → (Hyp.pass n (es.take i) c).1.sum < c.sum) ∧ ((Hyp.pass n (es.take i) c).2 = false → (Hyp.pass n (es.take i) c).1 = c ∧ ∀ e ∈ es.take i, ∀ v ∈ e, Hyp.cl c v = Hyp.leastOf n c e) := by
  intro i
  induction i with
  | zero => exact fun _ => ⟨h, Nat.le_refl _, fun h => by simp [Hyp.pass] at h, fun _ => ⟨rfl, fun e he => by simp at he⟩⟩
  | succ i ih =>
    intro hi
    obtain ⟨g1, g2, g3, g4⟩ := ih (by omega)
    have hlt : i < es.length := by omega
    have hm : es[i] ∈ es := List.getElem_mem hlt
    obtain ⟨hne, hx⟩ := hin _ hm
    rw [Hyp.pass_take n es c i hlt, List.take_succ_eq_append_getElem hlt]
    generalize Hyp.pass n (es.take i) c = p at *
    generalize es[i] = e at *
    have k1 := g1.step hne hx (hcon e hm)
    have k2 := Hyp.step_down g1 hx
    have k3 := Hyp.sum_le (Hyp.setTo p.1 e (Hyp.leastOf n p.1 e)) p.1 (Hyp.setTo_len _ _ _) (fun x hx2 => k2 x (by rw [Hyp.setTo_len, g1.len] at hx2; exact hx2))
    refine ⟨k1, Nat.le_trans k3.1 g2, fun hb => ?_, fun hb => ?_⟩
    · unfold Hyp.passStep at hb
      simp only [Bool.or_eq_true, List.any_eq_true, bne_iff_ne] at hb
      show (Hyp.setTo p.1 e (Hyp.leastOf n p.1 e)).sum < c.sum
      rcases hb with hb | ⟨v, hv, hvne⟩
      · exact Nat.lt_of_le_of_lt k3.1 (g3 hb)
      · refine Nat.lt_of_lt_of_le (k3.2 ⟨v.toNat, ?_, ?_⟩) g2
        · rw [Hyp.setTo_len, g1.len]; have := hx v hv; omega
        · have hv2 := hx v hv
          rw [Hyp.setTo_get _ e p.1 v.toNat (by rw [g1.len]; omega) (fun v hv => (hx v hv).1), if_pos (by rw [show ((v.toNat : Nat) : Int) = v by omega]; exact hv)]
          have := Hyp.least_le n p.1 e v hv
          unfold Hyp.cl at this hvne
          omega
    · unfold Hyp.passStep at hb
      simp only [Bool.or_eq_false_iff, List.any_eq_false, bne_iff_ne, ne_eq, Classical.not_not] at hb
      obtain ⟨q1, q2⟩ := g4 hb.1
      have hu : ∀ v ∈ e, Hyp.cl p.1 v = Hyp.leastOf n p.1 e := hb.2
      refine ⟨?_, fun e' he' => ?_⟩
      · show Hyp.setTo p.1 e (Hyp.leastOf n p.1 e) = c
        rw [Hyp.setTo_same (fun v hv => ⟨(hx v hv).1, by rw [g1.len]; have := hx v hv; omega, hu v hv⟩), q1]
      · rcases List.mem_append.1 he' with he' | he'
        · exact q2 e' he'
        · rw [List.mem_singleton.1 he']
          rw [q1] at hu
          exact hu
theorem Hyp.class_root {n : Nat} {r : Nat → Nat} {es : List (List Int)} (hr : Hyp.IsRoot n es r) {c : List Nat} (h : Hyp.ClassOk n r c) (hin : ∀ e ∈ es, e ≠ [] ∧ ∀ x ∈ e, 0 ≤ x ∧ x < (n : Int)) (hu : ∀ e ∈ es, ∀ v ∈ e, Hyp.cl c v = Hyp.leastOf n c e) : ∀ x, x < n → c.getD x 0 = r x := by
  intro x hx
  have h1 := hr.cls (fun v => c.getD v 0) (fun e he y hy => by
    have h2 := hu e he y hy
    have h3 := hu e he (e.getD 0 0) (by
      have hp := List.length_pos_iff.2 (hin e he).1
      rw [Hyp.getD_get e 0 hp]; exact List.getElem_mem _)
    unfold Hyp.cl at h2 h3
    show c.getD _ 0 = c.getD _ 0
    rw [h2, h3]) x hx
  have h2 : c.getD (r x) 0 = c.getD x 0 := h1
  have h3 := h.le (r x) (Nat.lt_of_le_of_lt (hr.le x hx) hx)
  have h4 := h.rr x hx
  have h5 := h.le x hx
  have h6 := hr.le (c.getD x 0) (by omega)
  omega
end Go.Proofs.YtgjbnmobhafajaaGreatDoor
end
