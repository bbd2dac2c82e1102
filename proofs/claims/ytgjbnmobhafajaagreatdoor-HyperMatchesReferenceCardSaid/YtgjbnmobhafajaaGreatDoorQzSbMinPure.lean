/- The texts of this claim, SbMinPure. -/
import Derived.Test.YtgjbnmobhafajaaGreatDoorQzRbMin
section
namespace Go.Proofs.YtgjbnmobhafajaaGreatDoor
open Go Go.RowKit Go.Proofs.YtgjbnmobhafajaaGreatDoorW.PrintWords Go.Proofs.YtgjbnmobhafajaaGreatDoorW.PrintLast
def Hyp.insL (e : List Int) : List (List Int) → List (List Int)
  | [] => [e]
  | f :: r => if Hyp.cmpL e f < 0 then e :: f :: r else f :: Hyp.insL e r
theorem Hyp.mem_insL (e x : List Int) : ∀ O : List (List Int), x ∈ Hyp.insL e O ↔ x = e ∨ x ∈ O
  | [] => by simp [Hyp.insL]
  | f :: r => by
    unfold Hyp.insL
    split
    · simp
    · rw [List.mem_cons, Hyp.mem_insL e x r, List.mem_cons]
      constructor
      · rintro (h | h | h)
        · exact .inr (.inl h)
        · exact .inl h
        · exact .inr (.inr h)
      · rintro (h | h | h)
        · exact .inr (.inl h)
        · exact .inl h
        · exact .inr (.inr h)
theorem Hyp.cmpL_total {a b : List Int} (h : a ≠ b) (h2 : ¬ Hyp.cmpL a b < 0) : Hyp.cmpL b a < 0 := by
  have h3 := Hyp.cmpL_flip a b
  rcases Hyp.cmpL_range a b with h4 | h4 | h4
  · omega
  · exact absurd (Hyp.cmpL_zero a b h4) h
  · omega
theorem Hyp.insL_sorted (e : List Int) : ∀ O : List (List Int), (O.Pairwise fun a b => Hyp.cmpL a b < 0) → e ∉ O → (Hyp.insL e O).Pairwise fun a b => Hyp.cmpL a b < 0
  | [], _, _ => List.pairwise_singleton _ _
  | f :: r, h, hn => by
    obtain ⟨h1, h2⟩ := List.pairwise_cons.1 h
    have hf : e ≠ f := fun h => hn (h ▸ List.mem_cons_self)
    unfold Hyp.insL
    split
    · rename_i hl
      refine List.pairwise_cons.2 ⟨fun x hx => ?_, h⟩
      rcases List.mem_cons.1 hx with rfl | hx
      · exact hl
      · exact Hyp.cmpL_trans _ _ _ hl (h1 x hx)
    · rename_i hl
      refine List.pairwise_cons.2 ⟨fun x hx => ?_, Hyp.insL_sorted e r h2 (fun h => hn (List.mem_cons_of_mem _ h))⟩
      rcases (Hyp.mem_insL e x r).1 hx with rfl | hx
      · exact Hyp.cmpL_total hf hl
      · exact h1 x hx
def Hyp.nextMin (O : List (List Int)) (z : List Int) : List (List Int) :=
  if z.length = 0 then O else if (O.any fun f => Hyp.subB f (Hyp.setOf z)) = true then O else Hyp.insL (Hyp.setOf z) (O.filter fun f => !Hyp.subB (Hyp.setOf z) f)
theorem Hyp.minimal_next (es : List (List Int)) (i : Nat) (hi : i < es.length) : Hyp.minimal (es.take (i + 1)) = Hyp.nextMin (Hyp.minimal (es.take i)) (es.getD i []) := by
  have hst := setsOf_take es i hi
  have hO := Hyp.minimal_is (es.take i)
  have hov := Hyp.minimal_over (es.take i)
  have hset : ∀ e ∈ Hyp.setsOf (es.take i), Hyp.Inc e := fun e he => (Hyp.setsOf_inc he).1
  generalize Hyp.minimal (es.take i) = O at *
  generalize es.getD i [] = z at *
  unfold Hyp.nextMin
  by_cases hz : z.length = 0
  · rw [if_pos hz]
    rw [if_neg (by omega), List.append_nil] at hst
    exact (Hyp.minimal_is _).unique ⟨hO.sorted, fun e => by rw [hst]; exact hO.mem e⟩
  · rw [if_neg hz]
    rw [if_pos (by omega)] at hst
    have hs := Hyp.setOf_inc z
    generalize Hyp.setOf z = s at *
    have hmem : ∀ x, x ∈ Hyp.setsOf (es.take (i + 1)) ↔ x ∈ Hyp.setsOf (es.take i) ∨ x = s := fun x => by rw [hst, List.mem_append, List.mem_singleton]
    by_cases ha : (O.any fun f => Hyp.subB f s) = true
    · rw [if_pos ha]
      obtain ⟨g, hg, hgs⟩ := List.any_eq_true.1 ha
      refine (Hyp.minimal_is _).unique ⟨hO.sorted, fun e => ?_⟩
      constructor
      · intro he
        obtain ⟨h1, h2⟩ := (hO.mem e).1 he
        refine ⟨(hmem e).2 (.inl h1), fun f hf hfe => ?_⟩
        rcases (hmem f).1 hf with hf | rfl
        · exact h2 f hf hfe
        · have h3 := h2 g ((hO.mem g).1 hg).1 (Hyp.subB_trans hgs hfe)
          subst h3
          exact Hyp.subB_anti hs (hset g h1) hfe hgs
      · rintro ⟨h1, h2⟩
        have h3 : e ∈ Hyp.setsOf (es.take i) := by
          rcases (hmem e).1 h1 with h | rfl
          · exact h
          · have := h2 g ((hmem g).2 (.inl ((hO.mem g).1 hg).1)) hgs
            rw [← this]; exact ((hO.mem g).1 hg).1
        exact (hO.mem e).2 ⟨h3, fun f hf => h2 f ((hmem f).2 (.inl hf))⟩
    · rw [if_neg ha]
      have hno : ∀ g ∈ O, Hyp.subB g s = false := fun g hg => by
        cases h : Hyp.subB g s
        · rfl
        · exact absurd (List.any_eq_true.2 ⟨g, hg, h⟩) ha
      refine (Hyp.minimal_is _).unique ⟨Hyp.insL_sorted s _ (hO.sorted.sublist List.filter_sublist) (fun h => ?_), fun e => ?_⟩
      · have := (List.mem_filter.1 h).2
        rw [Hyp.subB_refl] at this; cases this
      · rw [Hyp.mem_insL, List.mem_filter]
        constructor
        · rintro (rfl | ⟨he, hse⟩)
          · refine ⟨(hmem e).2 (.inr rfl), fun f hf hfe => ?_⟩
            rcases (hmem f).1 hf with hf | rfl
            · obtain ⟨g, hg, hgf⟩ := hov f hf
              have := hno g hg
              rw [Hyp.subB_trans hgf hfe] at this; cases this
            · rfl
          · obtain ⟨h1, h2⟩ := (hO.mem e).1 he
            refine ⟨(hmem e).2 (.inl h1), fun f hf hfe => ?_⟩
            rcases (hmem f).1 hf with hf | rfl
            · exact h2 f hf hfe
            · rw [hfe] at hse; cases hse
        · rintro ⟨h1, h2⟩
          rcases (hmem e).1 h1 with h | rfl
          · cases hse : Hyp.subB s e
            · exact .inr ⟨(hO.mem e).2 ⟨h, fun f hf => h2 f ((hmem f).2 (.inl hf))⟩, by simp⟩
            · exact .inl (h2 s ((hmem s).2 (.inr rfl)) hse).symm
          · exact .inl rfl
def Hyp.nextStep (e : Row) (p : List Row × Bool) (x : Row) : List Row × Bool :=
  if Hyp.subB e.l x.l = true then p else if (!p.2 && decide (Hyp.cmpL e.l x.l < 0)) = true then (p.1 ++ [e, x], true) else (p.1 ++ [x], p.2)
def Hyp.nextR (e : Row) (xs : List Row) : List Row × Bool := xs.foldl (Hyp.nextStep e) ([], false)
def Hyp.nextFin (e : Row) (p : List Row × Bool) : List Row := if p.2 = true then p.1 else p.1 ++ [e]
theorem Hyp.nextR_take (e : Row) (xs : List Row) (k : Nat) (hk : k < xs.length) : Hyp.nextR e (xs.take (k + 1)) = Hyp.nextStep e (Hyp.nextR e (xs.take k)) xs[k] := by
  unfold Hyp.nextR
  rw [List.take_succ_eq_append_getElem hk, List.foldl_append]; rfl
theorem Hyp.next_done (e : Row) : ∀ (xs : List Row) (a : List Row), xs.foldl (Hyp.nextStep e) (a, true) = (a ++ xs.filter fun x => !Hyp.subB e.l x.l, true)
  | [], a => by simp
  | x :: xs, a => by
    rw [List.foldl_cons]
    unfold Hyp.nextStep
    by_cases h : Hyp.subB e.l x.l = true
    · rw [if_pos h, List.filter_cons_of_neg (by simp [h])]
      exact Hyp.next_done e xs a
    · rw [if_neg h, if_neg (by simp), List.filter_cons_of_pos (by simpa using h)]
      exact (Hyp.next_done e xs (a ++ [x])).trans (by simp)
theorem Hyp.next_lists (e : Row) : ∀ (xs : List Row) (a : List Row), (Hyp.nextFin e (xs.foldl (Hyp.nextStep e) (a, false))).map Row.l = a.map Row.l ++ Hyp.insL e.l ((xs.map Row.l).filter fun f => !Hyp.subB e.l f)
  | [], a => by simp [Hyp.nextFin, Hyp.insL]
  | x :: xs, a => by
    rw [List.foldl_cons, List.map_cons, show Hyp.nextStep e (a, false) x = if Hyp.subB e.l x.l = true then (a, false) else if (!false && decide (Hyp.cmpL e.l x.l < 0)) = true then (a ++ [e, x], true) else (a ++ [x], false) from rfl]
    by_cases h : Hyp.subB e.l x.l = true
    · rw [if_pos h, List.filter_cons_of_neg (by simp [h])]
      exact Hyp.next_lists e xs a
    · rw [if_neg h, List.filter_cons_of_pos (by simpa using h)]
      unfold Hyp.insL
      by_cases hl : Hyp.cmpL e.l x.l < 0
      · rw [if_pos (by simpa using hl), if_pos hl, Hyp.next_done]
        unfold Hyp.nextFin
        rw [if_pos rfl]
        simp [List.filter_map, Function.comp_def]
      · rw [if_neg (by simpa using hl), if_neg hl]
        exact (Hyp.next_lists e xs (a ++ [x])).trans (by simp)
theorem Hyp.next_perm (e : Row) : ∀ (xs : List Row) (a : List Row) (d : Bool), ((xs.foldl (Hyp.nextStep e) (a, d)).1 ++ (if (xs.foldl (Hyp.nextStep e) (a, d)).2 = true then [] else [e])).Perm ((a ++ if d = true then [] else [e]) ++ xs.filter fun x => !Hyp.subB e.l x.l)
  | [], a, d => by
    simp only [List.foldl_nil, List.filter_nil, List.append_nil]
    exact List.Perm.refl _
  | x :: xs, a, d => by
    rw [List.foldl_cons, show Hyp.nextStep e (a, d) x = if Hyp.subB e.l x.l = true then (a, d) else if (!d && decide (Hyp.cmpL e.l x.l < 0)) = true then (a ++ [e, x], true) else (a ++ [x], d) from rfl]
    by_cases h : Hyp.subB e.l x.l = true
    · rw [if_pos h, List.filter_cons_of_neg (by simp [h])]
      exact Hyp.next_perm e xs a d
    · rw [if_neg h, List.filter_cons_of_pos (by simpa using h)]
      by_cases hl : (!d && decide (Hyp.cmpL e.l x.l < 0)) = true
      · rw [if_pos hl]
        have hd : d = false := by simp at hl; exact hl.1
        subst hd
        refine (Hyp.next_perm e xs (a ++ [e, x]) true).trans ?_
        simp
      · rw [if_neg hl]
        refine (Hyp.next_perm e xs (a ++ [x]) d).trans ?_
        rw [List.append_assoc, List.append_assoc, List.append_assoc]
        refine List.Perm.append_left a ?_
        cases d
        · exact List.Perm.swap _ _ _
        · exact List.Perm.refl _
theorem Hyp.next_len (e : Row) (xs : List Row) : (Hyp.nextR e xs).1.length ≤ xs.length + 1 := by
  have h := (Hyp.next_perm e xs [] false).length_eq
  have h2 := List.length_filter_le (fun x : Row => !Hyp.subB e.l x.l) xs
  unfold Hyp.nextR
  rw [List.length_append, List.length_append, List.length_append] at h
  simp at h
  omega
end Go.Proofs.YtgjbnmobhafajaaGreatDoor
end
