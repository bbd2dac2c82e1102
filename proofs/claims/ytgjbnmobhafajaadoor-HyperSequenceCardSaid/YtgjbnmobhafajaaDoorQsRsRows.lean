/- The texts of this claim, RsRows. -/
import Derived.Test.YtgjbnmobhafajaaDoorQsRaRefs
import Derived.Test.YtgjbnmobhafajaaDoorQsRbMin
set_option linter.unusedVariables false
set_option linter.unusedSimpArgs false
section
namespace Go.Proofs.YtgjbnmobhafajaaDoor
open Go Go.RowKit Go.Sort Go.Shelf Go.Proofs.YtgjbnmobhafajaaDoorW.PrintWords Go.Proofs.YtgjbnmobhafajaaDoorW.PrintLast
theorem add_none (b off k : Nat) : (⟨b, off, none⟩ : Addr).add k = ⟨b, off + k, none⟩ := by
  unfold Addr.add
  by_cases h : k = 0
  · subst h; rfl
  · rw [if_neg h]
theorem cell_sameB {w w1 : World} {b : Nat} (hb : w1.heap[b]? = w.heap[b]?) (o : Nat) : w1.cell? ⟨b, o, none⟩ = w.cell? ⟨b, o, none⟩ := by
  unfold World.cell?
  rw [hb]
structure XRow (w : World) (base : Nat) (x : Row) : Prop where
  is : x.Is w
  blk : ∀ b off c, x.v = .slice (some ⟨b, off, none⟩) x.l.length c → 0 < x.l.length → b < w.heap.size ∧ (b < base ∨ ∃ cells, w.heap[b]? = some (.cells cells 3 (0, 0)))
theorem Is_same {w w1 : World} {x : Row} (h : x.Is w) (hb : ∀ b off c, x.v = .slice (some ⟨b, off, none⟩) x.l.length c → 0 < x.l.length → w1.heap[b]? = w.heap[b]?) : x.Is w1 := by
  obtain ⟨A, c, h1, h2, h3⟩ := h
  refine ⟨A, c, h1, h2, h3.1, h3.2.1, fun hn => ?_⟩
  obtain ⟨ad, rfl, hc⟩ := h3.2.2 hn
  have hs : ad = ⟨ad.block, ad.off, none⟩ := by
    obtain ⟨c0, _, hR, hcell⟩ := hc 0 x.l[0] (List.getElem?_eq_getElem hn)
    have h0 := hcell 0 (.int .i64 x.l[0]) (by rw [hR]; rfl)
    have e : ad.add (0 * (Kd.int .i64).sz + 0) = ad := by simp [Addr.add]
    rw [e] at h0
    exact spot_none h0
  generalize ad.block = b at *
  generalize ad.off = off at *
  subst hs
  have hbb := hb b off c h1 hn
  refine ⟨_, rfl, fun j p hj => ?_⟩
  obtain ⟨cs, hsz, hR, hcell⟩ := hc j p hj
  refine ⟨cs, hsz, hR, fun q u hq => ?_⟩
  rw [add_none, cell_sameB hbb, ← add_none]
  exact hcell q u hq
theorem XRow.step {w w1 : World} {base : Nat} {x : Row} (h : XRow w base x) (hs : w.heap.size ≤ w1.heap.size) (hm : ∀ b, b < w.heap.size → (b < base ∨ ∃ cells, w.heap[b]? = some (.cells cells 3 (0, 0))) → w1.heap[b]? = w.heap[b]?) : XRow w1 base x := by
  refine ⟨Is_same h.is fun b off c e hn => hm b (h.blk b off c e hn).1 (h.blk b off c e hn).2, fun b off c e hn => ?_⟩
  obtain ⟨h1, h2⟩ := h.blk b off c e hn
  refine ⟨by omega, ?_⟩
  rcases h2 with h3 | ⟨cells, h3⟩
  · exact .inl h3
  · exact .inr ⟨cells, by rw [hm b h1 (.inr ⟨cells, h3⟩)]; exact h3⟩
theorem XRow.below {w w1 : World} {base : Nat} {x : Row} (h : XRow w base x) (hb : Below w.heap.size w w1) : XRow w1 base x := h.step hb.size fun b hlt _ => hb.block b hlt
theorem XRow.push {w1 w2 : World} {base n : Nat} {x : Row} {vo : Value} {ys : List Value} {o : Obj} (h : XRow w1 base x) (ho : w1.ownsRow base 27 1 vo n ys) (hg : (w1.alloc o).grownBy w2 vo.ownBlock) (hs : (w1.alloc o).heap.size ≤ w2.heap.size) : XRow w2 base x := by
  have h1 : XRow (w1.alloc o) base x := h.below ((Below.refl _ w1).alloc (Nat.le_refl _) o)
  refine h1.step hs fun b hlt hk => hg.block b hlt fun e => ?_
  obtain ⟨c1, h2⟩ := own_typed ho b e.symm
  have hb := own_base ho b e.symm
  have hl := own_lt ho b e.symm
  rcases hk with hk | ⟨cells, hk⟩
  · omega
  · rw [Below.heap_alloc _ _ _ hl, h2] at hk
    simp at hk
theorem XRow.own {w : World} {base base' : Nat} {v : Value} {l : List Int} (ho : w.ownsRow base' 3 1 v l.length (nums .i64 l)) : XRow w base ⟨v, l⟩ := by
  obtain ⟨A, c, e1, e2, e3⟩ := Kd.R_reads (R_mk ho)
  refine ⟨⟨A, c, e1, e2, e3⟩, fun b off c e hn => ?_⟩
  have e' : v = .slice (some ⟨b, off, none⟩) l.length c := e
  have hob : v.ownBlock = some b := by rw [e']; rfl
  exact ⟨own_lt ho b hob, .inr (own_typed ho b hob)⟩
theorem XRows.toC {w : World} {base : Nat} {xs : List Row} {v : Value} (h : ∀ x ∈ xs, x.Is w) (ho : w.ownsRow base 27 1 v xs.length (xs.map Row.v)) (hm : xs.length ≤ 9223372036854775807) :
    ∃ A c, v = .slice A (xs.map Row.l).length c ∧ (xs.map Row.l).length ≤ c ∧ Kd.C (Kd.slice 3 (Kd.int .i64)) w A (xs.map Row.l).length (xs.map Row.l) := by
  rcases own_nil_or ho with ⟨rfl, hn, _⟩ | ⟨g, cap, rfl⟩
  · have : xs = [] := List.eq_nil_of_length_eq_zero hn
    subst this
    exact ⟨none, 0, rfl, Nat.le_refl _, rfl, by simp, fun h => absurd h (Nat.lt_irrefl 0)⟩
  · have hb := own_block ho
    refine ⟨some ⟨g, 0, none⟩, cap, by simp, by simpa using hb.2.2.2.1, rfl, by simpa using hm, fun hn => ⟨_, rfl, fun j p hj => ?_⟩⟩
    rw [List.getElem?_map] at hj
    cases hrj : xs[j]? with
    | none => rw [hrj] at hj; simp at hj
    | some x =>
      rw [hrj] at hj
      simp at hj
      subst hj
      have hlt : j < xs.length := (List.getElem?_eq_some_iff.1 hrj).1
      have hre : xs[j] = x := (List.getElem?_eq_some_iff.1 hrj).2
      obtain ⟨A, c, e1, e2, e3⟩ := h x (List.mem_of_getElem? hrj)
      refine ⟨[.slice A x.l.length c], rfl, ⟨A, c, rfl, e2, e3⟩, fun q u hq => ?_⟩
      cases q with
      | succ q => simp at hq
      | zero =>
        simp at hq
        subst hq
        rw [add_none]
        have := (own_cells ho j (by simpa using hlt)).1
        rw [List.getElem_map, hre, e1] at this
        rw [show 0 + (j * (Kd.slice 3 (Kd.int .i64)).sz + 0) = 0 + j from by show 0 + (j * 1 + 0) = 0 + j; omega]
        exact this
def Hyp.turnedUp (es : List (List Int)) (d : Nat) : List (List Int) := (es.reverse.take d).flatMap fun e => [e.reverse, e]
theorem Hyp.turned_succ (es : List (List Int)) (d : Nat) (h : d < es.length) : Hyp.turnedUp es (d + 1) = Hyp.turnedUp es d ++ [(es.getD (es.length - 1 - d) []).reverse, es.getD (es.length - 1 - d) []] := by
  unfold Hyp.turnedUp
  rw [List.take_succ_eq_append_getElem (by simpa using h), List.flatMap_append, List.flatMap_singleton]
  have : es.reverse[d]'(by simpa using h) = es.getD (es.length - 1 - d) [] := by
    rw [List.getElem_reverse, List.getD_eq_getElem?_getD, List.getElem?_eq_getElem]; rfl
  rw [this]
theorem Hyp.mem_turned {es : List (List Int)} {e : List Int} : e ∈ Hyp.turnedUp es es.length ↔ ∃ x ∈ es, e = x.reverse ∨ e = x := by
  unfold Hyp.turnedUp
  rw [List.take_of_length_le (by simp)]
  simp [List.mem_flatMap]
theorem Hyp.setOf_rev (x : List Int) : Hyp.setOf x.reverse = Hyp.setOf x := Hyp.inc_ext (Hyp.setOf_inc _) (Hyp.setOf_inc _) fun y => by rw [Hyp.mem_setOf, Hyp.mem_setOf, List.mem_reverse]
theorem Hyp.make_turned (n : Int) (cost : List Int) (es : List (List Int)) : Hyp.makeF n cost (Hyp.turnedUp es es.length) = Hyp.makeF n cost es := by
  have hbad : (Hyp.turnedUp es es.length).any (Hyp.badEdge n) = es.any (Hyp.badEdge n) := by
    rw [Bool.eq_iff_iff, List.any_eq_true, List.any_eq_true]
    have hr : ∀ x : List Int, Hyp.badEdge n x.reverse = Hyp.badEdge n x := by
      intro x
      unfold Hyp.badEdge
      rw [Hyp.setOf_rev]
      congr 1
      cases x with
      | nil => rfl
      | cons a x => simp
    constructor
    · rintro ⟨e, he, hb⟩
      obtain ⟨x, hx, h⟩ := Hyp.mem_turned.1 he
      rcases h with rfl | rfl
      · exact ⟨x, hx, by rw [← hr]; exact hb⟩
      · exact ⟨e, hx, hb⟩
    · rintro ⟨e, he, hb⟩
      exact ⟨e, Hyp.mem_turned.2 ⟨e, he, .inr rfl⟩, hb⟩
  have hset : ∀ e, e ∈ Hyp.setsOf (Hyp.turnedUp es es.length) ↔ e ∈ Hyp.setsOf es := by
    intro e
    unfold Hyp.setsOf
    simp only [List.mem_map, List.mem_filter]
    constructor
    · rintro ⟨y, ⟨hy, hne⟩, rfl⟩
      obtain ⟨x, hx, h⟩ := Hyp.mem_turned.1 hy
      rcases h with rfl | rfl
      · exact ⟨x, ⟨hx, by simpa using hne⟩, (Hyp.setOf_rev x).symm⟩
      · exact ⟨y, ⟨hx, hne⟩, rfl⟩
    · rintro ⟨y, ⟨hy, hne⟩, rfl⟩
      exact ⟨y, ⟨Hyp.mem_turned.2 ⟨y, hy, .inr rfl⟩, hne⟩, rfl⟩
  have hmin : Hyp.minimal (Hyp.turnedUp es es.length) = Hyp.minimal es := by
    refine (Hyp.minimal_is _).unique ⟨(Hyp.minimal_is es).sorted, fun e => ?_⟩
    rw [(Hyp.minimal_is es).mem e, hset]
    exact ⟨fun h => ⟨h.1, fun f hf => h.2 f ((hset f).1 hf)⟩, fun h => ⟨h.1, fun f hf => h.2 f ((hset f).2 hf)⟩⟩
  unfold Hyp.makeF
  rw [hbad, hmin]
theorem Hyp.make_bounds {n : Int} {cost : List Int} {es : List (List Int)} {r1 : Int} {r2 : List Int} {r3 : List (List Int)} {r4 : Int} (h : Hyp.makeF n cost es = (r1, r2, r3, r4)) : r2.length ≤ cost.length ∧ r3.length ≤ es.length ∧ ∀ e ∈ r3, ∃ x ∈ es, e.length ≤ x.length := by
  unfold Hyp.makeF at h
  have ml := Hyp.minimal_len es
  split at h
  · split at h
    · cases h; exact ⟨by simp, by simp, fun e he => by simp at he⟩
    · cases h
      refine ⟨Nat.le_refl _, ml, fun e he => ?_⟩
      obtain ⟨x, hx, _, rfl⟩ := Hyp.minimal_from he
      exact ⟨x, hx, Hyp.setOf_le x⟩
  · cases h; exact ⟨by simp, by simp, fun e he => by simp at he⟩
theorem Hyp.turned_len (es : List (List Int)) : (Hyp.turnedUp es es.length).length = 2 * es.length := by
  unfold Hyp.turnedUp
  rw [List.take_of_length_le (by simp), List.length_flatMap]
  simp
  induction es with
  | nil => rfl
  | cons a es ih => simp; omega
end Go.Proofs.YtgjbnmobhafajaaDoor
end
