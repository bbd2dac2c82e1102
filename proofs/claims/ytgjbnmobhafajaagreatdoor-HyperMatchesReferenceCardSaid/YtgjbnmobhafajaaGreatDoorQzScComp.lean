/- The texts of this claim, ScComp. -/
import Derived.Test.YtgjbnmobhafajaaGreatDoorQzSaValid
import Derived.Test.YtgjbnmobhafajaaGreatDoorQzScPure
import Derived.Test.YtgjbnmobhafajaaGreatDoorQzHxTools
section
namespace Go.Proofs.YtgjbnmobhafajaaGreatDoor
open Go Go.RowKit Go.Sort Go.Shelf Go.Proofs.YtgjbnmobhafajaaGreatDoorW.PrintWords Go.Proofs.YtgjbnmobhafajaaGreatDoorW.PrintLast
attribute [local go_sem] max2_int min2_int max_two min_two
noncomputable def cleanseref27_Components.f (a0_0 : Int) (l0_1 : List Int) (l0_2 : List (List Int)) : Option (List (List Int)) :=
  if a0_0 ≤ 100 ∧ l0_1.length ≤ 1000 ∧ l0_2.length ≤ 1000 ∧ ∀ x ∈ l0_2, x.length ≤ 1000 then some (if Hyp.validB a0_0 l0_1 l0_2 = true then Hyp.components a0_0.toNat l0_2 else []) else none
def RCls (wb w1 : World) (v : Value) (c : List Nat) (W : World) : Prop :=
  W.ownsRow w1.heap.size 3 1 v c.length (c.map fun (x : Nat) => Value.int .i64 (x : Int)) ∧ Below wb.heap.size wb W ∧ w1.heap.size ≤ W.heap.size
theorem RCls.at {wb w1 W : World} {A : Option Addr} {n cap : Nat} {c : List Nat} (h : RCls wb w1 (.slice A n cap) c W) (hk : 0 < c.length) : ∃ g, A = some ⟨g, 0, none⟩ ∧ w1.heap.size ≤ g ∧
    (∀ k, k < c.length → W.cell? ⟨g, k, none⟩ = some (.int .i64 ((c.getD k 0 : Nat) : Int)) ∧ W.frozen? ⟨g, k, none⟩ = false) ∧
    ∀ k L, k < c.length → wb.heap.size ≤ w1.heap.size → RCls wb w1 (.slice A n cap) (c.set k L) (W.setCell ⟨g, k, none⟩ (.int .i64 (L : Nat))) := by
  obtain ⟨h1, h2, h3⟩ := h
  rcases own_nil_or h1 with ⟨_, hn, _⟩ | ⟨g, cap', hv⟩
  · omega
  · obtain ⟨e1, e2, e3⟩ := Value.slice.inj hv
    subst e1 e2 e3
    have hg := own_base h1 g rfl
    refine ⟨g, rfl, hg, fun k hk => ?_, fun k L hk hb => ⟨?_, h2.setCell (by show wb.heap.size ≤ g; omega) _, by simpa using h3⟩⟩
    · have := own_cells h1 k (by simpa using hk)
      rw [List.getElem_map, Nat.zero_add] at this
      rw [List.getD_eq_getElem?_getD, List.getElem?_eq_getElem hk]
      exact this
    · have := own_set h1 k hk (.int .i64 (L : Nat))
      rw [List.length_set, List.map_set]
      exact this
def RFix (wb w1 : World) (n : Nat) (rt : Nat → Nat) (v : Value) (gg : Nat) (b : Bool) (W : World) : Prop :=
  ∃ c, Hyp.ClassOk n rt c ∧ RCls wb w1 v c W ∧ (b = true → c.sum + 1 ≤ gg) ∧ (b = false → ∀ x, x < n → c.getD x 0 = rt x)
theorem Hyp.take_one {e : List Int} {k : Nat} (hk : k < e.length) : e.take (k + 1) = e.take k ++ [e.getD k 0] := by
  rw [List.take_succ_eq_append_getElem hk, List.getD_eq_getElem?_getD, List.getElem?_eq_getElem hk]; rfl
theorem Hyp.chg_step {c : List Nat} {e : List Int} {k L : Nat} (hk : k < e.length) (hv : ∀ v ∈ e, 0 ≤ v ∧ v.toNat < c.length) (b : Bool) :
    (b || (e.take (k + 1)).any fun v => Hyp.cl c v != L) = ((b || (e.take k).any fun v => Hyp.cl c v != L) || ((Hyp.setTo c (e.take k) L).getD (e.getD k 0).toNat 0 != L)) := by
  have hm : e.getD k 0 ∈ e := by rw [List.getD_eq_getElem?_getD, List.getElem?_eq_getElem hk]; exact List.getElem_mem hk
  rw [Hyp.take_one hk, List.any_append, Hyp.setTo_get L (e.take k) c _ (hv _ hm).2 (fun v hv' => (hv v (List.mem_of_mem_take hv')).1)]
  have h0 := (hv _ hm).1
  generalize e.getD k 0 = u at *
  rw [show ((u.toNat : Nat) : Int) = u by omega]
  by_cases h1 : u ∈ e.take k
  · rw [if_pos h1]
    have : ((L != L) : Bool) = false := by simp
    rw [this, Bool.or_false]
    cases hp : Hyp.cl c u != L with
    | false => simp [hp]
    | true =>
      have : ((e.take k).any fun v => Hyp.cl c v != L) = true := List.any_eq_true.2 ⟨u, h1, hp⟩
      rw [this]; simp
  · rw [if_neg h1]
    simp [Hyp.cl, Bool.or_assoc]
def RGrp (wb w1 wC : World) (n : Nat) (rt : Nat → Nat) (vc : Value) (c : List Nat) (i : Nat) (v : Value) (W : World) : Prop :=
  ∃ xs pl, RCls wb w1 vc c W ∧ RCls wb wC (.slice (some ⟨wC.heap.size, 0, none⟩) n n) pl W ∧ pl.length = n ∧ (∀ x, x < i → rt x = x → pl.getD x 0 = Hyp.rank rt x) ∧ xs.map Row.l = Hyp.compsUp rt i ∧
    W.ownsRow (wC.heap.size + 1) 22 1 v xs.length (xs.map Row.v) ∧ RowsN W (wC.heap.size + 1) xs ∧ wC.heap.size + 1 ≤ W.heap.size
theorem RCls.move {wb w1 W W' : World} {v : Value} {c : List Nat} (h : RCls wb w1 v c W) (hb : Below wb.heap.size wb W') (hs : W.heap.size ≤ W'.heap.size) (hq : ∀ q, v.ownBlock = some q → W'.heap[q]? = W.heap[q]?) : RCls wb w1 v c W' :=
  ⟨own_move h.1 hq, hb, Nat.le_trans h.2.2 hs⟩
theorem rows_more {wb W : World} {base i k : Nat} {v : Value} {xs : List Row} (hk : k < xs.length) (hlen : xs[k].l.length ≤ i) (hown : W.ownsRow base 22 1 v xs.length (xs.map Row.v)) (hrows : RowsN W base xs) (hbel : Below wb.heap.size wb W) (hwb : wb.heap.size ≤ base) :
    ∃ gO cap u l, v = .slice (some ⟨gO, 0, none⟩) xs.length cap ∧ xs.length ≤ cap ∧ W.cell? ⟨gO, k, none⟩ = some u ∧ (∃ A c, u = .slice A l.length c) ∧ W.frozen? ⟨gO, k, none⟩ = false ∧ l.length ≤ i ∧ l = xs[k].l ∧ (base ≤ gO ∧ gO < W.heap.size) ∧
      Kd.R (Kd.int .i64) 3 W base (fun _ => True) u l ∧
      ∀ v2 w2, Kd.R (Kd.int .i64) 3 w2 base (fun _ => True) v2 (l ++ [(i : Int)]) → W.grownBy w2 u.ownBlock → (v2.ownBlock = u.ownBlock ∨ ∃ b, v2.ownBlock = some b ∧ W.heap.size ≤ b) → base ≤ W.heap.size →
        w2.cell? ⟨gO, k, none⟩ = some u ∧ w2.frozen? ⟨gO, k, none⟩ = false ∧ (∀ q, q < base → (w2.setCell ⟨gO, k, none⟩ v2).heap[q]? = W.heap[q]?) ∧ W.heap.size ≤ (w2.setCell ⟨gO, k, none⟩ v2).heap.size ∧ Below wb.heap.size wb (w2.setCell ⟨gO, k, none⟩ v2) ∧
          ∃ ys : List Row, ys.length = xs.length ∧ ys.map Row.l = (xs.map Row.l).set k (l ++ [(i : Int)]) ∧ (w2.setCell ⟨gO, k, none⟩ v2).ownsRow base 22 1 v ys.length (ys.map Row.v) ∧ RowsN (w2.setCell ⟨gO, k, none⟩ v2) base ys := by
  rcases own_nil_or hown with ⟨_, hn0, _⟩ | ⟨gO, cap, rfl⟩
  · omega
  have hok := hrows.own _ (List.getElem_mem hk)
  obtain ⟨hcell, hfr⟩ := own_cells hown k (by simpa using hk)
  rw [List.getElem_map, Nat.zero_add] at hcell
  rw [Nat.zero_add] at hfr
  have hcap := (own_block hown).2.2.2.1
  have hglt := own_lt hown gO rfl
  have hgb := own_base hown gO rfl
  refine ⟨gO, cap, xs[k].v, xs[k].l, rfl, hcap, hcell, own_slice hok, hfr, hlen, rfl, ⟨hgb, hglt⟩, Kd.R_of_own (enc := Value.int .i64) hok (fun _ _ => trivial), ?_⟩
  intro v2 w2 hR2 hg2 hat hbs
  have hne : some gO ≠ xs[k].v.ownBlock := by
    intro e
    obtain ⟨c1, h1⟩ := own_typed hok gO e.symm
    obtain ⟨c2, h2⟩ := own_typed hown gO rfl
    rw [h1] at h2
    simp at h2
  have hbk : ∀ q, xs[k].v.ownBlock = some q → base ≤ q := fun q hq => own_base hok q hq
  have hold : ∀ q, q < base → w2.heap[q]? = W.heap[q]? := fun q hq => hg2.block q (by omega) (fun e => by have := hbk q e.symm; omega)
  have hown2 := own_move hown (fun q hq => by have e : gO = q := by simpa [Value.ownBlock] using hq
                                              subst e; exact hg2.block _ hglt hne)
  obtain ⟨hc2, hf2⟩ := own_cells hown2 k (by simpa using hk)
  rw [List.getElem_map, Nat.zero_add] at hc2
  rw [Nat.zero_add] at hf2
  have holdS : ∀ q, q < base → (w2.setCell ⟨gO, k, none⟩ v2).heap[q]? = w2.heap[q]? := fun q hq => Below.heap_setCell _ _ _ _ (by show q ≠ gO; omega)
  refine ⟨hc2, hf2, fun q hq => (holdS q hq).trans (hold q hq), by have := hg2.size; simp; omega, (hbel.grown hg2 (by omega) (fun q e => by have := hbk q e; omega)).setCell (by show wb.heap.size ≤ gO; omega) _, xs.set k ⟨v2, xs[k].l ++ [(i : Int)]⟩, by simp, ?_, ?_, ?_⟩
  · rw [List.map_set]
  · rw [List.map_set, List.length_set]; exact own_set hown2 k hk v2
  · have hr2 := hrows.put k hk ⟨v2, xs[k].l ++ [(i : Int)]⟩ (R_int hR2) hg2 hat
    obtain ⟨c2, h2⟩ := own_typed hown2 gO rfl
    refine hr2.step (fun q cells _ _ hc => Below.heap_setCell _ _ _ _ (fun e => ?_))
    rw [show q = gO from e, h2] at hc
    simp at hc
def RGrpD (wb w1 wC : World) (n : Nat) (rt : Nat → Nat) (vc : Value) (c : List Nat) (i k : Nat) (v : Value) (W : World) : Prop :=
  ∃ xs pl, RCls wb w1 vc c W ∧ RCls wb wC (.slice (some ⟨wC.heap.size, 0, none⟩) n n) pl W ∧ pl.length = n ∧ (∀ x, x < i + 1 → rt x = x → pl.getD x 0 = Hyp.rank rt x) ∧
    (k < xs.length ∧ (xs.map Row.l).set k ((xs.map Row.l).getD k [] ++ [(i : Int)]) = Hyp.compsUp rt (i + 1) ∧ ((xs.map Row.l).getD k []).length ≤ i) ∧
    W.ownsRow (wC.heap.size + 1) 22 1 v xs.length (xs.map Row.v) ∧ RowsN W (wC.heap.size + 1) xs ∧ wC.heap.size + 1 ≤ W.heap.size
theorem RGrpD.row {wb w1 wC : World} {n : Nat} {rt : Nat → Nat} {vc : Value} {c : List Nat} {i k : Nat} {v : Value} {W : World} (h : RGrpD wb w1 wC n rt vc c i k v W) (hwb : wb.heap.size ≤ wC.heap.size) (hq : ∀ q, vc.ownBlock = some q → q < wC.heap.size) :
    ∃ gO m cap u l, v = .slice (some ⟨gO, 0, none⟩) m cap ∧ k < m ∧ m ≤ cap ∧ W.cell? ⟨gO, k, none⟩ = some u ∧ (∃ A c, u = .slice A l.length c) ∧ W.frozen? ⟨gO, k, none⟩ = false ∧ l.length ≤ i ∧ (wC.heap.size < gO ∧ gO < W.heap.size) ∧
      Kd.R (Kd.int .i64) 3 W (wC.heap.size + 1) (fun _ => True) u l ∧ RCls wb w1 vc c W ∧ (∃ pl, RCls wb wC (.slice (some ⟨wC.heap.size, 0, none⟩) n n) pl W ∧ pl.length = n ∧ ∀ x, x < i + 1 → rt x = x → pl.getD x 0 = Hyp.rank rt x) ∧ wC.heap.size + 1 ≤ W.heap.size ∧
      ∀ v2 w2, Kd.R (Kd.int .i64) 3 w2 (wC.heap.size + 1) (fun _ => True) v2 (l ++ [(i : Int)]) → W.grownBy w2 u.ownBlock → (v2.ownBlock = u.ownBlock ∨ ∃ b, v2.ownBlock = some b ∧ W.heap.size ≤ b) →
        w2.cell? ⟨gO, k, none⟩ = some u ∧ w2.frozen? ⟨gO, k, none⟩ = false ∧ RGrp wb w1 wC n rt vc c (i + 1) v (w2.setCell ⟨gO, k, none⟩ v2) := by
  obtain ⟨xs, pl, hrc, hrp, hpl, hpr, ⟨hk, hset, hlen⟩, hown, hrows, hsz⟩ := h
  have hkl : (xs.map Row.l).getD k [] = xs[k].l := by rw [List.getD_eq_getElem?_getD, List.getElem?_map, List.getElem?_eq_getElem hk]; rfl
  rw [hkl] at hset hlen
  obtain ⟨gO, cap, u, l, e1, e2, e3, e4, e5, e6, rfl, e7, e8, e9⟩ := rows_more hk hlen hown hrows hrc.2.1 (by omega)
  refine ⟨gO, xs.length, cap, u, _, e1, hk, e2, e3, e4, e5, e6, e7, e8, hrc, ⟨pl, hrp, hpl, hpr⟩, hsz, fun v2 w2 h1 h2 h3 => ?_⟩
  have hqp : ∀ q, (Value.slice (some ⟨wC.heap.size, 0, none⟩) n n).ownBlock = some q → q < wC.heap.size + 1 := by
    intro q h
    have e : wC.heap.size = q := by simpa [Value.ownBlock] using h
    omega
  obtain ⟨g1, g2, g3, g4, g5, ys, y1, y2, y3, y4⟩ := e9 v2 w2 h1 h2 h3 hsz
  refine ⟨g1, g2, ys, pl, hrc.move g5 g4 (fun q h => g3 q (by have := hq q h; omega)), hrp.move g5 g4 (fun q h => g3 q (hqp q h)), hpl, hpr, by rw [y2]; exact hset, y3, y4, by omega⟩
theorem RGrpD.drew {wb w1 wC : World} {n : Nat} {rt : Nat → Nat} {vc : Value} {c : List Nat} {i k : Nat} {v : Value} {W : World} (h : RGrpD wb w1 wC n rt vc c i k v W) : RGrpD wb w1 wC n rt vc c i k v W.drew := by
  obtain ⟨xs, pl, hrc, hrp, a, b, c, d, e, f⟩ := h
  exact ⟨xs, pl, ⟨own_move hrc.1 (fun _ _ => rfl), hrc.2.1.drew, hrc.2.2⟩, ⟨own_move hrp.1 (fun _ _ => rfl), hrp.2.1.drew, hrp.2.2⟩, a, b, c, own_move d (fun _ _ => rfl), e.step (fun _ _ _ _ _ => rfl), f⟩
theorem RGrp.fresh {wb w1 wC : World} {n : Nat} {rt : Nat → Nat} {vc : Value} {c : List Nat} {i : Nat} {v : Value} {W : World} {xs : List Row} {pl : List Nat}
    (hrc : RCls wb w1 vc c W) (hrp : RCls wb wC (.slice (some ⟨wC.heap.size, 0, none⟩) n n) pl W) (hpl : pl.length = n) (hpr : ∀ x, x < i → rt x = x → pl.getD x 0 = Hyp.rank rt x) (hxl : xs.map Row.l = Hyp.compsUp rt i)
    (hown : W.ownsRow (wC.heap.size + 1) 22 1 v xs.length (xs.map Row.v)) (hrows : RowsN W (wC.heap.size + 1) xs) (hsz : wC.heap.size + 1 ≤ W.heap.size) (hwb : wb.heap.size ≤ wC.heap.size) (hq : ∀ q, vc.ownBlock = some q → q < wC.heap.size)
    (hi : i < n) (htn : rt i = i) (hle : ∀ x, x < i → rt x ≤ x) (hxn : xs.length = Hyp.rank rt i) :
    ∃ w4, w4 = W.setCell ⟨wC.heap.size, i, none⟩ (.int .i64 ((xs.length : Nat) : Int)) ∧ w4.heap.size = W.heap.size ∧ w4.ownsRow (wC.heap.size + 1) 22 1 v xs.length (xs.map Row.v) ∧
      (∃ u, W.cell? ⟨wC.heap.size, i, none⟩ = some u) ∧ W.frozen? ⟨wC.heap.size, i, none⟩ = false ∧
      ∀ v5 w5, w5.ownsRow (wC.heap.size + 1) 22 1 v5 (xs.length + 1) (xs.map Row.v ++ [.slice none 0 0]) → (w4.alloc (.cells #[.slice none 0 0] 22)).grownBy w5 v.ownBlock → RGrpD wb w1 wC n rt vc c i xs.length v5 w5 := by
  obtain ⟨gP, hgP, _, hpcells, hpput⟩ := hrp.at (by omega)
  replace hgP := congrArg Addr.block (Option.some.inj hgP)
  simp only at hgP
  subst hgP
  obtain ⟨hpc, hpf⟩ := hpcells i (by omega)
  have hrp4 := hpput i xs.length (by omega) (by omega)
  have old4 : ∀ q, q ≠ wC.heap.size → (W.setCell ⟨wC.heap.size, i, none⟩ (.int .i64 ((xs.length : Nat) : Int))).heap[q]? = W.heap[q]? := fun q hne => Below.heap_setCell _ _ _ _ hne
  have hsz4 : (W.setCell ⟨wC.heap.size, i, none⟩ (.int .i64 ((xs.length : Nat) : Int))).heap.size = W.heap.size := by simp
  have hb4 : Below wb.heap.size wb (W.setCell ⟨wC.heap.size, i, none⟩ (.int .i64 ((xs.length : Nat) : Int))) := hrc.2.1.setCell hwb _
  have hgb : ∀ q, v.ownBlock = some q → wC.heap.size + 1 ≤ q := fun q hq => own_base hown q hq
  have hrc4 := hrc.move hb4 (Nat.le_of_eq hsz4.symm) (fun q h => old4 q (by have := hq q h; omega))
  have hown4 := own_move (w1 := W.setCell ⟨wC.heap.size, i, none⟩ (.int .i64 ((xs.length : Nat) : Int))) hown (fun q h => old4 q (by have := hgb q h; omega))
  have hrows4 := hrows.step (w1 := W.setCell ⟨wC.heap.size, i, none⟩ (.int .i64 ((xs.length : Nat) : Int))) (fun q cells hb _ _ => old4 q (by omega))
  refine ⟨_, rfl, hsz4, hown4, ⟨_, hpc⟩, hpf, fun v5 w5 ho5 hg5 => ?_⟩
  generalize W.setCell ⟨wC.heap.size, i, none⟩ (.int .i64 ((xs.length : Nat) : Int)) = w4 at *
  have h5s := hg5.size
  rw [World.size_alloc] at h5s
  have old5 : ∀ q, q < w4.heap.size → (∀ p, v.ownBlock = some p → q ≠ p) → w5.heap[q]? = w4.heap[q]? := fun q hq hne =>
    (hg5.block q (by simp; omega) (fun e => hne q e.symm rfl)).trans (Below.heap_alloc _ _ _ hq)
  have hb5 : Below wb.heap.size wb w5 := (hb4.alloc (by omega) _).grown hg5 (by simp; omega) (fun q e => by have := hgb q e; omega)
  refine ⟨xs ++ [⟨.slice none 0 0, []⟩], pl.set i xs.length, hrc4.move hb5 (by omega) (fun q h => old5 q (by have := hq q h; omega) (fun p hp => by have := hq q h; have := hgb p hp; omega)),
    hrp4.move hb5 (by omega) (fun q h => ?_), by rw [List.length_set]; exact hpl, fun x hx hxx => ?_, ⟨by simp, ?_, ?_⟩, by simpa using ho5, ?_, by omega⟩
  · have e : wC.heap.size = q := by simpa [Value.ownBlock] using h
    exact old5 q (by omega) (fun p hp => by have := hgb p hp; omega)
  · rw [List.getD_eq_getElem?_getD, List.getElem?_set]
    by_cases h : i = x
    · subst h
      rw [if_pos rfl, if_pos (by omega)]
      exact hxn
    · rw [if_neg h, ← List.getD_eq_getElem?_getD]
      exact hpr x (by omega) hxx
  · rw [Hyp.compsUp_new htn hle, ← hxl]
    simp
  · simp
  · refine hrows4.snoc_nil.step (fun q cells hb hq hc => old5 q hq (fun p hp e => ?_))
    subst e
    obtain ⟨c1, h3⟩ := own_typed hown4 q hp
    rw [h3] at hc
    simp at hc
set_option maxRecDepth 100000 in
set_option maxHeartbeats 8000000 in
theorem cleanseref27_Components.calls (a0_0 : Int) (A0_1 : Option Addr) (c0_1 : Nat) (l0_1 : List Int) (A0_2 : Option Addr) (c0_2 : Nat) (l0_2 : List (List Int)) (r : List (List Int)) (w : World) (hr0_1 : Kd.C (Kd.int .i64) w A0_1 l0_1.length l0_1) (hc0_1 : l0_1.length ≤ c0_1) (hr0_2 : Kd.C (Kd.slice 3 (Kd.int .i64)) w A0_2 l0_2.length l0_2) (hc0_2 : l0_2.length ≤ c0_2) (h : cleanseref27_Components.f a0_0 l0_1 l0_2 = some r) :
    Calls Tryz.prog 21 #[.agg #[.int .i64 a0_0, .slice A0_1 l0_1.length c0_1, .slice A0_2 l0_2.length c0_2]] w fun e w' => ∃ v0_ : Value, e = .returned (v0_) ∧ Kd.S (Kd.slice 3 (Kd.int .i64)) 22 w' w.heap.size (fun _ => True) v0_ r ∧ Below w.heap.size w w' := by
  unfold cleanseref27_Components.f at h
  split at h
  case isFalse => cases h
  rename_i hcc
  have hr := (Option.some.inj h).symm
  have HR := Lib.hid hr
  obtain ⟨wb, hwb⟩ : ∃ wb, wb = w.alloc (.cells #[.int .i64 a0_0, .slice A0_1 l0_1.length c0_1, .slice A0_2 l0_2.length c0_2] 25) := ⟨_, rfl⟩
  have hbw : Below w.heap.size w wb := by rw [hwb]; exact below_alloc (Below.refl _ w) _
  have hsb : wb.heap.size = w.heap.size + 1 := by rw [hwb]; simp
  have hbox : wb.heap[w.heap.size]? = some (.cells #[.int .i64 a0_0, .slice A0_1 l0_1.length c0_1, .slice A0_2 l0_2.length c0_2] 25 (0, 0)) := by rw [hwb]; exact World.alloc_heap_new w _
  have hbx0 : wb.cell? ⟨w.heap.size, 0, none⟩ = some (.int .i64 a0_0) := by unfold World.cell?; rw [hbox]; rfl
  have hbx2 : wb.cell? ⟨w.heap.size, 2, none⟩ = some (.slice A0_2 l0_2.length c0_2) := by unfold World.cell?; rw [hbox]; rfl
  have HV := Lib.hid (Hy.cleanseref27_Valid.calls 5000001 a0_0 A0_1 c0_1 l0_1 A0_2 c0_2 l0_2 (Hyp.validB a0_0 l0_1 l0_2) wb (Kd.C_below hr0_1 hbw) hc0_1 (Kd.C_below hr0_2 hbw) hc0_2 (Hy.valid_f a0_0 l0_1 l0_2 hcc.2.1 hcc.2.2.1 hcc.2.2.2 5000001 (by omega)))
  have HRD := Lib.hid (Kd.C_below hr0_2 hbw)
  have HWB := Lib.hid hwb
  have HBW := Lib.hid hbw
  have HCC := Lib.hid hcc
  clear h hr hr0_1 hr0_2 hwb hbw hbox hcc
  obtain ⟨iR, hiR, hzR0, hzR1, hzR2⟩ := info_parts infoR
  obtain ⟨iI, hiI, hzI0, hzI1, hzI2⟩ := info_parts infoInt
  go_enter Tryz.func21, Tryz.ntmps21
  go_wp2_with fail
  rw [← HWB.out]
  refine HV.out.mono ?_
  rintro e w1 ⟨rfl, hb1⟩
  have hsz1 := hb1.size
  by_cases hvd : Hyp.validB a0_0 l0_1 l0_2 = true
  · obtain ⟨rt, hrt, hcmp⟩ := Hyp.components_is hvd
    obtain ⟨hn0, _, _, _, _, hedges, _⟩ := Hyp.valid_parts hvd
    rw [hvd, if_pos rfl] at HR
    rw [hvd]
    clear hvd
    obtain ⟨n, rfl⟩ := Int.eq_ofNat_of_zero_le hn0
    have hn100 : n ≤ 100 := by have := HCC.out.1; omega
    rw [hcmp] at HR
    replace hrt : Hyp.IsRoot n l0_2 rt := hrt
    have HED := Lib.hid hedges
    have HRT := Lib.hid hrt
    clear hedges hn0 hrt hcmp
    have HB1 := Lib.hid hb1
    have hb0w := (hb1.cell (p := ⟨w.heap.size, 0, none⟩) (by show w.heap.size < _; omega)).trans hbx0
    clear hb1
    have SA : Hid (RCls wb w1 (.slice none 0 0) (List.range 0) w1) := Lib.hid ⟨own_nil _ _ _ _, HB1.out, Nat.le_refl _⟩
    go_wp2
    go_loopg [3, 4] n (fun gg s3 s4 wr => ∃ k : Nat, s4 = .int .i64 (k : Int) ∧ k ≤ n ∧ n - k ≤ gg ∧ Hid (RCls wb w1 s3 (List.range k) wr))
    case atStart => exact ⟨0, rfl, by omega, by omega, SA⟩
    case round =>
      clear SA
      obtain ⟨k, rfl, hk, hg, S1⟩ := hrel
      obtain ⟨hown, hbel, hszr⟩ := S1.out
      clear S1
      have hb0x := (hbel.cell (p := ⟨w.heap.size, 0, none⟩) (by show w.heap.size < _; omega)).trans hbx0
      have HO := Lib.hid hown
      have HBE := Lib.hid hbel
      clear hown hbel
      obtain ⟨Ac, cc, rfl⟩ := own_slice HO.out
      rw [List.length_range] at HO ⊢
      by_cases hlt : k < n
      · have hltz : (k : Int) < (n : Int) := by omega
        go_wp2_with (at_builtin; refine wpList_append_own _ rfl _ _ 22 rfl w1.heap.size 3 iI (.int .i64 0) 1 8 Tryz.underlying22 hiI hzI0 hzI1 hzI2 rfl (by decide) _ _ _ rfl (HO.out.alloc _) ⟨wr.heap.size, 0, none⟩ 1 1 [.int .i64 (k : Int)] rfl rfl (cell_one_new _ _ _) (by simp [Value.oneCell']) (by unfold maxLen; omega) (by omega) (by simp; omega) ?_
                     intro v5 w5 ho5 hg5 _
                     have S2 : Hid (RCls wb w1 v5 (List.range (k + 1)) w5) := Lib.hid ⟨by rw [List.length_range, List.range_succ, List.map_append]; exact ho5, (HBE.out.alloc (by omega) _).grown hg5 (by simp; omega) (fun q e => by have := own_base HO.out q e; omega), by have := hg5.size; simp at this; omega⟩
                     obtain ⟨A5, c5, rfl⟩ := own_slice ho5
                     clear ho5 hg5)
        go_roundg (n - (k + 1))
        case measure => omega
        case rel => exact ⟨k + 1, by go_num, by omega, Nat.le_refl _, S2⟩
      · have hltz : ¬ (k : Int) < (n : Int) := by omega
        obtain rfl : n = k := by omega
        have hb2w := (HBE.out.cell (p := ⟨w.heap.size, 2, none⟩) (by show w.heap.size < _; omega)).trans hbx2
        have SB : Hid (RFix wb w1 n rt (.slice Ac n cc) ((List.range n).sum + 1) true wr) := Lib.hid ⟨List.range n, Hyp.ClassOk.start n rt, ⟨by rw [List.length_range]; exact HO.out, HBE.out, hszr⟩, fun _ => Nat.le_refl _, fun h => by cases h⟩
        clear HO HBE hszr hk hg hlt
        go_wp2
        go_loopg [5] ((List.range n).sum + 1) (fun gg s5 wx => ∃ b : Bool, s5 = .bool b ∧ Hid (RFix wb w1 n rt (.slice Ac n cc) gg b wx))
        case atStart => exact ⟨true, rfl, SB⟩
        case round =>
          clear SB hb2w
          obtain ⟨b, rfl, S2⟩ := hrel
          obtain ⟨c, hok, hrc, hbt, hbf⟩ := S2.out
          clear S2
          cases b with
          | true =>
            have hcs := hbt rfl
            clear hbt hbf
            have HPF := Lib.hid (Hyp.pass_facts (es := l0_2) (fun e he => ⟨(HED.out e he).1, (HED.out e he).2.1⟩) HRT.out.con hok)
            have HOK := Lib.hid hok
            have hb2x := (hrc.2.1.cell (p := ⟨w.heap.size, 2, none⟩) (by show w.heap.size < _; omega)).trans hbx2
            have SC : Hid (RCls wb w1 (.slice Ac n cc) (Hyp.pass n (l0_2.take 0) c).1 wr) := Lib.hid hrc
            clear hok hrc
            go_wp2
            go_loopg [5, 6] l0_2.length (fun gg s5 s6 wx => ∃ i : Nat, s6 = .int .i64 (i : Int) ∧ i ≤ l0_2.length ∧ l0_2.length - i ≤ gg ∧ s5 = .bool (Hyp.pass n (l0_2.take i) c).2 ∧ Hid (RCls wb w1 (.slice Ac n cc) (Hyp.pass n (l0_2.take i) c).1 wx))
            case atStart => exact ⟨0, rfl, by omega, by omega, rfl, SC⟩
            case round =>
              clear SC hb2x
              obtain ⟨i, rfl, hi, hgi, rfl, S3⟩ := hrel
              have hb2y := (S3.out.2.1.cell (p := ⟨w.heap.size, 2, none⟩) (by show w.heap.size < _; omega)).trans hbx2
              have hb0y := (S3.out.2.1.cell (p := ⟨w.heap.size, 0, none⟩) (by show w.heap.size < _; omega)).trans hbx0
              by_cases hlt : i < l0_2.length
              · have hltz : (i : Int) < (l0_2.length : Int) := by omega
                obtain ⟨hok2, _, _, _⟩ := HPF.out i hi
                have hnxt := Hyp.pass_take n l0_2 c i hlt
                obtain ⟨bb, off, rfl, hbb, hcs⟩ := C_rows HRD.out (show 0 < l0_2.length by omega)
                obtain ⟨Ax, cx, hcell, hlx, hCx⟩ := hcs i hlt
                have hcw := (S3.out.2.1.cell (p := ⟨bb, off + i, none⟩) hbb).trans hcell
                have HCELL := Lib.hid hcell
                have hmem : l0_2.getD i [] ∈ l0_2 := by rw [List.getD_eq_getElem?_getD, List.getElem?_eq_getElem hlt]; exact List.getElem_mem hlt
                have hge : l0_2[i] = l0_2.getD i [] := by rw [List.getD_eq_getElem?_getD, List.getElem?_eq_getElem hlt]; rfl
                obtain ⟨hxne, hxin, _⟩ := HED.out _ hmem
                have hxl := HCC.out.2.2.2 _ hmem
                rw [hge] at hnxt
                obtain ⟨x, hx⟩ : ∃ x, x = l0_2.getD i [] := ⟨_, rfl⟩
                rw [← hx] at hcw hlx hCx hxne hxin hxl hnxt HCELL
                clear hcs hcell hmem hx hge
                have hx0 : 0 < x.length := List.length_pos_iff.2 hxne
                obtain ⟨bx, ox, rfl, hbbx, hcx⟩ := C_int hCx hx0
                have HCX := Lib.hid hcx
                have HXI := Lib.hid hxin
                have HXIN : Hid (∀ j, j < x.length → 0 ≤ x.getD j 0 ∧ x.getD j 0 < (n : Int)) := Lib.hid (fun j hj => by rw [Hyp.getD_get x j hj]; exact hxin _ (List.getElem_mem hj))
                have hn1 : 0 < n := by have := HXIN.out 0 hx0; omega
                obtain ⟨p, hp⟩ : ∃ p, p = Hyp.pass n (l0_2.take i) c := ⟨_, rfl⟩
                rw [← hp] at hok2 hnxt S3 ⊢
                obtain ⟨cp, bp⟩ := p
                replace hok2 : Hyp.ClassOk n rt cp := hok2
                replace S3 : Hid (RCls wb w1 (.slice Ac n cc) cp wr) := S3
                show Code.wp _ _ _ _ _
                obtain ⟨gC, rfl, hgC, _, _⟩ := S3.out.at (by rw [hok2.len]; exact hn1)
                have hpn : ((cp, bp) : List Nat × Bool).2 = bp := rfl
                rw [hpn]
                have HNX := Lib.hid hnxt
                have HOK2 := Lib.hid hok2
                have SD : Hid (RCls wb w1 (.slice (some ⟨gC, 0, none⟩) n cc) cp wr) := S3
                clear hp hnxt hok2 hCx hcx hxin hxne S3 hpn
                go_wp2
                go_loopg [7, 8] x.length (fun gg s7 s8 wx => ∃ k : Nat, s8 = .int .i64 (k : Int) ∧ k ≤ x.length ∧ x.length - k ≤ gg ∧ s7 = .int .i64 ((Hyp.leastOf n cp (x.take k) : Nat) : Int) ∧ Hid (RCls wb w1 (.slice (some ⟨gC, 0, none⟩) n cc) cp wx))
                case atStart => exact ⟨0, rfl, by omega, by omega, rfl, SD⟩
                case round =>
                  clear SD hb2y hb0y hcw
                  obtain ⟨k, rfl, hk, hgk, rfl, S4⟩ := hrel
                  have hb2z := (S4.out.2.1.cell (p := ⟨w.heap.size, 2, none⟩) (by show w.heap.size < _; omega)).trans hbx2
                  have hcw := (S4.out.2.1.cell (p := ⟨bb, off + i, none⟩) hbb).trans HCELL.out
                  by_cases hkl : k < x.length
                  · have hklz : (k : Int) < (x.length : Int) := by omega
                    have hcj := (S4.out.2.1.cell (p := ⟨bx, ox + k, none⟩) hbbx).trans (HCX.out k hkl)
                    obtain ⟨hj0, hj1⟩ := HXIN.out k hkl
                    have hls := Hyp.leastOf_snoc n cp (x.take k) (x.getD k 0)
                    rw [← Hyp.take_one hkl] at hls
                    obtain ⟨u, hu⟩ := Int.eq_ofNat_of_zero_le hj0
                    unfold Hyp.cl at hls
                    rw [hu] at hcj hj1 hls
                    rw [Int.toNat_natCast] at hls
                    have hun : u < cp.length := by rw [HOK2.out.len]; omega
                    obtain ⟨_, hve, _, hcells, _⟩ := S4.out.at (by omega)
                    replace hve := congrArg Addr.block (Option.some.inj hve)
                    simp only at hve
                    subst hve
                    obtain ⟨hcu, _⟩ := hcells u hun
                    have HLS := Lib.hid hls
                    clear hcells hu hj0 hls
                    generalize Hyp.leastOf n cp (x.take k) = a at *
                    have hcb : cp.getD u 0 ≤ 100 := by have := HOK2.out.le u (by omega); omega
                    generalize cp.getD u 0 = b' at *
                    by_cases hba : b' < a
                    · have hbaz : (b' : Int) < (a : Int) := by omega
                      rw [Nat.min_eq_right (by omega)] at HLS
                      go_wp2
                      go_roundg (x.length - (k + 1))
                      case measure => omega
                      case rel => exact ⟨k + 1, by go_num, by omega, Nat.le_refl _, by rw [HLS.out], S4⟩
                    · have hbaz : ¬ (b' : Int) < (a : Int) := by omega
                      rw [Nat.min_eq_left (by omega)] at HLS
                      go_wp2
                      go_roundg (x.length - (k + 1))
                      case measure => omega
                      case rel => exact ⟨k + 1, by go_num, by omega, Nat.le_refl _, by rw [HLS.out], S4⟩
                  · have hklz : ¬ (k : Int) < (x.length : Int) := by omega
                    obtain rfl : k = x.length := by omega
                    have S5 : Hid (RCls wb w1 (.slice (some ⟨gC, 0, none⟩) n cc) (Hyp.setTo cp (x.take 0) (Hyp.leastOf n cp x)) wr) := Lib.hid S4.out
                    have hb0 : Hid (bp = (bp || (x.take 0).any fun v => Hyp.cl cp v != Hyp.leastOf n cp x)) := Lib.hid (by simp)
                    have HPS : Hid (Hyp.pass n (l0_2.take (i + 1)) c = (Hyp.setTo cp x (Hyp.leastOf n cp x), bp || x.any fun v => Hyp.cl cp v != Hyp.leastOf n cp x)) := Lib.hid HNX.out
                    have hLn : Hyp.leastOf n cp x ≤ n := (Hyp.fold_min cp x n).1
                    rw [List.take_length]
                    generalize Hyp.leastOf n cp x = L at *
                    clear HNX S4
                    go_wp2
                    go_loopg [5, 9] x.length (fun gg s5 s9 wx => ∃ q : Nat, s9 = .int .i64 (q : Int) ∧ q ≤ x.length ∧ x.length - q ≤ gg ∧ s5 = .bool (bp || (x.take q).any fun v => Hyp.cl cp v != L) ∧ Hid (RCls wb w1 (.slice (some ⟨gC, 0, none⟩) n cc) (Hyp.setTo cp (x.take q) L) wx))
                    case atStart => exact ⟨0, rfl, by omega, by omega, by rw [← hb0.out], S5⟩
                    case round =>
                      clear S5 hb2z hcw hb0
                      obtain ⟨q, rfl, hq, hgq, rfl, S6⟩ := hrel
                      have hb2z := (S6.out.2.1.cell (p := ⟨w.heap.size, 2, none⟩) (by show w.heap.size < _; omega)).trans hbx2
                      have hcw := (S6.out.2.1.cell (p := ⟨bb, off + i, none⟩) hbb).trans HCELL.out
                      by_cases hql : q < x.length
                      · have hqlz : (q : Int) < (x.length : Int) := by omega
                        have hcj := (S6.out.2.1.cell (p := ⟨bx, ox + q, none⟩) hbbx).trans (HCX.out q hql)
                        obtain ⟨hj0, hj1⟩ := HXIN.out q hql
                        have hcg := Hyp.chg_step (c := cp) (L := L) hql (fun v hv => ⟨(HXI.out v hv).1, by rw [HOK2.out.len]; have := HXI.out v hv; omega⟩) bp
                        have hst := Hyp.setTo_snoc cp (x.take q) (x.getD q 0) L
                        rw [← Hyp.take_one hql] at hst
                        obtain ⟨u, hu⟩ := Int.eq_ofNat_of_zero_le hj0
                        rw [hu] at hcj hj1 hcg hst
                        rw [Int.toNat_natCast] at hcg hst
                        have hlc : (Hyp.setTo cp (x.take q) L).length = n := by rw [Hyp.setTo_len, HOK2.out.len]
                        obtain ⟨_, hve, hgC2, hcells, hput⟩ := S6.out.at (by omega)
                        replace hve := congrArg Addr.block (Option.some.inj hve)
                        simp only at hve
                        subst hve
                        obtain ⟨hcu, hfu⟩ := hcells u (by omega)
                        have S7 := hput u L (by omega) (by omega)
                        rw [← hst] at S7
                        have HS7 := Lib.hid S7
                        have HCG := Lib.hid hcg
                        clear hcells hput hu hj0 hcg hst S7
                        generalize (Hyp.setTo cp (x.take q) L).getD u 0 = z at *
                        generalize (bp || (x.take q).any fun v => Hyp.cl cp v != L) = b3 at *
                        cases b3 with
                        | true =>
                          go_wp2
                          go_roundg (x.length - (q + 1))
                          case measure => omega
                          case rel => exact ⟨q + 1, by go_num, by omega, Nat.le_refl _, by rw [HCG.out]; simp, HS7⟩
                        | false =>
                          by_cases hzL : z = L
                          · subst hzL
                            go_wp2
                            go_roundg (x.length - (q + 1))
                            case measure => omega
                            case rel => exact ⟨q + 1, by go_num, by omega, Nat.le_refl _, by rw [HCG.out]; simp, HS7⟩
                          · have hzLz : ¬ (z : Int) = (L : Int) := by omega
                            have hzLb : ((z : Int) == (L : Int)) = false := beq_eq_false_iff_ne.mpr hzLz
                            go_wp2
                            go_roundg (x.length - (q + 1))
                            case measure => omega
                            case rel => exact ⟨q + 1, by go_num, by omega, Nat.le_refl _, by rw [HCG.out]; exact congrArg Value.bool (by have h1 : ((z : Int) != (L : Int)) = true := bne_iff_ne.mpr hzLz; have h2 : (z != L) = true := bne_iff_ne.mpr hzL; rw [Bool.false_or, h2, h1]), HS7⟩
                      · have hqlz : ¬ (q : Int) < (x.length : Int) := by omega
                        obtain rfl : q = x.length := by omega
                        rw [List.take_length] at S6 ⊢
                        have S8 : Hid (RCls wb w1 (.slice (some ⟨gC, 0, none⟩) n cc) (Hyp.pass n (l0_2.take (i + 1)) c).1 wr) := by rw [HPS.out]; exact S6
                        have hp2 : (bp || x.any fun v => Hyp.cl cp v != L) = (Hyp.pass n (l0_2.take (i + 1)) c).2 := by rw [HPS.out]
                        rw [hp2]
                        obtain ⟨P, hP⟩ : ∃ P, P = Hyp.pass n (l0_2.take (i + 1)) c := ⟨_, rfl⟩
                        rw [← hP] at S8 ⊢
                        have HPQ := Lib.hid hP
                        clear HPS S6 hp2 hP
                        go_wp2
                        go_roundg (l0_2.length - (i + 1))
                        case measure => omega
                        case rel => exact ⟨i + 1, by go_num, by omega, Nat.le_refl _, by rw [← HPQ.out], by rw [← HPQ.out]; exact S8⟩
              · have hltz : ¬ (i : Int) < (l0_2.length : Int) := by omega
                obtain rfl : i = l0_2.length := by omega
                obtain ⟨h1, h2, h3, h4⟩ := HPF.out _ (Nat.le_refl _)
                rw [List.take_length] at h1 h2 h3 h4 S3 ⊢
                have S4 : Hid (RFix wb w1 n rt (.slice Ac n cc) c.sum (Hyp.pass n l0_2 c).2 wr) := Lib.hid
                  ⟨_, h1, S3.out, fun h => h3 h, fun h => by
                    obtain ⟨e1, e2⟩ := h4 h
                    rw [e1]
                    exact Hyp.class_root HRT.out HOK.out (fun e he => ⟨(HED.out e he).1, (HED.out e he).2.1⟩) e2⟩
                clear h1 h2 h3 h4 S3
                generalize (Hyp.pass n l0_2 c).2 = b2 at *
                go_wp2
                go_roundg c.sum
                case measure => omega
                case rel => exact ⟨b2, rfl, S4⟩
          | false =>
            have hroot := hbf rfl
            clear hbt hbf
            obtain ⟨wC, hwC⟩ : ∃ wC : World, wC = wr := ⟨_, rfl⟩
            rw [← hwC] at hrc ⊢
            clear hwC
            have hb0C := (hrc.2.1.cell (p := ⟨w.heap.size, 0, none⟩) (by show w.heap.size < _; omega)).trans hbx0
            have hq : ∀ q, (Value.slice Ac n cc).ownBlock = some q → q < wC.heap.size := fun q h => own_lt hrc.1 q h
            have HQ := Lib.hid hq
            have hszC := hrc.2.2
            have hmk := run_make_row' (P := Tryz.prog) 22 3 (.int .i64 0) 8 Tryz.underlying22 infoInt rfl .i64 .i64 n (by omega) (by omega)
            rw [made_up] at hmk
            have hbD : Below wb.heap.size wb (wC.alloc (.cells (upCells (List.replicate n 0)) 3)) := hrc.2.1.alloc (by omega) _
            have SC : Hid (RGrp wb w1 wC n rt (.slice Ac n cc) c 0 (.slice none 0 0) (wC.alloc (.cells (upCells (List.replicate n 0)) 3))) := Lib.hid
              ⟨[], List.replicate n 0, hrc.move hbD (by simp) (fun q h => Below.heap_alloc _ _ _ (hq q h)),
                ⟨⟨by simp, .inr ⟨wC.heap.size, n, upCells (List.replicate n 0), by simp, Nat.le_refl _, World.alloc_heap_new wC _, by simp, by unfold maxLen; omega, by simp [upCells], by simp [upCells]⟩⟩, hbD, by simp⟩,
                by simp, fun x hx => by omega, rfl, own_nil _ _ _ _, RowsN.nil _ _, by simp⟩
            have hb0D := (hbD.cell (p := ⟨w.heap.size, 0, none⟩) (by show w.heap.size < _; omega)).trans hbx0
            have HROOT := Lib.hid hroot
            have HOK := Lib.hid hok
            clear hrc hroot hok hq hbD
            go_wp2
            go_loopg [10, 12] n (fun gg s10 s12 wx => ∃ i : Nat, s12 = .int .i64 (i : Int) ∧ i ≤ n ∧ n - i ≤ gg ∧ Hid (RGrp wb w1 wC n rt (.slice Ac n cc) c i s10 wx))
            case atStart => exact ⟨0, rfl, by omega, by omega, SC⟩
            case round =>
              clear SC hmk hb0D hb0C
              obtain ⟨i, rfl, hi, hgi, S5⟩ := hrel
              obtain ⟨xs, pl, hrc, hrp, hpl, hpr, hxl, hown, hrows, hszi⟩ := S5.out
              clear S5
              have hb0D := (hrc.2.1.cell (p := ⟨w.heap.size, 0, none⟩) (by show w.heap.size < _; omega)).trans hbx0
              by_cases hlti : i < n
              · have hltiz : (i : Int) < (n : Int) := by omega
                have hcl : c.length = n := HOK.out.len
                have hrti := HROOT.out i hlti
                have hti : rt i ≤ i := HRT.out.le i hlti
                have htt : rt (rt i) = rt i := HRT.out.rr i hlti
                obtain ⟨gC, rfl, hgC, hcells, _⟩ := hrc.at (by omega)
                obtain ⟨hci, _⟩ := hcells i (by omega)
                rw [hrti] at hci
                have hgCl : gC < wC.heap.size := HQ.out gC rfl
                have hxn : xs.length = Hyp.rank rt i := by have := congrArg List.length hxl; rwa [List.length_map, Hyp.compsUp_len] at this
                have hrk := Hyp.rootsUp_len rt i
                have hxb : xs.length ≤ 100 := by rw [hxn]; unfold Hyp.rank; omega
                clear hrk hcells hcl hrti
                obtain ⟨Ao, co, rfl⟩ := own_slice hown
                by_cases htn : rt i = i
                case' pos =>
                  rw [htn] at hci htt hti
                  obtain ⟨w4, hw4, hs4, hown4, ⟨u0, hpu⟩, hpf, hNEW⟩ := RGrp.fresh hrc hrp hpl hpr hxl hown hrows hszi (by omega) HQ.out hlti htn (fun x hx => HRT.out.le x (by omega)) hxn
                  have HO4 := Lib.hid hown4
                  have HNEW := Lib.hid hNEW
                  have HW4 := Lib.hid hw4
                  have HXN := Lib.hid hxn
                  have hclen : c.length = n := HOK.out.len
                  have hcri : c.getD i 0 = i := by rw [HROOT.out i hlti, htn]
                  have HCRI := Lib.hid hcri
                  have HHTN := Lib.hid htn
                  clear hrc hrp hpl hpr hxl hown hrows hw4 hown4 hNEW htt hti hxn hcri hclen htn
                  go_wp2_with ((with_reducible refine gate_dst (N := 117) rfl ?_); refine hold_here ?_)
                  refine hold_out ?_
                  rw [← HW4.out]
                  clear HW4 hpu hpf hci hb0D
                  have hb4s : wC.heap.size + 1 ≤ w4.heap.size := by omega
                  clear hs4
                  go_wp2_with (at_builtin; refine wpList_append_own _ rfl _ _ 23 rfl (wC.heap.size + 1) 22 iR (.slice none 0 0) 1 24 Tryz.underlying23 hiR hzR0 hzR1 hzR2 rfl (by decide) _ _ _ rfl (HO4.out.alloc _) ⟨w4.heap.size, 0, none⟩ 1 1 [.slice none 0 0] rfl rfl (cell_one_new _ _ _) (by simp [Value.oneCell']) (by unfold maxLen; omega) (by omega) (by simp; omega) ?_
                               intro v5 w5 ho5 hg5 _
                               have SD := HNEW.out v5 w5 ho5 hg5
                               obtain ⟨gO, m, cap, u, gl, rfl, hkm, hmc, hcu2, ⟨Au, cu, rfl⟩, hfu, hgll, ⟨hgO1, hgO⟩, hRK, hrc5, ⟨pl5, hrp5, hpl5, hpr5⟩, hsz5, hFIN⟩ := SD.drew.row (by omega) HQ.out
                               replace hcu2 : w5.cell? _ = _ := hcu2
                               replace hfu : w5.frozen? _ = _ := hfu
                               replace hgO : gO < w5.heap.size := hgO
                               replace hsz5 : wC.heap.size + 1 ≤ w5.heap.size := hsz5
                               have hclen : c.length = n := HOK.out.len
                               have hci : w5.cell? ⟨gC, i, none⟩ = some (.int .i64 (i : Int)) := by
                                 obtain ⟨g1, hg1, _, hcells, _⟩ := hrc5.at (by omega)
                                 replace hg1 := congrArg Addr.block (Option.some.inj hg1)
                                 simp only at hg1
                                 subst hg1
                                 have := (hcells i (by omega)).1
                                 rw [HCRI.out] at this
                                 exact this
                               have hpi : w5.cell? ⟨wC.heap.size, i, none⟩ = some (.int .i64 (xs.length : Int)) := by
                                 obtain ⟨g1, hg1, _, hcells, _⟩ := hrp5.at (by omega)
                                 replace hg1 := congrArg Addr.block (Option.some.inj hg1)
                                 simp only at hg1
                                 subst hg1
                                 have := (hcells i (by omega)).1
                                 rw [hpr5 i (by omega) HHTN.out, ← HXN.out] at this
                                 exact this
                               have HRK := Lib.hid hRK
                               have HFIN := Lib.hid hFIN
                               clear hRK hFIN SD ho5 hg5 hrc5 hrp5 hpl5 hpr5 hclen)
                  obtain ⟨rk, hrk⟩ : ∃ rk, rk = xs.length := ⟨_, rfl⟩
                  rw [← hrk] at hkm hcu2 hfu hpi HFIN
                  clear hrk HO4 HNEW
                  obtain ⟨ri, hri⟩ : ∃ ri, ri = i := ⟨_, rfl⟩
                  replace hci : w5.cell? ⟨gC, i, none⟩ = some (.int .i64 (ri : Int)) := by rw [hri]; exact hci
                  replace hpi : w5.cell? ⟨wC.heap.size, ri, none⟩ = some (.int .i64 (rk : Int)) := by rw [hri]; exact hpi
                  have hrn : ri < n := by omega
                  have hrnz : (ri : Int) < (n : Int) := by omega
                  clear hri
                case' neg =>
                  have htl : rt i < i := by omega
                  have hne : ¬ (rt i : Int) = (i : Int) := by omega
                  have hneb : ((rt i : Int) == (i : Int)) = false := beq_eq_false_iff_ne.mpr hne
                  obtain ⟨hrl, hcu⟩ := Hyp.compsUp_old htl htt
                  rw [← hxl, List.length_map] at hrl
                  have hxi : ∀ x, x < i + 1 → rt x = x → x < i := by
                    intro x hx hxx
                    rcases Nat.lt_or_ge x i with h | h
                    · exact h
                    · have e : x = i := by omega
                      rw [e] at hxx
                      exact absurd hxx htn
                  have SD : RGrpD wb w1 wC n rt (.slice (some ⟨gC, 0, none⟩) n cc) c i (Hyp.rank rt (rt i)) (.slice Ao xs.length co) wr := by
                    refine ⟨xs, pl, hrc, hrp, hpl, fun x hx hxx => hpr x (hxi x hx hxx) hxx, ⟨hrl, by rw [hcu, hxl], ?_⟩, hown, hrows, hszi⟩
                    rw [hxl]
                    unfold Hyp.compsUp
                    rw [List.getD_eq_getElem?_getD, List.getElem?_map]
                    cases (Hyp.rootsUp rt i)[Hyp.rank rt (rt i)]? with
                    | none => simp
                    | some t =>
                      simp only [Option.map_some, Option.getD_some]
                      unfold Hyp.group
                      rw [List.length_map]
                      have := List.length_filter_le (fun x => rt x == t) (List.range i)
                      simpa using this
                  obtain ⟨gP, hgP, _, hpcells, _⟩ := hrp.at (by omega)
                  replace hgP := congrArg Addr.block (Option.some.inj hgP)
                  simp only at hgP
                  subst hgP
                  obtain ⟨hpi, _⟩ := hpcells (rt i) (by omega)
                  rw [hpr (rt i) htl htt] at hpi
                  obtain ⟨gO, m, cap, u, gl, hve, hkm, hmc, hcu2, ⟨Au, cu, rfl⟩, hfu, hgll, ⟨hgO1, hgO⟩, hRK, _, _, _, hFIN⟩ := SD.drew.row (by omega) HQ.out
                  replace hcu2 : wr.cell? _ = _ := hcu2
                  replace hfu : wr.frozen? _ = _ := hfu
                  have HRK := Lib.hid hRK
                  have HFIN := Lib.hid hFIN
                  rw [hve] at HFIN ⊢
                  clear hRK hFIN SD hcu hve hrc hrp hown hrows hpr hxl htt hrl hpcells
                  have hrn : rt i < n := by omega
                  have hrnz : (rt i : Int) < (n : Int) := by omega
                  generalize Hyp.rank rt (rt i) = rk at *
                  generalize rt i = ri at *
                  obtain ⟨w5, hw5⟩ : ∃ w5 : World, w5 = wr := ⟨_, rfl⟩
                  rw [← hw5] at hb0D hci hpi hcu2 hfu hgO HRK HFIN ⊢
                  have hb5s : wC.heap.size + 1 ≤ w5.heap.size := by rw [hw5]; exact hszi
                  clear hw5
                all_goals
                  have hal := below_alloc (Below.refl w5.heap.size w5) (.cells #[.int .i64 (i : Int)] 3)
                  have hcu2a := (hal.cell (p := ⟨gO, rk, none⟩) (by show gO < w5.heap.size; exact hgO)).trans hcu2
                  have hcia := (hal.cell (p := ⟨gC, i, none⟩) (by show gC < w5.heap.size; omega)).trans hci
                  have hpia := (hal.cell (p := ⟨wC.heap.size, ri, none⟩) (by show wC.heap.size < w5.heap.size; omega)).trans hpi
                  clear hal
                  go_wp2
                  refine start_ (n := 23) (S := fun W => W.cell? ⟨gC, i, none⟩ = some (.int .i64 (ri : Int)) ∧ W.cell? ⟨wC.heap.size, ri, none⟩ = some (.int .i64 (rk : Int)) ∧ W.cell? ⟨gO, rk, none⟩ = some (.slice Au gl.length cu)) (ds := [22]) (upto 0 23) (by kernel_rfl) rfl rfl ⟨hci, hpi, hcu2⟩ (fun hHeld => ?_)
                  refine pure_ (i := 0) (N := some 119) (v := ?_) (a' := ?_) (upto 1 22) rfl rfl (by kernel_rfl) (fun _ _ _ h => h) (Or.inl ⟨by rfl, ?_⟩) ?_ ?_
                  rotate_left
                  · intro w'
                    go_simp
                    with_reducible rfl
                  rotate_left
                  · simp only [Act.put, List.setIfInBounds_toArray, List.set_cons_zero, List.set_cons_succ]
                    rfl
                  refine pure_ (i := 1) (N := some 120) (v := ?_) (a' := ?_) (upto 2 21) rfl rfl (by kernel_rfl) (fun _ _ _ h => h) (Or.inl ⟨by rfl, ?_⟩) ?_ ?_
                  rotate_left
                  · intro w'
                    go_simp
                    with_reducible rfl
                  rotate_left
                  · simp only [Act.put, List.setIfInBounds_toArray, List.set_cons_zero, List.set_cons_succ]
                    rfl
                  refine pure_ (i := 2) (N := some 121) (v := ?_) (a' := ?_) (upto 3 20) rfl rfl (by kernel_rfl) (fun _ _ _ h => h) (Or.inl ⟨by rfl, ?_⟩) ?_ ?_
                  rotate_left
                  · intro w'
                    go_simp
                    with_reducible rfl
                  rotate_left
                  · simp only [Act.put, List.setIfInBounds_toArray, List.set_cons_zero, List.set_cons_succ]
                    rfl
                  refine pure_ (i := 3) (N := some 122) (v := ?_) (a' := ?_) (upto 4 19) rfl rfl (by kernel_rfl) (fun _ _ _ h => h) (Or.inl ⟨by rfl, ?_⟩) ?_ ?_
                  rotate_left
                  · intro w'
                    go_simp
                    with_reducible rfl
                  rotate_left
                  · simp only [Act.put, List.setIfInBounds_toArray, List.set_cons_zero, List.set_cons_succ]
                    rfl
                  refine pure_ (i := 4) (N := some 123) (v := ?_) (a' := ?_) (upto 5 18) rfl rfl (by kernel_rfl) (fun _ _ _ h => h) (Or.inl ⟨by rfl, ?_⟩) ?_ ?_
                  rotate_left
                  · intro w'
                    go_simp
                    with_reducible rfl
                  rotate_left
                  · simp only [Act.put, List.setIfInBounds_toArray, List.set_cons_zero, List.set_cons_succ]
                    rfl
                  refine take_ (i := 5) (N := some 124) (v := ?_) (a' := ?_) (upto 6 17) rfl rfl (by kernel_rfl) (fun _ _ _ h => h) (Or.inl ⟨by rfl, ?_⟩) hHeld ?_ ?_
                  rotate_left
                  · rintro w' ⟨s0, s1, s2⟩
                    go_simp
                    with_reducible rfl
                  rotate_left
                  · simp only [Act.put, List.setIfInBounds_toArray, List.set_cons_zero, List.set_cons_succ]
                    rfl
                  refine pure_ (i := 6) (N := some 125) (v := ?_) (a' := ?_) (upto 7 16) rfl rfl (by kernel_rfl) (fun _ _ _ h => h) (Or.inl ⟨by rfl, ?_⟩) ?_ ?_
                  rotate_left
                  · intro w'
                    go_simp
                    with_reducible rfl
                  rotate_left
                  · simp only [Act.put, List.setIfInBounds_toArray, List.set_cons_zero, List.set_cons_succ]
                    rfl
                  refine take_ (i := 7) (N := some 126) (v := ?_) (a' := ?_) (upto 8 15) rfl rfl (by kernel_rfl) (fun _ _ _ h => h) (Or.inl ⟨by rfl, ?_⟩) hHeld ?_ ?_
                  rotate_left
                  · rintro w' ⟨s0, s1, s2⟩
                    go_simp
                    with_reducible rfl
                  rotate_left
                  · simp only [Act.put, List.setIfInBounds_toArray, List.set_cons_zero, List.set_cons_succ]
                    rfl
                  refine pure_ (i := 8) (N := some 127) (v := ?_) (a' := ?_) (upto 9 14) rfl rfl (by kernel_rfl) (fun _ _ _ h => h) (Or.inl ⟨by rfl, ?_⟩) ?_ ?_
                  rotate_left
                  · intro w'
                    go_simp
                    with_reducible rfl
                  rotate_left
                  · simp only [Act.put, List.setIfInBounds_toArray, List.set_cons_zero, List.set_cons_succ]
                    rfl
                  refine pure_ (i := 9) (N := some 128) (v := ?_) (a' := ?_) (upto 10 13) rfl rfl (by kernel_rfl) (fun _ _ _ h => h) (Or.inl ⟨by rfl, ?_⟩) ?_ ?_
                  rotate_left
                  · intro w'
                    go_simp
                    with_reducible rfl
                  rotate_left
                  · simp only [Act.put, List.setIfInBounds_toArray, List.set_cons_zero, List.set_cons_succ]
                    rfl
                  refine pure_ (i := 10) (N := some 129) (v := ?_) (a' := ?_) (upto 11 12) rfl rfl (by kernel_rfl) (fun _ _ _ h => h) (Or.inl ⟨by rfl, ?_⟩) ?_ ?_
                  rotate_left
                  · intro w'
                    go_simp
                    with_reducible rfl
                  rotate_left
                  · simp only [Act.put, List.setIfInBounds_toArray, List.set_cons_zero, List.set_cons_succ]
                    rfl
                  refine pure_ (i := 11) (N := some 130) (v := ?_) (a' := ?_) (upto 12 11) rfl rfl (by kernel_rfl) (fun _ _ _ h => h) (Or.inl ⟨by rfl, ?_⟩) ?_ ?_
                  rotate_left
                  · intro w'
                    go_simp
                    with_reducible rfl
                  rotate_left
                  · simp only [Act.put, List.setIfInBounds_toArray, List.set_cons_zero, List.set_cons_succ]
                    rfl
                  refine pure_ (i := 12) (N := some 131) (v := ?_) (a' := ?_) (upto 13 10) rfl rfl (by kernel_rfl) (fun _ _ _ h => h) (Or.inl ⟨by rfl, ?_⟩) ?_ ?_
                  rotate_left
                  · intro w'
                    go_simp
                    with_reducible rfl
                  rotate_left
                  · simp only [Act.put, List.setIfInBounds_toArray, List.set_cons_zero, List.set_cons_succ]
                    rfl
                  refine take_ (i := 13) (N := some 132) (v := ?_) (a' := ?_) (upto 14 9) rfl rfl (by kernel_rfl) (fun _ _ _ h => h) (Or.inl ⟨by rfl, ?_⟩) hHeld ?_ ?_
                  rotate_left
                  · rintro w' ⟨s0, s1, s2⟩
                    go_simp
                    with_reducible rfl
                  rotate_left
                  · simp only [Act.put, List.setIfInBounds_toArray, List.set_cons_zero, List.set_cons_succ]
                    rfl
                  refine pure_ (i := 14) (N := some 133) (v := ?_) (a' := ?_) (upto 15 8) rfl rfl (by kernel_rfl) (fun _ _ _ h => h) (Or.inl ⟨by rfl, ?_⟩) ?_ ?_
                  rotate_left
                  · intro w'
                    go_simp
                    with_reducible rfl
                  rotate_left
                  · simp only [Act.put, List.setIfInBounds_toArray, List.set_cons_zero, List.set_cons_succ]
                    rfl
                  refine take_ (i := 15) (N := some 134) (v := ?_) (a' := ?_) (upto 16 7) rfl rfl (by kernel_rfl) (fun _ _ _ h => h) (Or.inl ⟨by rfl, ?_⟩) hHeld ?_ ?_
                  rotate_left
                  · rintro w' ⟨s0, s1, s2⟩
                    go_simp
                    with_reducible rfl
                  rotate_left
                  · simp only [Act.put, List.setIfInBounds_toArray, List.set_cons_zero, List.set_cons_succ]
                    rfl
                  refine pure_ (i := 16) (N := some 135) (v := ?_) (a' := ?_) (upto 17 6) rfl rfl (by kernel_rfl) (fun _ _ _ h => h) (Or.inl ⟨by rfl, ?_⟩) ?_ ?_
                  rotate_left
                  · intro w'
                    go_simp
                    with_reducible rfl
                  rotate_left
                  · simp only [Act.put, List.setIfInBounds_toArray, List.set_cons_zero, List.set_cons_succ]
                    rfl
                  refine take_ (i := 17) (N := some 136) (v := ?_) (a' := ?_) (upto 18 5) rfl rfl (by kernel_rfl) (fun _ _ _ h => h) (Or.inl ⟨by rfl, ?_⟩) hHeld ?_ ?_
                  rotate_left
                  · rintro w' ⟨s0, s1, s2⟩
                    go_simp
                    with_reducible rfl
                  rotate_left
                  · simp only [Act.put, List.setIfInBounds_toArray, List.set_cons_zero, List.set_cons_succ]
                    rfl
                  refine pure_ (i := 18) (N := some 137) (v := ?_) (a' := ?_) (upto 19 4) rfl rfl (by kernel_rfl) (fun _ _ _ h => h) (Or.inl ⟨by rfl, ?_⟩) ?_ ?_
                  rotate_left
                  · intro w'
                    go_simp
                    with_reducible rfl
                  rotate_left
                  · simp only [Act.put, List.setIfInBounds_toArray, List.set_cons_zero, List.set_cons_succ]
                    rfl
                  refine one_ (i := 19) (N := some 138) (upto 20 3) rfl rfl (by kernel_rfl) (by decide) (fun K hK => ?_)
                  refine value_ (w1 := ?_) (v := ?_) (by rfl) rfl ?_ ?_
                  rotate_left 2
                  · go_simp
                    constructor
                    · rfl
                    rfl
                  refine hK.out _ _ ⟨hcia, hpia, hcu2a⟩ (fun hHeld => ?_)
                  clear hK K
                  refine norm_ (a' := ?_) ?_ ?_
                  rotate_left
                  · show Act.put _ (some 138) _ = _
                    simp only [Act.put, List.setIfInBounds_toArray, List.set_cons_zero, List.set_cons_succ]
                    rfl
                  refine one_ (i := 20) (N := some 139) (upto 21 2) rfl rfl (by kernel_rfl) (by decide) (fun K hK => ?_)
                  refine Kd.R_append_step (Kd.int .i64) (W := w5.drew) (w0 := w5.drew) (wC.heap.size + 1) (by rfl) (.tmp 136) (.tmp 138) 22 3 (.int .i64 0) 8 rfl Tryz.underlying22 infoInt rfl (by decide) (by decide) (.slice Au gl.length cu) gl (i : Int) [.int .i64 (i : Int)] (fun _ => True) (fun _ => False) rfl rfl rfl (fun _ h => h.elim) (fun _ _ => trivial) HRK.out (Below.refl _ _) (by show wC.heap.size + 1 ≤ w5.heap.size; omega) (by omega) ?_
                  intro v2 w2 hr2 _ hg2 hat2
                  have hpi2 : w2.cell? ⟨wC.heap.size, ri, none⟩ = _ := (cell_same (hg2.block wC.heap.size (by show wC.heap.size < w5.heap.size; omega) (fun e => by have := own_base (R_int HRK.out) _ e.symm; omega))).trans hpi
                  have hci2 : w2.cell? ⟨gC, i, none⟩ = _ := (cell_same (hg2.block gC (by show gC < w5.heap.size; omega) (fun e => by have := own_base (R_int HRK.out) _ e.symm; omega))).trans hci
                  obtain ⟨hc2, hf2, S6⟩ := HFIN.out v2 w2 hr2 hg2 hat2
                  obtain ⟨A2, c2, rfl⟩ := Kd.R_slice hr2
                  have HS6 := Lib.hid S6
                  clear hr2 hg2 hat2 S6
                  refine hK.out _ _ ⟨hci2, hpi2, hc2⟩ (fun hHeld => ?_)
                  clear hK K
                  refine norm_ (a' := ?_) ?_ ?_
                  rotate_left
                  · show Act.put _ (some 139) _ = _
                    simp only [Act.put, List.setIfInBounds_toArray, List.set_cons_zero, List.set_cons_succ]
                    rfl
                  refine pure_ (i := 21) (N := some 140) (v := ?_) (a' := ?_) (upto 22 1) rfl rfl (by kernel_rfl) (fun _ _ _ h => h) (Or.inl ⟨by rfl, ?_⟩) ?_ ?_
                  rotate_left
                  · intro w'
                    go_simp
                    with_reducible rfl
                  rotate_left
                  · simp only [Act.put, List.setIfInBounds_toArray, List.set_cons_zero, List.set_cons_succ]
                    rfl
                  refine last_ (i := 22) (N := none) (upto 23 0) rfl rfl (by kernel_rfl) (by decide) (fun K hK => ?_)
                  refine skip_ (w1 := ?_) (by rfl) rfl ?_ ?_
                  rotate_left
                  · go_simp
                    rfl
                  refine hK.out _ _ ?_
                  clear hK K
                  refine done_ (by kernel_rfl) ?_
                  rw [List.length_append, List.length_singleton] at HS6
                  go_wp2
                  go_roundg (n - (i + 1))
                  case measure => omega
                  case rel => exact ⟨i + 1, by go_num, by omega, Nat.le_refl _, HS6⟩
              · have hltiz : ¬ (i : Int) < (n : Int) := by omega
                obtain rfl : n = i := by omega
                have HO := Lib.hid hown
                have HRW := Lib.hid hrows
                have HXL := Lib.hid hxl
                have HBE := Lib.hid hrc.2.1
                clear hown hrows hpl hrc hrp hxl hpr
                obtain ⟨Ao, co, rfl⟩ := own_slice HO.out
                go_wp2
                go_ret
                refine ⟨_, rfl, ?_, HBW.out.trans (HBE.out.mono (by omega))⟩
                rw [HR.out]
                show Kd.S _ _ _ _ _ _ (Hyp.compsUp rt n)
                rw [← HXL.out]
                obtain ⟨f, hf⟩ := HRW.out.toS HO.out
                exact ⟨f, Kd.R_lower hf (by omega)⟩
  · have hvf : Hyp.validB a0_0 l0_1 l0_2 = false := by simpa using hvd
    rw [hvf]
    rw [hvf, if_neg (by simp)] at HR
    have HB1 := Lib.hid hb1
    clear hb1 hvd hvf
    go_wp2
    go_ret
    refine ⟨_, rfl, ?_, HBW.out.trans (HB1.out.mono (by omega))⟩
    rw [HR.out]
    exact Kd.S_nil _ _ _ _ _
end Go.Proofs.YtgjbnmobhafajaaGreatDoor
end
