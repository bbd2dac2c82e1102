/- The texts of this claim, ME. -/
import Derived.Test.YtgjbnmobhafajaaGreatDoorQzMD
import Derived.Test.YtgjbnmobhafajaaGreatDoorQzHs
set_option linter.unusedVariables false
set_option linter.unusedSimpArgs false
section
section
namespace Go.Proofs.YtgjbnmobhafajaaGreatDoor
open Go Go.RowKit Go.Sort Go.Shelf Go.Proofs.YtgjbnmobhafajaaGreatDoorW.PrintWords Go.Proofs.YtgjbnmobhafajaaGreatDoorW.PrintLast
theorem Hyp.setOf_eq {l s : List Int} (hs : Hyp.Inc s) (h : ∀ x, x ∈ l ↔ x ∈ s) : Hyp.setOf l = s := Hyp.inc_ext (Hyp.setOf_inc l) hs fun x => (Hyp.mem_setOf l x).trans (h x)
theorem Hyp.minimal_eq {edges r : List (List Int)} (h : Hyp.IsMin edges r) : Hyp.minimal edges = r := (Hyp.minimal_is edges).unique h
theorem ex_set21 : Hyp.setOf [2, 1] = [1, 2] := Hyp.setOf_eq (by decide) (fun x => by simp; omega)
theorem ex_set20 : Hyp.setOf [2, 0] = [0, 2] := Hyp.setOf_eq (by decide) (fun x => by simp; omega)
theorem ex_set (l : List Int) (h : Hyp.Inc l) : Hyp.setOf l = l := Hyp.setOf_of_inc h
theorem ex_min1 : Hyp.minimal [[2, 1], [1, 2, 3], [3], [1, 2], []] = [[1, 2], [3]] := by
  refine Hyp.minimal_eq ⟨by decide, fun e => ?_⟩
  have hs : Hyp.setsOf [[2, 1], [1, 2, 3], [3], [1, 2], []] = [[1, 2], [1, 2, 3], [3], [1, 2]] := by
    show [Hyp.setOf [2, 1], Hyp.setOf [1, 2, 3], Hyp.setOf [3], Hyp.setOf [1, 2]] = _
    rw [ex_set21, ex_set [1, 2, 3] (by decide), ex_set [3] (by decide), ex_set [1, 2] (by decide)]
  rw [hs]
  constructor
  · intro h
    simp only [List.mem_cons, List.not_mem_nil, or_false] at h
    rcases h with rfl | rfl <;> decide
  · rintro ⟨h, hm⟩
    simp only [List.mem_cons, List.not_mem_nil, or_false] at h
    rcases h with rfl | rfl | rfl | rfl
    · decide
    · exact absurd (hm [3] (by decide) (by decide)) (by decide)
    · decide
    · decide
theorem ex_min2 : Hyp.minimal [[2, 0], [2, 3]] = [[0, 2], [2, 3]] := by
  refine Hyp.minimal_eq ⟨by decide, fun e => ?_⟩
  have hs : Hyp.setsOf [[2, 0], [2, 3]] = [[0, 2], [2, 3]] := by
    show [Hyp.setOf [2, 0], Hyp.setOf [2, 3]] = _
    rw [ex_set20, ex_set [2, 3] (by decide)]
  rw [hs]
  constructor
  · intro h
    simp only [List.mem_cons, List.not_mem_nil, or_false] at h
    rcases h with rfl | rfl <;> decide
  · rintro ⟨h, hm⟩; exact h
theorem ex_min3 : Hyp.minimal [[0, 2], [2, 3]] = [[0, 2], [2, 3]] := by
  refine Hyp.minimal_eq ⟨by decide, fun e => ?_⟩
  have hs : Hyp.setsOf [[0, 2], [2, 3]] = [[0, 2], [2, 3]] := by
    show [Hyp.setOf [0, 2], Hyp.setOf [2, 3]] = _
    rw [ex_set [0, 2] (by decide), ex_set [2, 3] (by decide)]
  rw [hs]
  constructor
  · intro h
    simp only [List.mem_cons, List.not_mem_nil, or_false] at h
    rcases h with rfl | rfl <;> decide
  · rintro ⟨h, hm⟩; exact h
theorem ex_min4 : Hyp.minimal [[0, 1], [2]] = [[0, 1], [2]] := by
  refine Hyp.minimal_eq ⟨by decide, fun e => ?_⟩
  have hs : Hyp.setsOf [[0, 1], [2]] = [[0, 1], [2]] := by
    show [Hyp.setOf [0, 1], Hyp.setOf [2]] = _
    rw [ex_set [0, 1] (by decide), ex_set [2] (by decide)]
  rw [hs]
  constructor
  · intro h
    simp only [List.mem_cons, List.not_mem_nil, or_false] at h
    rcases h with rfl | rfl <;> decide
  · rintro ⟨h, hm⟩; exact h
theorem ex_Minimal : hyper_Minimal.f [[2, 1], [1, 2, 3], [3], [1, 2], []] = some [[1, 2], [3]] := by
  unfold hyper_Minimal.f
  rw [if_pos (by decide), ex_min1]
theorem ex_Make1 : hyper_Make.f 5 [0, 0, 0, 0, 0] [[2, 0], [2, 3]] = some (5, [0, 0, 0, 0, 0], [[0, 2], [2, 3]], 0) := by
  have hb : [[2, 0], [2, 3]].any (Hyp.badEdge 5) = false := by
    simp only [List.any_cons, List.any_nil, Hyp.badEdge, ex_set20, ex_set [2, 3] (by decide)]
    decide
  unfold hyper_Make.f Hyp.makeF
  rw [if_pos (by decide), if_pos ⟨by decide, hb⟩, ex_min2]
  rfl
theorem ex_Make2 : hyper_Make.f 3 [1, 1, 1] [[0, 1], [2]] = some (3, [1, 1, 1], [[0, 1], [2]], 0) := by
  have hb : [[0, 1], [2]].any (Hyp.badEdge 3) = false := by
    simp only [List.any_cons, List.any_nil, Hyp.badEdge, ex_set [0, 1] (by decide), ex_set [2] (by decide)]
    decide
  unfold hyper_Make.f Hyp.makeF
  rw [if_pos (by decide), if_pos ⟨by decide, hb⟩, ex_min4]
  rfl
theorem ex_Make3 : hyper_Make.f 1 [1] [[1]] = some (0, [], [], 1) := by
  have hb : [[1]].any (Hyp.badEdge 1) = true := by
    simp only [List.any_cons, List.any_nil, Hyp.badEdge, ex_set [1] (by decide)]
    decide
  unfold hyper_Make.f Hyp.makeF
  rw [if_pos (by decide), if_neg (fun h => by rw [hb] at h; exact absurd h.2 (by decide))]
theorem ex_valid1 : Hyp.validB 5 [0, 0, 0, 0, 0] [[0, 2], [2, 3]] = true := by
  unfold Hyp.validB
  rw [ex_min3]
  decide
theorem ex_valid2 : Hyp.validB 3 [1, 1, 1] [[0, 1], [2]] = true := by
  unfold Hyp.validB
  rw [ex_min4]
  decide
theorem ex_Valid : hyper_Valid.f 5 [0, 0, 0, 0, 0] [[0, 2], [2, 3]] = some true := by
  unfold hyper_Valid.f
  rw [if_pos (by decide), ex_valid1]
theorem ex_Part : hyper_Part.f 5 [0, 0, 0, 0, 0] [[0, 2], [2, 3]] [2, 3, 4] = some (3, [0, 0, 0], [[0, 1]], 0) := by
  unfold hyper_Part.f Hyp.partF
  rw [if_pos (by decide), if_pos ⟨ex_valid1, by decide⟩]
  decide
theorem ex_Fixed : hyper_Fixed.f 3 [1, 1, 1] [[0, 1], [2]] = some ([], [2]) := by
  unfold hyper_Fixed.f Hyp.fixedF
  rw [if_pos (by decide), if_pos ex_valid2]
  decide
theorem ex_Components : hyper_Components.f 5 [0, 0, 0, 0, 0] [[0, 2], [2, 3]] = some [[0, 2, 3], [1], [4]] := by
  unfold hyper_Components.f
  have hr : Hyp.IsRoot 5 [[0, 2], [2, 3]] (fun x => if x = 2 ∨ x = 3 then 0 else x) := by
    refine ⟨fun x hx => ?_, fun x hx => ?_, by decide, fun c hc x hx => ?_⟩
    · split <;> omega
    · by_cases h : x = 2 ∨ x = 3
      · rw [if_pos h]; rfl
      · rw [if_neg h, if_neg h]
    split
    · rename_i h
      have h1 := hc [0, 2] (by decide) 2 (by decide)
      have h2 := hc [2, 3] (by decide) 3 (by decide)
      have e1 : c 2 = c 0 := h1
      have e2 : c 3 = c 2 := h2
      rcases h with rfl | rfl
      · exact e1.symm
      · rw [e2, e1]
    · rfl
  rw [if_pos (by decide), if_pos ex_valid1, show ((5 : Int)).toNat = 5 from rfl, Hyp.components_eq hr]
  decide
theorem ex_Sets1 : Hs.cleanseref27_Sets.f 9 [[1, 2], [3]] [[1, 2], [3]] = some true := by kernel_rfl
theorem ex_Sets2 : Hs.cleanseref27_Sets.f 9 [[0, 1]] [[0, 1]] = some true := by kernel_rfl
theorem ex_Sets3 : Hs.cleanseref27_Sets.f 9 [[0, 2, 3], [1], [4]] [[0, 2, 3], [1], [4]] = some true := by kernel_rfl
theorem ex_Ints : Hs.cleanseref06_Ints.f 9 [2] [2] = some true := by kernel_rfl
def litRow (xs : List Int) : Obj := .cells (xs.map (Value.int .i64)).toArray 3 (0, 0)
def litRows (rs : List (Nat × List Int)) : Obj := .cells (rs.map fun r => Value.slice (some ⟨r.1, 0, none⟩) r.2.length r.2.length).toArray 22 (0, 0)
theorem lit_C {W : World} {b : Nat} (xs : List Int) (h : W.heap[b]? = some (litRow xs)) (hm : xs.length ≤ 9223372036854775807) : Kd.C (Kd.int .i64) W (some ⟨b, 0, none⟩) xs.length xs := by
  refine ⟨rfl, hm, fun hn => ⟨_, rfl, fun j p hj => ⟨[.int .i64 p], rfl, rfl, fun q u hq => ?_⟩⟩⟩
  have hlt : j < xs.length := (List.getElem?_eq_some_iff.1 hj).1
  have hp : xs[j] = p := (List.getElem?_eq_some_iff.1 hj).2
  cases q with
  | succ q => simp at hq
  | zero =>
    simp at hq
    subst hq
    have e1 : (⟨b, 0, none⟩ : Addr).add (j * (Kd.int .i64).sz + 0) = ⟨b, j, none⟩ := by
      show (⟨b, 0, none⟩ : Addr).add (j * 1 + 0) = _
      unfold Addr.add
      by_cases hj0 : j = 0
      · subst hj0; simp
      · rw [if_neg (by omega)]; simp
    rw [e1]
    unfold World.cell?
    rw [h]
    simp [litRow, hlt, hp]
theorem lit_CC {W : World} {b : Nat} (rs : List (Nat × List Int)) (h : W.heap[b]? = some (litRows rs)) (hr : ∀ r ∈ rs, W.heap[r.1]? = some (litRow r.2) ∧ r.2.length ≤ 9223372036854775807) (hm : rs.length ≤ 9223372036854775807) :
    Kd.C (Kd.slice 3 (Kd.int .i64)) W (some ⟨b, 0, none⟩) (rs.map Prod.snd).length (rs.map Prod.snd) := by
  refine ⟨rfl, by simpa using hm, fun hn => ⟨_, rfl, fun j p hj => ?_⟩⟩
  rw [List.getElem?_map] at hj
  cases hrj : rs[j]? with
  | none => rw [hrj] at hj; simp at hj
  | some r =>
    rw [hrj] at hj
    simp at hj
    subst hj
    have hlt : j < rs.length := (List.getElem?_eq_some_iff.1 hrj).1
    have hre : rs[j] = r := (List.getElem?_eq_some_iff.1 hrj).2
    obtain ⟨h1, h2⟩ := hr r (List.mem_of_getElem? hrj)
    refine ⟨[.slice (some ⟨r.1, 0, none⟩) r.2.length r.2.length], rfl, ⟨some ⟨r.1, 0, none⟩, r.2.length, rfl, Nat.le_refl _, lit_C r.2 h1 h2⟩, fun q u hq => ?_⟩
    cases q with
    | succ q => simp at hq
    | zero =>
      simp at hq
      subst hq
      have e1 : (⟨b, 0, none⟩ : Addr).add (j * (Kd.slice 3 (Kd.int .i64)).sz + 0) = ⟨b, j, none⟩ := by
        show (⟨b, 0, none⟩ : Addr).add (j * 1 + 0) = _
        unfold Addr.add
        by_cases hj0 : j = 0
        · subst hj0; simp
        · rw [if_neg (by omega)]; simp
      rw [e1]
      unfold World.cell?
      rw [h]
      simp [litRows, hlt, hre]
end Go.Proofs.YtgjbnmobhafajaaGreatDoor
end
section
namespace Go.Proofs.YtgjbnmobhafajaaGreatDoor
open Go Go.RowKit Go.Sort Go.Shelf Go.Proofs.YtgjbnmobhafajaaGreatDoorW.PrintWords Go.Proofs.YtgjbnmobhafajaaGreatDoorW.PrintLast
theorem heap_at (W : World) (o : Obj) (k : Nat) : (W.alloc o).heap[k]? = if k = W.heap.size then some o else W.heap[k]? := by
  show (W.heap.push o)[k]? = _
  rw [Array.getElem?_push]
theorem heap_new (W : World) (o : Obj) (k : Nat) (h : k = W.heap.size) : (W.alloc o).heap[k]? = some o := by rw [heap_at, if_pos h]
theorem heap_old (W : World) (o o' : Obj) (k : Nat) (h : k < W.heap.size) (h' : W.heap[k]? = some o') : (W.alloc o).heap[k]? = some o' := by rw [heap_at, if_neg (by omega)]; exact h'
def allLit (W : World) : List (Nat × List Int) → Prop
  | [] => True
  | r :: rs => (W.heap[r.1]? = some (litRow r.2) ∧ r.2.length ≤ 9223372036854775807) ∧ allLit W rs
theorem allLit_out {W : World} : ∀ {rs : List (Nat × List Int)}, allLit W rs → ∀ r ∈ rs, W.heap[r.1]? = some (litRow r.2) ∧ r.2.length ≤ 9223372036854775807
  | [], _, r, hr => by simp at hr
  | q :: rs, h, r, hr => by
    rcases List.mem_cons.1 hr with e | e
    · rw [e]; exact h.1
    · exact allLit_out h.2 r e
theorem graph_stored {W w3 : World} {G : Nat} (hG : W.heap.size ≤ G) (hb : Below W.heap.size W w3) (hbox : w3.heap[G]? = some (.cells #[.int .i64 0, .slice none 0 0, .slice none 0 0] 25 (0, 0))) (n : Int) (vc ve : Value) :
    GraphAt (((w3.setCell ⟨G, 0, none⟩ (.int .i64 n)).setCell ⟨G, 1, none⟩ vc).setCell ⟨G, 2, none⟩ ve) G n vc ve ∧ Below W.heap.size W (((w3.setCell ⟨G, 0, none⟩ (.int .i64 n)).setCell ⟨G, 1, none⟩ vc).setCell ⟨G, 2, none⟩ ve) :=
  ⟨blk_put (cs := #[.int .i64 n, vc, .slice none 0 0]) (blk_put (cs := #[.int .i64 n, .slice none 0 0, .slice none 0 0]) (blk_put (cs := #[.int .i64 0, .slice none 0 0, .slice none 0 0]) hbox 0 _ rfl) 1 _ rfl) 2 _ rfl,
   ((hb.setCell (by exact hG) _).setCell (by exact hG) _).setCell (by exact hG) _⟩
theorem GraphAt.below {W W' : World} {G : Nat} {n : Int} {vc ve : Value} (h : GraphAt W G n vc ve) (hb : Below W.heap.size W W') : GraphAt W' G n vc ve := (hb.block G h.lt).trans h
theorem below2 {w W W' : World} (h : Below w.heap.size w W) (h' : Below W.heap.size W W') : Below w.heap.size w W' := h.trans (h'.mono h.size)
set_option maxRecDepth 100000 in
set_option maxHeartbeats 8000000 in
theorem head.walk (w : World) : Calls Tryz.prog 4 #[] w fun e w' => e = .returned (.bool true) ∧ Below w.heap.size w w' := by
  go_enter Tryz.func4, Tryz.ntmps4
  go_wp2_with fail
  have hC1 := lit_CC (W := (((((w.alloc (litRow [2, 1])).alloc (litRow [1, 2, 3])).alloc (litRow [3])).alloc (litRow [1, 2])).alloc (litRow [])).alloc (litRows [(w.heap.size, [2, 1]), (w.heap.size + 1, [1, 2, 3]), (w.heap.size + 1 + 1, [3]), (w.heap.size + 1 + 1 + 1, [1, 2]), (w.heap.size + 1 + 1 + 1 + 1, [])])) (b := w.heap.size + 1 + 1 + 1 + 1 + 1)
    [(w.heap.size, [2, 1]), (w.heap.size + 1, [1, 2, 3]), (w.heap.size + 1 + 1, [3]), (w.heap.size + 1 + 1 + 1, [1, 2]), (w.heap.size + 1 + 1 + 1 + 1, [])] (by (repeat (first | exact heap_new _ _ _ (by first | rfl | (simp only [World.size_alloc] <;> omega)) | refine heap_old _ _ _ _ (by simp only [World.size_alloc] <;> omega) ?_))) (allLit_out ⟨⟨by (repeat (first | exact heap_new _ _ _ (by first | rfl | (simp only [World.size_alloc] <;> omega)) | refine heap_old _ _ _ _ (by simp only [World.size_alloc] <;> omega) ?_)), by simp⟩, ⟨by (repeat (first | exact heap_new _ _ _ (by first | rfl | (simp only [World.size_alloc] <;> omega)) | refine heap_old _ _ _ _ (by simp only [World.size_alloc] <;> omega) ?_)), by simp⟩, ⟨by (repeat (first | exact heap_new _ _ _ (by first | rfl | (simp only [World.size_alloc] <;> omega)) | refine heap_old _ _ _ _ (by simp only [World.size_alloc] <;> omega) ?_)), by simp⟩, ⟨by (repeat (first | exact heap_new _ _ _ (by first | rfl | (simp only [World.size_alloc] <;> omega)) | refine heap_old _ _ _ _ (by simp only [World.size_alloc] <;> omega) ?_)), by simp⟩, ⟨by (repeat (first | exact heap_new _ _ _ (by first | rfl | (simp only [World.size_alloc] <;> omega)) | refine heap_old _ _ _ _ (by simp only [World.size_alloc] <;> omega) ?_)), by simp⟩, trivial⟩) (by simp)
  refine (hyper_Minimal.calls _ 5 [[2, 1], [1, 2, 3], [3], [1, 2], []] [[1, 2], [3]] _ hC1 (by decide) ex_Minimal).mono ?_
  rintro e w1 ⟨v1, rfl, hS1, hb1⟩
  obtain ⟨A1, c1, rfl, hlc1, hL1⟩ := Kd.S_reads hS1
  have HB1 : Hid (Below w.heap.size w w1) := Lib.hid (below2 (by repeat first | exact Below.refl _ _ | apply below_alloc) hb1)
  have HL1 := Lib.hid hL1
  clear hS1 hb1 hL1 hC1
  have hmk : ∀ W : World, (Instr.makeSlice 22 (.int .i64 5) (.int .i64 5)).run Tryz.prog W = .ok (.slice (some ⟨W.heap.size, 0, none⟩) 5 5) (W.alloc (litRow [0, 0, 0, 0, 0])) := fun W => by
    have h := run_make_row' (P := Tryz.prog) 22 3 (.int .i64 0) 8 Tryz.underlying22 infoInt rfl .i64 .i64 5 (by decide) (by decide) W
    rw [made_up] at h
    exact h
  go_wp2_with fail
  have hC2 := lit_CC (W := (((w1.alloc (litRow [0, 0, 0, 0, 0])).alloc (litRow [2, 0])).alloc (litRow [2, 3])).alloc (litRows [(w1.heap.size + 1, [2, 0]), (w1.heap.size + 1 + 1, [2, 3])])) (b := w1.heap.size + 1 + 1 + 1)
    [(w1.heap.size + 1, [2, 0]), (w1.heap.size + 1 + 1, [2, 3])] (by (repeat (first | exact heap_new _ _ _ (by first | rfl | (simp only [World.size_alloc] <;> omega)) | refine heap_old _ _ _ _ (by simp only [World.size_alloc] <;> omega) ?_))) (allLit_out ⟨⟨by (repeat (first | exact heap_new _ _ _ (by first | rfl | (simp only [World.size_alloc] <;> omega)) | refine heap_old _ _ _ _ (by simp only [World.size_alloc] <;> omega) ?_)), by simp⟩, ⟨by (repeat (first | exact heap_new _ _ _ (by first | rfl | (simp only [World.size_alloc] <;> omega)) | refine heap_old _ _ _ _ (by simp only [World.size_alloc] <;> omega) ?_)), by simp⟩, trivial⟩) (by simp)
  have hC3 := lit_C (W := (((w1.alloc (litRow [0, 0, 0, 0, 0])).alloc (litRow [2, 0])).alloc (litRow [2, 3])).alloc (litRows [(w1.heap.size + 1, [2, 0]), (w1.heap.size + 1 + 1, [2, 3])])) (b := w1.heap.size) [0, 0, 0, 0, 0] (by (repeat (first | exact heap_new _ _ _ (by first | rfl | (simp only [World.size_alloc] <;> omega)) | refine heap_old _ _ _ _ (by simp only [World.size_alloc] <;> omega) ?_))) (by simp)
  refine (hyper_Make.calls 5 _ 5 [0, 0, 0, 0, 0] _ 2 [[2, 0], [2, 3]] 5 [0, 0, 0, 0, 0] [[0, 2], [2, 3]] 0 _ hC3 (by decide) hC2 (by decide) ex_Make1).mono ?_
  rintro e w2 ⟨vc, ve, rfl, hR2, hS2, hb2⟩
  obtain ⟨Ac, cc, rfl, hlcc, hGc⟩ := Kd.R_reads hR2
  obtain ⟨Ae, ce, rfl, hlce, hGe⟩ := Kd.S_reads hS2
  have hb2' : Below w1.heap.size w1 w2 := below2 (by repeat first | exact Below.refl _ _ | apply below_alloc) hb2
  have HB2 : Hid (Below w.heap.size w w2) := Lib.hid (below2 HB1.out hb2')
  have HL2 := Lib.hid (Kd.C_below HL1.out hb2')
  have HGc2 := Lib.hid hGc
  have HGe2 := Lib.hid hGe
  clear hR2 hS2 hb2 hb2' hGc hGe hC2 hC3 HB1 HL1 hmk
  go_wp2_with ((with_reducible refine gate_dst (N := 2) rfl ?_); refine hold_here ?_)
  refine hold_out ?_
  refine box_event rfl (N := 2) rfl (cs := #[.int .i64 0, .slice none 0 0, .slice none 0 0]) (t := 25) (by first | (go_simp; done) | (go_simp; rfl)) ?_
  intro G hG w3 hbox hb3
  have hGl : w2.heap.size ≤ G := Nat.le_of_eq hG.symm
  obtain ⟨hx0, hx1, hx2, hy0, hy1, hy2⟩ := GraphAt.cells (show GraphAt w3 G 0 (.slice none 0 0) (.slice none 0 0) from hbox)
  clear hG
  have HBX := Lib.hid hbox
  have HB3 := Lib.hid hb3
  clear hbox hb3
  go_wp2_with ((with_reducible refine gate_dst (N := 29) rfl ?_); refine hold_here ?_)
  refine hold_out ?_
  obtain ⟨hGA, hbA⟩ := graph_stored hGl HB3.out HBX.out 5 (.slice Ac 5 cc) (.slice Ae 2 ce)
  obtain ⟨w4, hw4⟩ : ∃ w4, w4 = ((w3.setCell ⟨G, 0, none⟩ (.int .i64 5)).setCell ⟨G, 1, none⟩ (.slice Ac 5 cc)).setCell ⟨G, 2, none⟩ (.slice Ae 2 ce) := ⟨_, rfl⟩
  rw [← hw4] at hGA hbA ⊢
  clear hw4 hx0 hx1 hx2 hy0 hy1 hy2 HBX HB3 hGl
  have HB4 : Hid (Below w.heap.size w w4) := Lib.hid (below2 HB2.out hbA)
  have HL4 := Lib.hid (Kd.C_below HL2.out hbA)
  have HGc4 := Lib.hid (Kd.C_below HGc2.out hbA)
  have HGe4 := Lib.hid (Kd.C_below HGe2.out hbA)
  have HGA := Lib.hid hGA
  obtain ⟨hg0, hg1, hg2, _, _, _⟩ := hGA.cells
  clear hGA hbA HB2 HL2 HGc2 HGe2
  go_wp2_with fail
  have hC4 := lit_C (W := w4.alloc (litRow [2, 3, 4])) (b := w4.heap.size) [2, 3, 4] (by (repeat (first | exact heap_new _ _ _ (by first | rfl | (simp only [World.size_alloc] <;> omega)) | refine heap_old _ _ _ _ (by simp only [World.size_alloc] <;> omega) ?_))) (by simp)
  have hb4a : Below w4.heap.size w4 (w4.alloc (litRow [2, 3, 4])) := below_alloc (Below.refl _ _) _
  refine (hyper_Part.calls 5 Ac cc [0, 0, 0, 0, 0] Ae ce [[0, 2], [2, 3]] _ 3 [2, 3, 4] 3 [0, 0, 0] [[0, 1]] 0 _ (Kd.C_below HGc4.out hb4a) hlcc (Kd.C_below HGe4.out hb4a) hlce hC4 (by decide) ex_Part).mono ?_
  rintro e w5 ⟨vpc, vpe, rfl, hR5, hS5, hb5⟩
  obtain ⟨Apc, cpc, rfl, hlpc, _⟩ := Kd.R_reads hR5
  obtain ⟨Ape, cpe, rfl, hlpe, hPe⟩ := Kd.S_reads hS5
  have hb5' : Below w4.heap.size w4 w5 := below2 hb4a hb5
  have HB5 : Hid (Below w.heap.size w w5) := Lib.hid (below2 HB4.out hb5')
  have HL5 := Lib.hid (Kd.C_below HL4.out hb5')
  have HGc5 := Lib.hid (Kd.C_below HGc4.out hb5')
  have HGe5 := Lib.hid (Kd.C_below HGe4.out hb5')
  have HGA5 := Lib.hid (HGA.out.below hb5')
  have HPe5 := Lib.hid hPe
  clear hR5 hS5 hb5 hb5' hb4a hC4 hPe HB4 HL4 HGc4 HGe4 HGA hg0 hg1 hg2
  go_wp2_with ((with_reducible refine gate_dst (N := 4) rfl ?_); refine hold_here ?_)
  refine hold_out ?_
  refine box_event rfl (N := 4) rfl (cs := #[.int .i64 0, .slice none 0 0, .slice none 0 0]) (t := 25) (by first | (go_simp; done) | (go_simp; rfl)) ?_
  intro Gp hG w6 hbox hb6
  have hGl : w5.heap.size ≤ Gp := Nat.le_of_eq hG.symm
  obtain ⟨hx0, hx1, hx2, hy0, hy1, hy2⟩ := GraphAt.cells (show GraphAt w6 Gp 0 (.slice none 0 0) (.slice none 0 0) from hbox)
  clear hG
  have HBX := Lib.hid hbox
  have HB6 := Lib.hid hb6
  clear hbox hb6
  go_wp2_with ((with_reducible refine gate_dst (N := 35) rfl ?_); refine hold_here ?_)
  refine hold_out ?_
  obtain ⟨hPA, hbA⟩ := graph_stored hGl HB6.out HBX.out 3 (.slice Apc 3 cpc) (.slice Ape 1 cpe)
  obtain ⟨w7, hw7⟩ : ∃ w7, w7 = ((w6.setCell ⟨Gp, 0, none⟩ (.int .i64 3)).setCell ⟨Gp, 1, none⟩ (.slice Apc 3 cpc)).setCell ⟨Gp, 2, none⟩ (.slice Ape 1 cpe) := ⟨_, rfl⟩
  rw [← hw7] at hPA hbA ⊢
  clear hw7 hx0 hx1 hx2 hy0 hy1 hy2 HBX HB6 hGl
  have HB7 : Hid (Below w.heap.size w w7) := Lib.hid (below2 HB5.out hbA)
  have HL7 := Lib.hid (Kd.C_below HL5.out hbA)
  have HGc7 := Lib.hid (Kd.C_below HGc5.out hbA)
  have HGe7 := Lib.hid (Kd.C_below HGe5.out hbA)
  have HGA7 := Lib.hid (HGA5.out.below hbA)
  have HPe7 := Lib.hid (Kd.C_below HPe5.out hbA)
  have HPA7 := Lib.hid hPA
  clear hPA hbA HB5 HL5 HGc5 HGe5 HGA5 HPe5
  go_wp2_with fail
  have hC8 := lit_CC (W := (((w7.alloc (litRow [1, 1, 1])).alloc (litRow [0, 1])).alloc (litRow [2])).alloc (litRows [(w7.heap.size + 1, [0, 1]), (w7.heap.size + 1 + 1, [2])])) (b := w7.heap.size + 1 + 1 + 1)
    [(w7.heap.size + 1, [0, 1]), (w7.heap.size + 1 + 1, [2])] (by (repeat (first | exact heap_new _ _ _ (by first | rfl | (simp only [World.size_alloc] <;> omega)) | refine heap_old _ _ _ _ (by simp only [World.size_alloc] <;> omega) ?_))) (allLit_out ⟨⟨by (repeat (first | exact heap_new _ _ _ (by first | rfl | (simp only [World.size_alloc] <;> omega)) | refine heap_old _ _ _ _ (by simp only [World.size_alloc] <;> omega) ?_)), by simp⟩, ⟨by (repeat (first | exact heap_new _ _ _ (by first | rfl | (simp only [World.size_alloc] <;> omega)) | refine heap_old _ _ _ _ (by simp only [World.size_alloc] <;> omega) ?_)), by simp⟩, trivial⟩) (by simp)
  have hC9 := lit_C (W := (((w7.alloc (litRow [1, 1, 1])).alloc (litRow [0, 1])).alloc (litRow [2])).alloc (litRows [(w7.heap.size + 1, [0, 1]), (w7.heap.size + 1 + 1, [2])])) (b := w7.heap.size) [1, 1, 1] (by (repeat (first | exact heap_new _ _ _ (by first | rfl | (simp only [World.size_alloc] <;> omega)) | refine heap_old _ _ _ _ (by simp only [World.size_alloc] <;> omega) ?_))) (by simp)
  refine (hyper_Make.calls 3 _ 3 [1, 1, 1] _ 2 [[0, 1], [2]] 3 [1, 1, 1] [[0, 1], [2]] 0 _ hC9 (by decide) hC8 (by decide) ex_Make2).mono ?_
  rintro e w8 ⟨vc, ve, rfl, hR2, hS2, hb2⟩
  obtain ⟨Ahc, chc, rfl, hlhc, hHc⟩ := Kd.R_reads hR2
  obtain ⟨Ahe, che, rfl, hlhe, hHe⟩ := Kd.S_reads hS2
  have hb2' : Below w7.heap.size w7 w8 := below2 (by repeat first | exact Below.refl _ _ | apply below_alloc) hb2
  have HB8 : Hid (Below w.heap.size w w8) := Lib.hid (below2 HB7.out hb2')
  have HL8 := Lib.hid (Kd.C_below HL7.out hb2')
  have HGc8 := Lib.hid (Kd.C_below HGc7.out hb2')
  have HGe8 := Lib.hid (Kd.C_below HGe7.out hb2')
  have HGA8 := Lib.hid (HGA7.out.below hb2')
  have HPe8 := Lib.hid (Kd.C_below HPe7.out hb2')
  have HPA8 := Lib.hid (HPA7.out.below hb2')
  have HHc8 := Lib.hid hHc
  have HHe8 := Lib.hid hHe
  clear hR2 hS2 hb2 hb2' hHc hHe hC8 hC9 HB7 HL7 HGc7 HGe7 HGA7 HPe7 HPA7
  go_wp2_with ((with_reducible refine gate_dst (N := 6) rfl ?_); refine hold_here ?_)
  refine hold_out ?_
  refine box_event rfl (N := 6) rfl (cs := #[.int .i64 0, .slice none 0 0, .slice none 0 0]) (t := 25) (by first | (go_simp; done) | (go_simp; rfl)) ?_
  intro Gh hG w9 hbox hb9
  have hGl : w8.heap.size ≤ Gh := Nat.le_of_eq hG.symm
  obtain ⟨hx0, hx1, hx2, hy0, hy1, hy2⟩ := GraphAt.cells (show GraphAt w9 Gh 0 (.slice none 0 0) (.slice none 0 0) from hbox)
  clear hG
  have HBX := Lib.hid hbox
  have HB9 := Lib.hid hb9
  clear hbox hb9
  go_wp2_with ((with_reducible refine gate_dst (N := 43) rfl ?_); refine hold_here ?_)
  refine hold_out ?_
  obtain ⟨hHA, hbA⟩ := graph_stored hGl HB9.out HBX.out 3 (.slice Ahc 3 chc) (.slice Ahe 2 che)
  obtain ⟨w10, hw10⟩ : ∃ w10, w10 = ((w9.setCell ⟨Gh, 0, none⟩ (.int .i64 3)).setCell ⟨Gh, 1, none⟩ (.slice Ahc 3 chc)).setCell ⟨Gh, 2, none⟩ (.slice Ahe 2 che) := ⟨_, rfl⟩
  rw [← hw10] at hHA hbA ⊢
  clear hw10 hx0 hx1 hx2 hy0 hy1 hy2 HBX HB9 hGl
  have HB10 : Hid (Below w.heap.size w w10) := Lib.hid (below2 HB8.out hbA)
  have HL10 := Lib.hid (Kd.C_below HL8.out hbA)
  have HGc10 := Lib.hid (Kd.C_below HGc8.out hbA)
  have HGe10 := Lib.hid (Kd.C_below HGe8.out hbA)
  have HGA10 := Lib.hid (HGA8.out.below hbA)
  have HPe10 := Lib.hid (Kd.C_below HPe8.out hbA)
  have HPA10 := Lib.hid (HPA8.out.below hbA)
  have HHc10 := Lib.hid (Kd.C_below HHc8.out hbA)
  have HHe10 := Lib.hid (Kd.C_below HHe8.out hbA)
  obtain ⟨hg0, hg1, hg2, _, _, _⟩ := hHA.cells
  clear hHA hbA HB8 HL8 HGc8 HGe8 HGA8 HPe8 HPA8 HHc8 HHe8
  go_wp2_with fail
  refine (hyper_Fixed.calls 3 Ahc chc [1, 1, 1] Ahe che [[0, 1], [2]] [] [2] _ HHc10.out hlhc HHe10.out hlhe ex_Fixed).mono ?_
  rintro e w11 ⟨va, vb, rfl, hRa, hRb, hb11⟩
  obtain ⟨Aa, ca, rfl, hlca, _⟩ := Kd.R_reads hRa
  obtain ⟨Ab, cb, rfl, hlcb, hBb⟩ := Kd.R_reads hRb
  have HB11 : Hid (Below w.heap.size w w11) := Lib.hid (below2 HB10.out hb11)
  have HL11 := Lib.hid (Kd.C_below HL10.out hb11)
  have HGc11 := Lib.hid (Kd.C_below HGc10.out hb11)
  have HGe11 := Lib.hid (Kd.C_below HGe10.out hb11)
  have HGA11 := Lib.hid (HGA10.out.below hb11)
  have HPe11 := Lib.hid (Kd.C_below HPe10.out hb11)
  have HPA11 := Lib.hid (HPA10.out.below hb11)
  have HBb11 := Lib.hid hBb
  clear hRa hRb hb11 hBb HB10 HL10 HGc10 HGe10 HGA10 HPe10 HPA10 HHc10 HHe10 hg0 hg1 hg2
  go_wp2_with fail
  have hC12 := lit_CC (W := ((w11.alloc (litRow [1])).alloc (litRow [1])).alloc (litRows [(w11.heap.size + 1, [1])])) (b := w11.heap.size + 1 + 1)
    [(w11.heap.size + 1, [1])] (by (repeat (first | exact heap_new _ _ _ (by first | rfl | (simp only [World.size_alloc] <;> omega)) | refine heap_old _ _ _ _ (by simp only [World.size_alloc] <;> omega) ?_))) (allLit_out ⟨⟨by (repeat (first | exact heap_new _ _ _ (by first | rfl | (simp only [World.size_alloc] <;> omega)) | refine heap_old _ _ _ _ (by simp only [World.size_alloc] <;> omega) ?_)), by simp⟩, trivial⟩) (by simp)
  have hC13 := lit_C (W := ((w11.alloc (litRow [1])).alloc (litRow [1])).alloc (litRows [(w11.heap.size + 1, [1])])) (b := w11.heap.size) [1] (heap_old _ _ _ _ (by simp only [World.size_alloc]; omega) (heap_old _ _ _ _ (by simp only [World.size_alloc]; omega) (heap_new _ _ _ rfl))) (by simp)
  refine (hyper_Make.calls 1 _ 1 [1] _ 1 [[1]] 0 [] [] 1 _ hC13 (by decide) hC12 (by decide) ex_Make3).mono ?_
  rintro e w12 ⟨vc, ve, rfl, hR2, hS2, hb2⟩
  obtain ⟨Ahc, chc, rfl, hlhc2, _⟩ := Kd.R_reads hR2
  obtain ⟨Ahe, che, rfl, hlhe2, _⟩ := Kd.S_reads hS2
  have hb2' : Below w11.heap.size w11 w12 := below2 (by repeat first | exact Below.refl _ _ | apply below_alloc) hb2
  have HB12 : Hid (Below w.heap.size w w12) := Lib.hid (below2 HB11.out hb2')
  have HL12 := Lib.hid (Kd.C_below HL11.out hb2')
  have HGc12 := Lib.hid (Kd.C_below HGc11.out hb2')
  have HGe12 := Lib.hid (Kd.C_below HGe11.out hb2')
  have HGA12 := Lib.hid (HGA11.out.below hb2')
  have HPe12 := Lib.hid (Kd.C_below HPe11.out hb2')
  have HPA12 := Lib.hid (HPA11.out.below hb2')
  have HBb12 := Lib.hid (Kd.C_below HBb11.out hb2')
  clear hR2 hS2 hb2 hb2' hC12 hC13 HB11 HL11 HGc11 HGe11 HGA11 HPe11 HPA11 HBb11
  go_wp2_with ((with_reducible refine gate_dst (N := 10) rfl ?_); refine hold_here ?_)
  refine hold_out ?_
  refine box_event rfl (N := 10) rfl (cs := #[.int .i64 0, .slice none 0 0, .slice none 0 0]) (t := 25) (by first | (go_simp; done) | (go_simp; rfl)) ?_
  intro Gk hG w13 hbox hb13
  have hGl : w12.heap.size ≤ Gk := Nat.le_of_eq hG.symm
  obtain ⟨hx0, hx1, hx2, hy0, hy1, hy2⟩ := GraphAt.cells (show GraphAt w13 Gk 0 (.slice none 0 0) (.slice none 0 0) from hbox)
  clear hG
  have HBX := Lib.hid hbox
  have HB13 := Lib.hid hb13
  clear hbox hb13
  go_wp2_with ((with_reducible refine gate_dst (N := 55) rfl ?_); refine hold_here ?_)
  refine hold_out ?_
  obtain ⟨_, hbA⟩ := graph_stored hGl HB13.out HBX.out 0 (.slice Ahc 0 chc) (.slice Ahe 0 che)
  obtain ⟨w14, hw14⟩ : ∃ w14, w14 = ((w13.setCell ⟨Gk, 0, none⟩ (.int .i64 0)).setCell ⟨Gk, 1, none⟩ (.slice Ahc 0 chc)).setCell ⟨Gk, 2, none⟩ (.slice Ahe 0 che) := ⟨_, rfl⟩
  rw [← hw14] at hbA ⊢
  clear hw14 hx0 hx1 hx2 hy0 hy1 hy2 HBX HB13 hGl
  have HB14 : Hid (Below w.heap.size w w14) := Lib.hid (below2 HB12.out hbA)
  have HL14 := Lib.hid (Kd.C_below HL12.out hbA)
  have HGc14 := Lib.hid (Kd.C_below HGc12.out hbA)
  have HGe14 := Lib.hid (Kd.C_below HGe12.out hbA)
  have HGA14 := Lib.hid (HGA12.out.below hbA)
  have HPe14 := Lib.hid (Kd.C_below HPe12.out hbA)
  have HPA14 := Lib.hid (HPA12.out.below hbA)
  have HBb14 := Lib.hid (Kd.C_below HBb12.out hbA)
  clear hbA HB12 HL12 HGc12 HGe12 HGA12 HPe12 HPA12 HBb12
  go_wp2_with fail
  have hb14a : Below w14.heap.size w14 (((w14.alloc (litRow [1, 2])).alloc (litRow [3])).alloc (litRows [(w14.heap.size, [1, 2]), (w14.heap.size + 1, [3])])) := by repeat first | exact Below.refl _ _ | apply below_alloc
  have hC14 := lit_CC (W := ((w14.alloc (litRow [1, 2])).alloc (litRow [3])).alloc (litRows [(w14.heap.size, [1, 2]), (w14.heap.size + 1, [3])])) (b := w14.heap.size + 1 + 1)
    [(w14.heap.size, [1, 2]), (w14.heap.size + 1, [3])] (by (repeat (first | exact heap_new _ _ _ (by first | rfl | (simp only [World.size_alloc] <;> omega)) | refine heap_old _ _ _ _ (by simp only [World.size_alloc] <;> omega) ?_))) (allLit_out ⟨⟨by (repeat (first | exact heap_new _ _ _ (by first | rfl | (simp only [World.size_alloc] <;> omega)) | refine heap_old _ _ _ _ (by simp only [World.size_alloc] <;> omega) ?_)), by simp⟩, ⟨by (repeat (first | exact heap_new _ _ _ (by first | rfl | (simp only [World.size_alloc] <;> omega)) | refine heap_old _ _ _ _ (by simp only [World.size_alloc] <;> omega) ?_)), by simp⟩, trivial⟩) (by simp)
  refine (Hs.cleanseref27_Sets.calls 9 A1 c1 [[1, 2], [3]] _ 2 [[1, 2], [3]] true _ (Kd.C_below HL14.out hb14a) hlc1 hC14 (by decide) ex_Sets1).mono ?_
  rintro e w15 ⟨rfl, q15, hq15⟩
  have hb15 : Below w14.heap.size w14 w15 := by rw [hq15]; exact pw_below_drewN hb14a _
  clear hq15 hb14a hC14
  have HB15 : Hid (Below w.heap.size w w15) := Lib.hid (below2 HB14.out hb15)
  have HGc15 := Lib.hid (Kd.C_below HGc14.out hb15)
  have HGe15 := Lib.hid (Kd.C_below HGe14.out hb15)
  have HGA15 := Lib.hid (HGA14.out.below hb15)
  have HPe15 := Lib.hid (Kd.C_below HPe14.out hb15)
  have HPA15 := Lib.hid (HPA14.out.below hb15)
  have HBb15 := Lib.hid (Kd.C_below HBb14.out hb15)
  clear hb15 HB14 HL14 HGc14 HGe14 HGA14 HPe14 HPA14 HBb14
  obtain ⟨hg0, hg1, hg2, _, _, _⟩ := HGA15.out.cells
  go_wp2_with fail
  refine (hyper_Valid.calls 5 Ac cc [0, 0, 0, 0, 0] Ae ce [[0, 2], [2, 3]] true _ HGc15.out hlcc HGe15.out hlce ex_Valid).mono ?_
  rintro e w16 ⟨rfl, hb16⟩
  have HB16 : Hid (Below w.heap.size w w16) := Lib.hid (below2 HB15.out hb16)
  have HGc16 := Lib.hid (Kd.C_below HGc15.out hb16)
  have HGe16 := Lib.hid (Kd.C_below HGe15.out hb16)
  have HGA16 := Lib.hid (HGA15.out.below hb16)
  have HPe16 := Lib.hid (Kd.C_below HPe15.out hb16)
  have HPA16 := Lib.hid (HPA15.out.below hb16)
  have HBb16 := Lib.hid (Kd.C_below HBb15.out hb16)
  clear hb16 HB15 HGc15 HGe15 HGA15 HPe15 HPA15 HBb15 hg0 hg1 hg2
  obtain ⟨hp0, hp1, hp2, _, _, _⟩ := HPA16.out.cells
  go_wp2_with fail
  have hb16a : Below w16.heap.size w16 ((w16.alloc (litRow [0, 1])).alloc (litRows [(w16.heap.size, [0, 1])])) := by repeat first | exact Below.refl _ _ | apply below_alloc
  have hC16 := lit_CC (W := (w16.alloc (litRow [0, 1])).alloc (litRows [(w16.heap.size, [0, 1])])) (b := w16.heap.size + 1) [(w16.heap.size, [0, 1])] (by (repeat (first | exact heap_new _ _ _ (by first | rfl | (simp only [World.size_alloc] <;> omega)) | refine heap_old _ _ _ _ (by simp only [World.size_alloc] <;> omega) ?_))) (allLit_out ⟨⟨by (repeat (first | exact heap_new _ _ _ (by first | rfl | (simp only [World.size_alloc] <;> omega)) | refine heap_old _ _ _ _ (by simp only [World.size_alloc] <;> omega) ?_)), by simp⟩, trivial⟩) (by simp)
  refine (Hs.cleanseref27_Sets.calls 9 Ape cpe [[0, 1]] _ 1 [[0, 1]] true _ (Kd.C_below HPe16.out hb16a) hlpe hC16 (by decide) ex_Sets2).mono ?_
  rintro e w17 ⟨rfl, q17, hq17⟩
  have hb17 : Below w16.heap.size w16 w17 := by rw [hq17]; exact pw_below_drewN hb16a _
  clear hq17 hb16a hC16 hp0 hp1 hp2
  have HB17 : Hid (Below w.heap.size w w17) := Lib.hid (below2 HB16.out hb17)
  have HGc17 := Lib.hid (Kd.C_below HGc16.out hb17)
  have HGe17 := Lib.hid (Kd.C_below HGe16.out hb17)
  have HGA17 := Lib.hid (HGA16.out.below hb17)
  have HBb17 := Lib.hid (Kd.C_below HBb16.out hb17)
  clear hb17 HB16 HGc16 HGe16 HGA16 HPe16 HPA16 HBb16
  obtain ⟨hg0, hg1, hg2, _, _, _⟩ := HGA17.out.cells
  go_wp2_with fail
  refine (hyper_Components.calls 5 Ac cc [0, 0, 0, 0, 0] Ae ce [[0, 2], [2, 3]] [[0, 2, 3], [1], [4]] _ HGc17.out hlcc HGe17.out hlce ex_Components).mono ?_
  rintro e w18 ⟨v18, rfl, hS18, hb18⟩
  obtain ⟨A18, c18, rfl, hl18, hC18⟩ := Kd.S_reads hS18
  have HB18 : Hid (Below w.heap.size w w18) := Lib.hid (below2 HB17.out hb18)
  have HBb18 := Lib.hid (Kd.C_below HBb17.out hb18)
  have HC18 := Lib.hid hC18
  clear hS18 hC18 hb18 HB17 HGc17 HGe17 HGA17 HBb17 hg0 hg1 hg2
  go_wp2_with fail
  have hb18a : Below w18.heap.size w18 ((((w18.alloc (litRow [0, 2, 3])).alloc (litRow [1])).alloc (litRow [4])).alloc (litRows [(w18.heap.size, [0, 2, 3]), (w18.heap.size + 1, [1]), (w18.heap.size + 1 + 1, [4])])) := by repeat first | exact Below.refl _ _ | apply below_alloc
  have hC19 := lit_CC (W := (((w18.alloc (litRow [0, 2, 3])).alloc (litRow [1])).alloc (litRow [4])).alloc (litRows [(w18.heap.size, [0, 2, 3]), (w18.heap.size + 1, [1]), (w18.heap.size + 1 + 1, [4])])) (b := w18.heap.size + 1 + 1 + 1)
    [(w18.heap.size, [0, 2, 3]), (w18.heap.size + 1, [1]), (w18.heap.size + 1 + 1, [4])] (by (repeat (first | exact heap_new _ _ _ (by first | rfl | (simp only [World.size_alloc] <;> omega)) | refine heap_old _ _ _ _ (by simp only [World.size_alloc] <;> omega) ?_))) (allLit_out ⟨⟨by (repeat (first | exact heap_new _ _ _ (by first | rfl | (simp only [World.size_alloc] <;> omega)) | refine heap_old _ _ _ _ (by simp only [World.size_alloc] <;> omega) ?_)), by simp⟩, ⟨by (repeat (first | exact heap_new _ _ _ (by first | rfl | (simp only [World.size_alloc] <;> omega)) | refine heap_old _ _ _ _ (by simp only [World.size_alloc] <;> omega) ?_)), by simp⟩, ⟨by (repeat (first | exact heap_new _ _ _ (by first | rfl | (simp only [World.size_alloc] <;> omega)) | refine heap_old _ _ _ _ (by simp only [World.size_alloc] <;> omega) ?_)), by simp⟩, trivial⟩) (by simp)
  refine (Hs.cleanseref27_Sets.calls 9 A18 c18 [[0, 2, 3], [1], [4]] _ 3 [[0, 2, 3], [1], [4]] true _ (Kd.C_below HC18.out hb18a) hl18 hC19 (by decide) ex_Sets3).mono ?_
  rintro e w19 ⟨rfl, q19, hq19⟩
  have hb19 : Below w18.heap.size w18 w19 := by rw [hq19]; exact pw_below_drewN hb18a _
  clear hq19 hb18a hC19
  have HB19 : Hid (Below w.heap.size w w19) := Lib.hid (below2 HB18.out hb19)
  have HBb19 := Lib.hid (Kd.C_below HBb18.out hb19)
  clear hb19 HB18 HBb18 HC18
  go_wp2_with fail
  have hb19a : Below w19.heap.size w19 (w19.alloc (litRow [2])) := below_alloc (Below.refl _ _) _
  have hC20 := lit_C (W := w19.alloc (litRow [2])) (b := w19.heap.size) [2] (by (repeat (first | exact heap_new _ _ _ (by first | rfl | (simp only [World.size_alloc] <;> omega)) | refine heap_old _ _ _ _ (by simp only [World.size_alloc] <;> omega) ?_))) (by simp)
  refine (Hs.cleanseref06_Ints.calls 9 Ab cb [2] _ 1 [2] true _ (Kd.C_below HBb19.out hb19a) hlcb hC20 (by decide) ex_Ints).mono ?_
  rintro e w20 ⟨rfl, q20, hq20⟩
  have HB20 : Hid (Below w.heap.size w w20) := Lib.hid (below2 HB19.out (by rw [hq20]; exact pw_below_drewN hb19a _))
  clear hq20 hb19a hC20
  go_wp2
  go_ret
  exact ⟨rfl, HB20.out⟩
end Go.Proofs.YtgjbnmobhafajaaGreatDoor
end
end
