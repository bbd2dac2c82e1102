/- The texts of this claim, RfB. -/
import Derived.Test.YtgjbnmobhafajaaGreatDoorQzRf
set_option linter.unusedVariables false
set_option linter.unusedSimpArgs false
section
section
namespace Go.Proofs.YtgjbnmobhafajaaGreatDoor.Hy
open Go.RowKit Go.Proofs.YtgjbnmobhafajaaGreatDoorW.PrintWords Go.Proofs.YtgjbnmobhafajaaGreatDoorW.PrintLast
attribute [local go_sem] max2_int min2_int max_two min_two
set_option linter.unusedVariables false
set_option linter.unusedSimpArgs false
mutual
def cleanseref27_Valid.j0 : Nat → Bool → Int → List Int → List (List Int) → Option (Bool)
  | 0, _, _, _, _ => none
  | k + 1, x17, x194000, x194001, x194002 => if x17 = true then (some false) else (cleanseref27_Valid.l0 k 0 x194000 x194001 x194002)
def cleanseref27_Valid.l0 : Nat → Int → Int → List Int → List (List Int) → Option (Bool)
  | 0, _, _, _, _ => none
  | k + 1, x3, x194000, x194001, x194002 => if x3 < (x194002.length : Int) then (if 0 ≤ x3 then (if ((rd_L1 x194002 x3).length : Int) = 0 then (cleanseref27_Valid.j2 k x3 (rd_L1 x194002 x3) true x194000 x194001 x194002) else ((cleanseref27_Vertices.f k (rd_L1 x194002 x3) x194000).bind fun t196 => (if t196 = true then (if x3 > 0 then (if 0 ≤ (wrap64 (x3 - 1)) then (if (wrap64 (x3 - 1)) < (x194002.length : Int) then ((cleanseref27_Less.f k (rd_L1 x194002 (wrap64 (x3 - 1))) (rd_L1 x194002 x3)).bind fun t198 => (cleanseref27_Valid.j2 k x3 (rd_L1 x194002 x3) (!t198) x194000 x194001 x194002)) else (none)) else (none)) else (cleanseref27_Valid.j2 k x3 (rd_L1 x194002 x3) false x194000 x194001 x194002)) else (cleanseref27_Valid.j2 k x3 (rd_L1 x194002 x3) true x194000 x194001 x194002)))) else (none)) else (some true)
def cleanseref27_Valid.j2 : Nat → Int → List Int → Bool → Int → List Int → List (List Int) → Option (Bool)
  | 0, _, _, _, _, _, _ => none
  | k + 1, x3, x4, x54, x194000, x194001, x194002 => if x54 = true then (some false) else (cleanseref27_Valid.l1 k x3 x4 0 x194000 x194001 x194002)
def cleanseref27_Valid.l1 : Nat → Int → List Int → Int → Int → List Int → List (List Int) → Option (Bool)
  | 0, _, _, _, _, _, _ => none
  | k + 1, x3, x4, x5, x194000, x194001, x194002 => if x5 < (x194002.length : Int) then (if x5 = x3 then (cleanseref27_Valid.l1 k x3 x4 (wrap64 (x5 + 1)) x194000 x194001 x194002) else (if 0 ≤ x5 then ((cleanseref27_Contains.f k x4 (rd_L1 x194002 x5)).bind fun t200 => (if t200 = true then (some false) else (cleanseref27_Valid.l1 k x3 x4 (wrap64 (x5 + 1)) x194000 x194001 x194002))) else (none))) else (cleanseref27_Valid.l0 k (wrap64 (x3 + 1)) x194000 x194001 x194002)
end
def cleanseref27_Valid.f (k : Nat) (a0_0 : Int) (l0_1 : List Int) (l0_2 : List (List Int)) : Option (Bool) := (cleanseref27_costs.f k a0_0 l0_1).bind fun t194 => (if t194 = true then (cleanseref27_Valid.j0 k (decide ((l0_2.length : Int) > 20000)) a0_0 l0_1 l0_2) else (cleanseref27_Valid.j0 k true a0_0 l0_1 l0_2))
set_option maxHeartbeats 8000000 in
set_option maxRecDepth 100000 in
theorem cleanseref27_Valid.calls (k : Nat) (a0_0 : Int) (A0_1 : Option Addr) (c0_1 : Nat) (l0_1 : List Int) (A0_2 : Option Addr) (c0_2 : Nat) (l0_2 : List (List Int)) (r : Bool) (w : World) (hr0_1 : Kd.C (Kd.int .i64) w A0_1 l0_1.length l0_1) (hc0_1 : l0_1.length ≤ c0_1) (hr0_2 : Kd.C (Kd.slice 3 (Kd.int .i64)) w A0_2 l0_2.length l0_2) (hc0_2 : l0_2.length ≤ c0_2) (h : cleanseref27_Valid.f k a0_0 l0_1 l0_2 = some r) :
    Calls Tryz.prog 16 #[.agg #[.int .i64 a0_0, .slice A0_1 l0_1.length c0_1, .slice A0_2 l0_2.length c0_2]] w fun e w' => e = .returned (.bool r) ∧ Below w.heap.size w w' := by
 have hu25 := Tryz.underlying25
 have HR0_1 := Aside0.mk hr0_1
 have HC0_1 := Aside0.mk hc0_1
 clear hr0_1 hc0_1
 have HR0_2 := Aside0.mk hr0_2
 have HC0_2 := Aside0.mk hc0_2
 clear hr0_2 hc0_2
 have HB := Aside0.mk (Below.refl w.heap.size w)
 have H : ((cleanseref27_costs.f k a0_0 l0_1).bind fun t194 => (if t194 = true then (cleanseref27_Valid.j0 k (decide ((l0_2.length : Int) > 20000)) a0_0 l0_1 l0_2) else (cleanseref27_Valid.j0 k true a0_0 l0_1 l0_2))) = some r := h
 clear h
 have HC2 := Aside0.mk H
 clear H
 go_enter Tryz.func16, Tryz.ntmps16
 go_upto_region 1 with (first | ((with_reducible refine gate_dst (N := 1) rfl ?_); (try (refine gate_guard (by rfl) ?_; dsimp only)); refine box_event ?hg (N := 1) ?hd (cs := #[.int .i64 a0_0, .slice A0_1 l0_1.length c0_1, .slice A0_2 l0_2.length c0_2]) (t := 25) ?hr ?_; (case hd => rfl); (case hg => rfl); (case hr => first | (go_simp; done) | (go_simp; rfl)); intro gb193 hg w3 hbox hb; have n0_ := Aside0.mk (below_step (by repeat with_reducible first | exact HB.out | apply below_alloc | apply pw_below_drewN | apply below_drew1) hb); have n1_ := Aside0.mk (hbox); have n2_ := Aside0.mk ((by rw [hg]; exact (below_size (by repeat with_reducible first | exact HB.out | apply below_alloc | apply pw_below_drewN | apply below_drew1)) : w.heap.size ≤ gb193)); have n3_ := Aside0.mk ((by rw [hg]; exact (below_size (by repeat with_reducible first | exact HB.out | apply below_alloc | apply pw_below_drewN | apply below_drew1)) : w.heap.size ≤ gb193)); clear HB; have HB := n0_; have BK193 := n1_; have GW193 := n2_; have GE193 := n3_; clear n0_ n1_ n2_ n3_; clear hb hbox hg))
 (try simp only [Act.put, List.setIfInBounds_toArray, List.set_cons_zero, List.set_cons_succ])
 go_cut [17] (fun v17 wc => ∃ (kq : Nat) (x17_1 : Bool), v17 = .bool x17_1 ∧ Aside0 (cleanseref27_Valid.j0 kq x17_1 a0_0 l0_1 l0_2 = some r) ∧ Aside0 (kq ≤ k) ∧ Aside0 (wc.heap[gb193]? = some (.cells #[.int .i64 a0_0, (.slice A0_1 l0_1.length c0_1), (.slice A0_2 l0_2.length c0_2)] 25 (0, 0))) ∧ Aside0 (Below w.heap.size w wc))
 case first =>
  have H := HC2.out
  clear HC2
  replace H := Option.bind_eq_some_iff.mp H
  obtain ⟨t194, A40, H⟩ := H
  replace H : (if t194 = true then (cleanseref27_Valid.j0 k (decide ((l0_2.length : Int) > 20000)) a0_0 l0_1 l0_2) else (cleanseref27_Valid.j0 k true a0_0 l0_1 l0_2)) = some r := H
  have A4 := Aside0.mk A40
  clear A40
  by_cases c5 : t194 = true
  ·
   subst c5
   have H1 : (cleanseref27_Valid.j0 k (decide ((l0_2.length : Int) > 20000)) a0_0 l0_1 l0_2) = some r := by rw [if_pos rfl] at H; exact H
   clear H
   have H := H1
   clear H1
   have H' := Aside0.mk H
   clear H
   have hcz6_0 : w3.cell? ⟨gb193, 0, none⟩ = some (.int .i64 a0_0) := (blk_cell BK193.out 0).trans rfl
   have hcz6_1 : w3.cell? ⟨gb193, 1, none⟩ = some (.slice A0_1 l0_1.length c0_1) := (blk_cell BK193.out 1).trans rfl
   have hcz6_2 : w3.cell? ⟨gb193, 2, none⟩ = some (.slice A0_2 l0_2.length c0_2) := (blk_cell BK193.out 2).trans rfl
   have hfz6_0 := blk_frozen BK193.out 0
   have hfz6_1 := blk_frozen BK193.out 1
   have hfz6_2 := blk_frozen BK193.out 2
   go_wp2_with (first | ((with_reducible refine gate_callee (f := 26) rfl ?_); refine goesL_ (some 10) rfl rfl Tryz.func26 (by kernel_rfl) rfl #[.int .i64 a0_0, .slice A0_1 l0_1.length c0_1] rfl (by (try simp only [List.map_toArray, List.map_cons, List.map_nil]); first | done | rfl | (simp only [List.length_drop, List.length_take]; rfl)) ?_; (with_reducible refine (cleanseref27_costs.calls k a0_0 _ _ l0_1 true _ ?side1 ?side2 A4.out).mono ?_); (case side1 => repeat (first | exact (Kd.C_below HR0_1.out HB.out) | (with_reducible refine Kd.C_alloc ?_ _) | (with_reducible refine Kd.C_drewN ?_ _) | (with_reducible refine Kd.C_drew ?_))); (case side2 => exact HC0_1.out); rintro e w' ⟨rfl, ⟨nd, rfl⟩⟩; refine ⟨_, rfl, ?_⟩))
   go_meet
   case rel => exact ⟨_, (decide ((l0_2.length : Int) > 20000)), (by first | rfl | (simp; done) | (simp [*]; done)), H', ⟨by first | omega | exact Nat.le_refl _⟩, ⟨by (with_reducible repeat (first | refine blk_drewN ?_ _ | refine blk_drew ?_ | refine blk_alloc ?_ _)); exact BK193.out⟩, ⟨by repeat (first | (with_reducible first | exact HB.out | apply below_alloc | apply pw_below_drewN | apply below_drew1 | refine below_set ?_ GE193.out) | exact HB.out)⟩⟩
  replace c5 := Bool.eq_false_iff.mpr c5
  subst c5
  have H1 : (cleanseref27_Valid.j0 k true a0_0 l0_1 l0_2) = some r := by rw [if_neg (show ¬ (false = true) by decide)] at H; exact H
  clear H
  have H := H1
  clear H1
  have H' := Aside0.mk H
  clear H
  have hcz7_0 : w3.cell? ⟨gb193, 0, none⟩ = some (.int .i64 a0_0) := (blk_cell BK193.out 0).trans rfl
  have hcz7_1 : w3.cell? ⟨gb193, 1, none⟩ = some (.slice A0_1 l0_1.length c0_1) := (blk_cell BK193.out 1).trans rfl
  have hcz7_2 : w3.cell? ⟨gb193, 2, none⟩ = some (.slice A0_2 l0_2.length c0_2) := (blk_cell BK193.out 2).trans rfl
  have hfz7_0 := blk_frozen BK193.out 0
  have hfz7_1 := blk_frozen BK193.out 1
  have hfz7_2 := blk_frozen BK193.out 2
  go_wp2_with (first | ((with_reducible refine gate_callee (f := 26) rfl ?_); refine goesL_ (some 10) rfl rfl Tryz.func26 (by kernel_rfl) rfl #[.int .i64 a0_0, .slice A0_1 l0_1.length c0_1] rfl (by (try simp only [List.map_toArray, List.map_cons, List.map_nil]); first | done | rfl | (simp only [List.length_drop, List.length_take]; rfl)) ?_; (with_reducible refine (cleanseref27_costs.calls k a0_0 _ _ l0_1 false _ ?side1 ?side2 A4.out).mono ?_); (case side1 => repeat (first | exact (Kd.C_below HR0_1.out HB.out) | (with_reducible refine Kd.C_alloc ?_ _) | (with_reducible refine Kd.C_drewN ?_ _) | (with_reducible refine Kd.C_drew ?_))); (case side2 => exact HC0_1.out); rintro e w' ⟨rfl, ⟨nd, rfl⟩⟩; refine ⟨_, rfl, ?_⟩))
  go_meet
  case rel => exact ⟨_, (true), (by first | rfl | (simp; done) | (simp [*]; done)), H', ⟨by first | omega | exact Nat.le_refl _⟩, ⟨by (with_reducible repeat (first | refine blk_drewN ?_ _ | refine blk_drew ?_ | refine blk_alloc ?_ _)); exact BK193.out⟩, ⟨by repeat (first | (with_reducible first | exact HB.out | apply below_alloc | apply pw_below_drewN | apply below_drew1 | refine below_set ?_ GE193.out) | exact HB.out)⟩⟩
 clear HC2
 try clear c1
 try clear c2
 try clear p2
 try clear c5
 try clear hcz6_0
 try clear hcz6_1
 try clear hcz6_2
 try clear hcz7_0
 try clear hcz7_1
 try clear hcz7_2
 try clear hfz6_0
 try clear hfz6_1
 try clear hfz6_2
 try clear hfz7_0
 try clear hfz7_1
 try clear hfz7_2
 obtain ⟨kq, x17_1, rfl, HA, HJ1, BK193, HB⟩ := hcut
 obtain ⟨kj1, rfl⟩ : ∃ m, kq = m + 1 := by (cases kq with | zero => exact absurd HA.out (by simp [cleanseref27_Valid.j0]) | succ m => exact ⟨m, rfl⟩)
 have H := HA.out
 clear HA
 simp only [cleanseref27_Valid.j0] at H
 by_cases c8 : x17_1 = true
 ·
  subst c8
  have H1 : (some false) = some r := by rw [if_pos rfl] at H; exact H
  clear H
  have H := H1
  clear H1
  obtain rfl := Option.some.inj H
  go_wp2
  go_ret
  exact ⟨by first | rfl | (simp [errW_none, errW_some] <;> rfl) | (simp [*, errW_none, errW_some] <;> rfl), by repeat (first | (with_reducible first | exact HB.out | apply below_alloc | apply pw_below_drewN | apply below_drew1 | refine below_set ?_ GE193.out) | exact HB.out)⟩
 replace c8 := Bool.eq_false_iff.mpr c8
 subst c8
 have H1 : (cleanseref27_Valid.l0 kj1 0 a0_0 l0_1 l0_2) = some r := by rw [if_neg (show ¬ (false = true) by decide)] at H; exact H
 clear H
 have H := H1
 clear H1
 have H' := Aside0.mk H
 clear H
 go_wp2
 go_loopg [3] kj1 (fun kq v3 w' => ∃ (x3_2 : Int), v3 = .int .i64 x3_2 ∧ Aside0 (cleanseref27_Valid.l0 kq x3_2 a0_0 l0_1 l0_2 = some r) ∧ Aside0 (kq ≤ kj1) ∧ Aside0 (w'.heap[gb193]? = some (.cells #[.int .i64 a0_0, (.slice A0_1 l0_1.length c0_1), (.slice A0_2 l0_2.length c0_2)] 25 (0, 0))) ∧ Aside0 (Below w.heap.size w w'))
 case atStart => exact ⟨(0), (by first | rfl | (simp; done) | (simp [*]; done)), H', ⟨Nat.le_refl _⟩, ⟨by (with_reducible repeat (first | refine blk_drewN ?_ _ | refine blk_drew ?_ | refine blk_alloc ?_ _)); exact BK193.out⟩, ⟨by repeat (first | (with_reducible first | exact HB.out | apply below_alloc | apply pw_below_drewN | apply below_drew1 | refine below_set ?_ GE193.out) | exact HB.out)⟩⟩
 clear H'
 try clear c1
 try clear c2
 try clear p2
 try clear c5
 try clear c8
 try clear hcz6_0
 try clear hcz6_1
 try clear hcz6_2
 try clear hcz7_0
 try clear hcz7_1
 try clear hcz7_2
 try clear hfz6_0
 try clear hfz6_1
 try clear hfz6_2
 try clear hfz7_0
 try clear hfz7_1
 try clear hfz7_2
 try clear p2
 obtain ⟨x3_2, rfl, HA, HK2, BK193, HB⟩ := hrel
 obtain ⟨k2, rfl⟩ : ∃ m, gk = m + 1 := by (cases gk with | zero => exact absurd HA.out (by simp [cleanseref27_Valid.l0]) | succ m => exact ⟨m, rfl⟩)
 have H := HA.out
 clear HA
 simp only [cleanseref27_Valid.l0] at H
 by_cases c9 : x3_2 < (l0_2.length : Int)
 ·
  rw [if_pos c9] at H
  have c9b0 : decide (x3_2 < (l0_2.length : Int)) = true := decide_eq_true c9
  clear c9
  by_cases c10 : 0 ≤ x3_2
  ·
   rw [if_pos c10] at H
   have c10b0 : decide (0 ≤ x3_2) = true := decide_eq_true c10
   clear c10
   have HC11 := Aside0.mk H
   clear H
   have hcz12_0 : wr.cell? ⟨gb193, 0, none⟩ = some (.int .i64 a0_0) := (blk_cell BK193.out 0).trans rfl
   have hcz12_1 : wr.cell? ⟨gb193, 1, none⟩ = some (.slice A0_1 l0_1.length c0_1) := (blk_cell BK193.out 1).trans rfl
   have hcz12_2 : wr.cell? ⟨gb193, 2, none⟩ = some (.slice A0_2 l0_2.length c0_2) := (blk_cell BK193.out 2).trans rfl
   have hfz12_0 := blk_frozen BK193.out 0
   have hfz12_1 := blk_frozen BK193.out 1
   have hfz12_2 := blk_frozen BK193.out 2
   have p195 : 0 ≤ (x3_2 : Int) := of_decide_eq_true (by first | (with_reducible assumption) | assumption)
   have q195 : x3_2 < (l0_2.length : Int) := of_decide_eq_true (by first | (with_reducible assumption) | assumption)
   obtain ⟨ad195, A195_0, c195_0, e195, hx195_0, hl195_0, hi195_0⟩ := at_L1 HR0_2.out x3_2 p195 q195
   cases e195
   replace hx195_0 := (HB.out.cell (World.block_lt_of_cell? w _ hx195_0)).trans hx195_0
   have HR195_0 := Aside0.mk hi195_0
   have HC195_0 := Aside0.mk hl195_0
   clear hi195_0 hl195_0
   replace p195 := eq_true p195
   replace q195 := eq_true q195
   go_upto_region 7 with (fail)
   go_cut [54] (fun v54 wc => ∃ (kq : Nat) (x54_10 : Bool), v54 = .bool x54_10 ∧ Aside0 (cleanseref27_Valid.j2 kq x3_2 (rd_L1 l0_2 x3_2) x54_10 a0_0 l0_1 l0_2 = some r) ∧ Aside0 (kq ≤ k2) ∧ Aside0 (wc.heap[gb193]? = some (.cells #[.int .i64 a0_0, (.slice A0_1 l0_1.length c0_1), (.slice (some ad195) l0_2.length c0_2)] 25 (0, 0))) ∧ Aside0 (Below w.heap.size w wc))
   case first =>
    have H := HC11.out
    clear HC11
    by_cases c13 : ((rd_L1 l0_2 x3_2).length : Int) = 0
    ·
     rw [if_pos c13] at H
     have c13b0 : (((rd_L1 l0_2 x3_2).length : Int) == 0) = true := beq_iff_eq.mpr c13
     have c13b1 : (((rd_L1 l0_2 x3_2).length : Int) != 0) = false := bne_eq_false_iff_eq.mpr c13
     clear c13
     (first | rw [c13b0] | (simp only [i64_w, i32_w]; rw [c13b0]) | skip)
     have H' := Aside0.mk H
     clear H
     go_wp2
     go_meet
     case rel => exact ⟨_, (true), (by first | rfl | (simp; done) | (simp [*]; done)), H', ⟨by have := HJ1.out; have := HK2.out; first | omega | exact Nat.le_refl _⟩, ⟨by (with_reducible repeat (first | refine blk_drewN ?_ _ | refine blk_drew ?_ | refine blk_alloc ?_ _)); exact BK193.out⟩, ⟨by repeat (first | (with_reducible first | exact HB.out | apply below_alloc | apply pw_below_drewN | apply below_drew1 | refine below_set ?_ GE193.out) | exact HB.out)⟩⟩
    rw [if_neg c13] at H
    have c13b0 : (((rd_L1 l0_2 x3_2).length : Int) == 0) = false := beq_eq_false_iff_ne.mpr c13
    have c13b1 : (((rd_L1 l0_2 x3_2).length : Int) != 0) = true := bne_iff_ne.mpr c13
    have c13b2 : ¬ ((rd_L1 l0_2 x3_2) = []) := fun h_ => c13 (by rw [h_]; rfl)
    (first | rw [c13b0] | (simp only [i64_w, i32_w]; rw [c13b0]) | skip)
    replace H := Option.bind_eq_some_iff.mp H
    obtain ⟨t196, A140, H⟩ := H
    replace H : (if t196 = true then (if x3_2 > 0 then (if 0 ≤ (wrap64 (x3_2 - 1)) then (if (wrap64 (x3_2 - 1)) < (l0_2.length : Int) then ((cleanseref27_Less.f k2 (rd_L1 l0_2 (wrap64 (x3_2 - 1))) (rd_L1 l0_2 x3_2)).bind fun t198 => (cleanseref27_Valid.j2 k2 x3_2 (rd_L1 l0_2 x3_2) (!t198) a0_0 l0_1 l0_2)) else (none)) else (none)) else (cleanseref27_Valid.j2 k2 x3_2 (rd_L1 l0_2 x3_2) false a0_0 l0_1 l0_2)) else (cleanseref27_Valid.j2 k2 x3_2 (rd_L1 l0_2 x3_2) true a0_0 l0_1 l0_2)) = some r := H
    have A14 := Aside0.mk A140
    clear A140
    by_cases c15 : t196 = true
    ·
     subst c15
     have H1 : (if x3_2 > 0 then (if 0 ≤ (wrap64 (x3_2 - 1)) then (if (wrap64 (x3_2 - 1)) < (l0_2.length : Int) then ((cleanseref27_Less.f k2 (rd_L1 l0_2 (wrap64 (x3_2 - 1))) (rd_L1 l0_2 x3_2)).bind fun t198 => (cleanseref27_Valid.j2 k2 x3_2 (rd_L1 l0_2 x3_2) (!t198) a0_0 l0_1 l0_2)) else (none)) else (none)) else (cleanseref27_Valid.j2 k2 x3_2 (rd_L1 l0_2 x3_2) false a0_0 l0_1 l0_2)) = some r := by rw [if_pos rfl] at H; exact H
     clear H
     have H := H1
     clear H1
     by_cases c16 : x3_2 > 0
     ·
      rw [if_pos c16] at H
      have c16b0 : decide (0 < x3_2) = true := decide_eq_true c16
      clear c16
      obtain ⟨ji17, hji17⟩ : ∃ j_ : Int, (wrap64 (x3_2 - 1)) = j_ := ⟨_, rfl⟩
      replace H : (if 0 ≤ (ji17) then (if (ji17) < (l0_2.length : Int) then ((cleanseref27_Less.f k2 (rd_L1 l0_2 (ji17)) (rd_L1 l0_2 x3_2)).bind fun t198 => (cleanseref27_Valid.j2 k2 x3_2 (rd_L1 l0_2 x3_2) (!t198) a0_0 l0_1 l0_2)) else (none)) else (none)) = some r := by first | (rw [hji17] at H; exact H) | (simp only [hji17] at H ⊢; exact H)
      (try rw [hji17] at A14)
      have hji17w : (IntKind.i64.wrap (x3_2 - 1)) = ji17 := (i64_w _).trans hji17
      by_cases c18 : 0 ≤ (ji17)
      ·
       rw [if_pos c18] at H
       have c18b0 : decide (0 ≤ (ji17)) = true := decide_eq_true c18
       clear c18
       by_cases c19 : (ji17) < (l0_2.length : Int)
       ·
        rw [if_pos c19] at H
        have c19b0 : decide ((ji17) < (l0_2.length : Int)) = true := decide_eq_true c19
        clear c19
        replace H := Option.bind_eq_some_iff.mp H
        obtain ⟨t198, A200, H⟩ := H
        replace H : (cleanseref27_Valid.j2 k2 x3_2 (rd_L1 l0_2 x3_2) (!t198) a0_0 l0_1 l0_2) = some r := H
        have A20 := Aside0.mk A200
        clear A200
        have H' := Aside0.mk H
        clear H
        have hcz21_0 : wr.cell? ⟨gb193, 0, none⟩ = some (.int .i64 a0_0) := (blk_cell BK193.out 0).trans rfl
        have hcz21_1 : wr.cell? ⟨gb193, 1, none⟩ = some (.slice A0_1 l0_1.length c0_1) := (blk_cell BK193.out 1).trans rfl
        have hcz21_2 : wr.cell? ⟨gb193, 2, none⟩ = some (.slice (some ad195) l0_2.length c0_2) := (blk_cell BK193.out 2).trans rfl
        have hfz21_0 := blk_frozen BK193.out 0
        have hfz21_1 := blk_frozen BK193.out 1
        have hfz21_2 := blk_frozen BK193.out 2
        go_wp2_with (first | (go_at_call 27; (with_reducible refine (cleanseref27_Vertices.calls k2 _ _ (rd_L1 l0_2 x3_2) a0_0 true _ ?side1 ?side2 A14.out).mono ?_); (case side1 => repeat (first | exact (Kd.C_below HR195_0.out HB.out) | (with_reducible refine Kd.C_alloc ?_ _) | (with_reducible refine Kd.C_drewN ?_ _) | (with_reducible refine Kd.C_drew ?_))); (case side2 => exact HC195_0.out); rintro e w' ⟨rfl, ⟨nd, rfl⟩⟩; have p197 : 0 ≤ ((ji17) : Int) := of_decide_eq_true (by first | (with_reducible assumption) | assumption); have q197 : (ji17) < (l0_2.length : Int) := of_decide_eq_true (by first | (with_reducible assumption) | assumption); obtain ⟨ad197, A197_0, c197_0, e197, hx197_0, hl197_0, hi197_0⟩ := at_L1 HR0_2.out (ji17) p197 q197; obtain rfl : ad195 = ad197 := (by injection e197); replace hx197_0 := (HB.out.cell (World.block_lt_of_cell? w _ hx197_0)).trans hx197_0; have HR197_0 := Aside0.mk hi197_0; have HC197_0 := Aside0.mk hl197_0; clear hi197_0 hl197_0; replace p197 := eq_true p197; replace q197 := eq_true q197) | (go_at_call 31; (with_reducible refine (cleanseref27_Less.calls k2 _ _ (rd_L1 l0_2 (ji17)) _ _ (rd_L1 l0_2 x3_2) t198 _ ?side1 ?side2 ?side3 ?side4 A20.out).mono ?_); (case side1 => repeat (first | exact (Kd.C_below HR197_0.out (by repeat (first | (with_reducible first | exact HB.out | apply below_alloc | apply pw_below_drewN | apply below_drew1 | refine below_set ?_ GE193.out) | exact HB.out))) | (with_reducible refine Kd.C_alloc ?_ _) | (with_reducible refine Kd.C_drewN ?_ _) | (with_reducible refine Kd.C_drew ?_))); (case side2 => exact HC197_0.out); (case side3 => repeat (first | exact (Kd.C_below HR195_0.out (by repeat (first | (with_reducible first | exact HB.out | apply below_alloc | apply pw_below_drewN | apply below_drew1 | refine below_set ?_ GE193.out) | exact HB.out))) | (with_reducible refine Kd.C_alloc ?_ _) | (with_reducible refine Kd.C_drewN ?_ _) | (with_reducible refine Kd.C_drew ?_))); (case side4 => exact HC195_0.out); rintro e w' ⟨rfl, ⟨nd, rfl⟩⟩))
        go_meet
        case rel => exact ⟨_, (!t198), (by first | rfl | (simp; done) | (simp [*]; done)), H', ⟨by have := HJ1.out; have := HK2.out; first | omega | exact Nat.le_refl _⟩, ⟨by (with_reducible repeat (first | refine blk_drewN ?_ _ | refine blk_drew ?_ | refine blk_alloc ?_ _)); exact BK193.out⟩, ⟨by repeat (first | (with_reducible first | exact HB.out | apply below_alloc | apply pw_below_drewN | apply below_drew1 | refine below_set ?_ GE193.out) | exact HB.out)⟩⟩
       rw [if_neg c19] at H
       exact absurd H (by simp)
      rw [if_neg c18] at H
      exact absurd H (by simp)
     rw [if_neg c16] at H
     have c16b0 : decide (0 < x3_2) = false := decide_eq_false c16
     clear c16
     have H' := Aside0.mk H
     clear H
     have hcz22_0 : wr.cell? ⟨gb193, 0, none⟩ = some (.int .i64 a0_0) := (blk_cell BK193.out 0).trans rfl
     have hcz22_1 : wr.cell? ⟨gb193, 1, none⟩ = some (.slice A0_1 l0_1.length c0_1) := (blk_cell BK193.out 1).trans rfl
     have hcz22_2 : wr.cell? ⟨gb193, 2, none⟩ = some (.slice (some ad195) l0_2.length c0_2) := (blk_cell BK193.out 2).trans rfl
     have hfz22_0 := blk_frozen BK193.out 0
     have hfz22_1 := blk_frozen BK193.out 1
     have hfz22_2 := blk_frozen BK193.out 2
     go_wp2_with (first | (go_at_call 27; (with_reducible refine (cleanseref27_Vertices.calls k2 _ _ (rd_L1 l0_2 x3_2) a0_0 true _ ?side1 ?side2 A14.out).mono ?_); (case side1 => repeat (first | exact (Kd.C_below HR195_0.out HB.out) | (with_reducible refine Kd.C_alloc ?_ _) | (with_reducible refine Kd.C_drewN ?_ _) | (with_reducible refine Kd.C_drew ?_))); (case side2 => exact HC195_0.out); rintro e w' ⟨rfl, ⟨nd, rfl⟩⟩))
     go_meet
     case rel => exact ⟨_, (false), (by first | rfl | (simp; done) | (simp [*]; done)), H', ⟨by have := HJ1.out; have := HK2.out; first | omega | exact Nat.le_refl _⟩, ⟨by (with_reducible repeat (first | refine blk_drewN ?_ _ | refine blk_drew ?_ | refine blk_alloc ?_ _)); exact BK193.out⟩, ⟨by repeat (first | (with_reducible first | exact HB.out | apply below_alloc | apply pw_below_drewN | apply below_drew1 | refine below_set ?_ GE193.out) | exact HB.out)⟩⟩
    replace c15 := Bool.eq_false_iff.mpr c15
    subst c15
    have H1 : (cleanseref27_Valid.j2 k2 x3_2 (rd_L1 l0_2 x3_2) true a0_0 l0_1 l0_2) = some r := by rw [if_neg (show ¬ (false = true) by decide)] at H; exact H
    clear H
    have H := H1
    clear H1
    have H' := Aside0.mk H
    clear H
    have hcz23_0 : wr.cell? ⟨gb193, 0, none⟩ = some (.int .i64 a0_0) := (blk_cell BK193.out 0).trans rfl
    have hcz23_1 : wr.cell? ⟨gb193, 1, none⟩ = some (.slice A0_1 l0_1.length c0_1) := (blk_cell BK193.out 1).trans rfl
    have hcz23_2 : wr.cell? ⟨gb193, 2, none⟩ = some (.slice (some ad195) l0_2.length c0_2) := (blk_cell BK193.out 2).trans rfl
    have hfz23_0 := blk_frozen BK193.out 0
    have hfz23_1 := blk_frozen BK193.out 1
    have hfz23_2 := blk_frozen BK193.out 2
    go_wp2_with (first | (go_at_call 27; (with_reducible refine (cleanseref27_Vertices.calls k2 _ _ (rd_L1 l0_2 x3_2) a0_0 false _ ?side1 ?side2 A14.out).mono ?_); (case side1 => repeat (first | exact (Kd.C_below HR195_0.out HB.out) | (with_reducible refine Kd.C_alloc ?_ _) | (with_reducible refine Kd.C_drewN ?_ _) | (with_reducible refine Kd.C_drew ?_))); (case side2 => exact HC195_0.out); rintro e w' ⟨rfl, ⟨nd, rfl⟩⟩))
    go_meet
    case rel => exact ⟨_, (true), (by first | rfl | (simp; done) | (simp [*]; done)), H', ⟨by have := HJ1.out; have := HK2.out; first | omega | exact Nat.le_refl _⟩, ⟨by (with_reducible repeat (first | refine blk_drewN ?_ _ | refine blk_drew ?_ | refine blk_alloc ?_ _)); exact BK193.out⟩, ⟨by repeat (first | (with_reducible first | exact HB.out | apply below_alloc | apply pw_below_drewN | apply below_drew1 | refine below_set ?_ GE193.out) | exact HB.out)⟩⟩
   clear HC11
   try clear c1
   try clear p1
   try clear q1
   try clear hx1
   try clear c2
   try clear p2
   try clear c5
   try clear p6
   try clear c8
   try clear c9
   try clear c9b0
   try clear c10
   try clear c10b0
   try clear c13
   try clear c13b0
   try clear c13b1
   try clear c13b2
   try clear c15
   try clear c16
   try clear c16b0
   try clear c18
   try clear c18b0
   try clear c19
   try clear c19b0
   try clear p19
   try clear q19
   try clear hx19
   try clear hcz12_0
   try clear hcz12_1
   try clear hcz12_2
   try clear hcz21_0
   try clear hcz21_1
   try clear hcz21_2
   try clear hcz22_0
   try clear hcz22_1
   try clear hcz22_2
   try clear hcz23_0
   try clear hcz23_1
   try clear hcz23_2
   try clear hcz6_0
   try clear hcz6_1
   try clear hcz6_2
   try clear hcz7_0
   try clear hcz7_1
   try clear hcz7_2
   try clear hfz12_0
   try clear hfz12_1
   try clear hfz12_2
   try clear hfz21_0
   try clear hfz21_1
   try clear hfz21_2
   try clear hfz22_0
   try clear hfz22_1
   try clear hfz22_2
   try clear hfz23_0
   try clear hfz23_1
   try clear hfz23_2
   try clear hfz6_0
   try clear hfz6_1
   try clear hfz6_2
   try clear hfz7_0
   try clear hfz7_1
   try clear hfz7_2
   try clear hx195_0
   try clear hx197_0
   try clear p195
   try clear p197
   try clear p2
   try clear q195
   try clear q197
   obtain ⟨kq, x54_10, rfl, HA, HJ10, BK193, HB⟩ := hcut
   obtain ⟨kj10, rfl⟩ : ∃ m, kq = m + 1 := by (cases kq with | zero => exact absurd HA.out (by simp [cleanseref27_Valid.j2]) | succ m => exact ⟨m, rfl⟩)
   have H := HA.out
   clear HA
   simp only [cleanseref27_Valid.j2] at H
   by_cases c24 : x54_10 = true
   ·
    subst c24
    have H1 : (some false) = some r := by rw [if_pos rfl] at H; exact H
    clear H
    have H := H1
    clear H1
    obtain rfl := Option.some.inj H
    go_wp2
    go_ret
    exact ⟨by first | rfl | (simp [errW_none, errW_some] <;> rfl) | (simp [*, errW_none, errW_some] <;> rfl), by repeat (first | (with_reducible first | exact HB.out | apply below_alloc | apply pw_below_drewN | apply below_drew1 | refine below_set ?_ GE193.out) | exact HB.out)⟩
   replace c24 := Bool.eq_false_iff.mpr c24
   subst c24
   have H1 : (cleanseref27_Valid.l1 kj10 x3_2 (rd_L1 l0_2 x3_2) 0 a0_0 l0_1 l0_2) = some r := by rw [if_neg (show ¬ (false = true) by decide)] at H; exact H
   clear H
   have H := H1
   clear H1
   have H' := Aside0.mk H
   clear H
   go_wp2
   go_loopg [5] kj10 (fun kq v5 w' => ∃ (x5_4 : Int), v5 = .int .i64 x5_4 ∧ Aside0 (cleanseref27_Valid.l1 kq x3_2 (rd_L1 l0_2 x3_2) x5_4 a0_0 l0_1 l0_2 = some r) ∧ Aside0 (kq ≤ kj10) ∧ Aside0 (w'.heap[gb193]? = some (.cells #[.int .i64 a0_0, (.slice A0_1 l0_1.length c0_1), (.slice (some ad195) l0_2.length c0_2)] 25 (0, 0))) ∧ Aside0 (Below w.heap.size w w'))
   case atStart => exact ⟨(0), (by first | rfl | (simp; done) | (simp [*]; done)), H', ⟨Nat.le_refl _⟩, ⟨by (with_reducible repeat (first | refine blk_drewN ?_ _ | refine blk_drew ?_ | refine blk_alloc ?_ _)); exact BK193.out⟩, ⟨by repeat (first | (with_reducible first | exact HB.out | apply below_alloc | apply pw_below_drewN | apply below_drew1 | refine below_set ?_ GE193.out) | exact HB.out)⟩⟩
   clear H'
   try clear c1
   try clear p1
   try clear q1
   try clear hx1
   try clear c2
   try clear p2
   try clear c5
   try clear p6
   try clear c8
   try clear c9
   try clear c9b0
   try clear c10
   try clear c10b0
   try clear c13
   try clear c13b0
   try clear c13b1
   try clear c13b2
   try clear c15
   try clear c16
   try clear c16b0
   try clear c18
   try clear c18b0
   try clear c19
   try clear c19b0
   try clear p19
   try clear q19
   try clear hx19
   try clear c24
   try clear hcz12_0
   try clear hcz12_1
   try clear hcz12_2
   try clear hcz21_0
   try clear hcz21_1
   try clear hcz21_2
   try clear hcz22_0
   try clear hcz22_1
   try clear hcz22_2
   try clear hcz23_0
   try clear hcz23_1
   try clear hcz23_2
   try clear hcz6_0
   try clear hcz6_1
   try clear hcz6_2
   try clear hcz7_0
   try clear hcz7_1
   try clear hcz7_2
   try clear hfz12_0
   try clear hfz12_1
   try clear hfz12_2
   try clear hfz21_0
   try clear hfz21_1
   try clear hfz21_2
   try clear hfz22_0
   try clear hfz22_1
   try clear hfz22_2
   try clear hfz23_0
   try clear hfz23_1
   try clear hfz23_2
   try clear hfz6_0
   try clear hfz6_1
   try clear hfz6_2
   try clear hfz7_0
   try clear hfz7_1
   try clear hfz7_2
   try clear hx195_0
   try clear hx197_0
   try clear p1
   try clear p19
   try clear p195
   try clear p197
   try clear p2
   try clear p6
   try clear q1
   try clear q19
   try clear q195
   try clear q197
   obtain ⟨x5_4, rfl, HA, HK4, BK193, HB⟩ := hrel
   obtain ⟨k4, rfl⟩ : ∃ m, gk = m + 1 := by (cases gk with | zero => exact absurd HA.out (by simp [cleanseref27_Valid.l1]) | succ m => exact ⟨m, rfl⟩)
   have H := HA.out
   clear HA
   simp only [cleanseref27_Valid.l1] at H
   by_cases c25 : x5_4 < (l0_2.length : Int)
   ·
    rw [if_pos c25] at H
    have c25b0 : decide (x5_4 < (l0_2.length : Int)) = true := decide_eq_true c25
    clear c25
    by_cases c26 : x5_4 = x3_2
    ·
     rw [if_pos c26] at H
     have c26b0 : (x5_4 == x3_2) = true := beq_iff_eq.mpr c26
     have c26b1 : (x5_4 != x3_2) = false := bne_eq_false_iff_eq.mpr c26
     clear c26
     have H' := Aside0.mk H
     clear H
     have hcz27_0 : wr.cell? ⟨gb193, 0, none⟩ = some (.int .i64 a0_0) := (blk_cell BK193.out 0).trans rfl
     have hcz27_1 : wr.cell? ⟨gb193, 1, none⟩ = some (.slice A0_1 l0_1.length c0_1) := (blk_cell BK193.out 1).trans rfl
     have hcz27_2 : wr.cell? ⟨gb193, 2, none⟩ = some (.slice (some ad195) l0_2.length c0_2) := (blk_cell BK193.out 2).trans rfl
     have hfz27_0 := blk_frozen BK193.out 0
     have hfz27_1 := blk_frozen BK193.out 1
     have hfz27_2 := blk_frozen BK193.out 2
     go_wp2
     go_roundg k4
     case measure => have := HJ1.out; have := HK2.out; have := HJ10.out; have := HK4.out; omega
     case rel => exact ⟨(wrap64 (x5_4 + 1)), (by first | rfl | (simp; done) | (simp [*]; done)), H', ⟨by have := HJ1.out; have := HK2.out; have := HJ10.out; have := HK4.out; omega⟩, ⟨by (with_reducible repeat (first | refine blk_drewN ?_ _ | refine blk_drew ?_ | refine blk_alloc ?_ _)); exact BK193.out⟩, ⟨by repeat (first | (with_reducible first | exact HB.out | apply below_alloc | apply pw_below_drewN | apply below_drew1 | refine below_set ?_ GE193.out) | exact HB.out)⟩⟩
    rw [if_neg c26] at H
    have c26b0 : (x5_4 == x3_2) = false := beq_eq_false_iff_ne.mpr c26
    have c26b1 : (x5_4 != x3_2) = true := bne_iff_ne.mpr c26
    by_cases c28 : 0 ≤ x5_4
    ·
     rw [if_pos c28] at H
     have c28b0 : decide (0 ≤ x5_4) = true := decide_eq_true c28
     clear c28
     replace H := Option.bind_eq_some_iff.mp H
     obtain ⟨t200, A290, H⟩ := H
     replace H : (if t200 = true then (some false) else (cleanseref27_Valid.l1 k4 x3_2 (rd_L1 l0_2 x3_2) (wrap64 (x5_4 + 1)) a0_0 l0_1 l0_2)) = some r := H
     have A29 := Aside0.mk A290
     clear A290
     by_cases c30 : t200 = true
     ·
      subst c30
      have H1 : (some false) = some r := by rw [if_pos rfl] at H; exact H
      clear H
      have H := H1
      clear H1
      obtain rfl := Option.some.inj H
      have hcz31_0 : wr.cell? ⟨gb193, 0, none⟩ = some (.int .i64 a0_0) := (blk_cell BK193.out 0).trans rfl
      have hcz31_1 : wr.cell? ⟨gb193, 1, none⟩ = some (.slice A0_1 l0_1.length c0_1) := (blk_cell BK193.out 1).trans rfl
      have hcz31_2 : wr.cell? ⟨gb193, 2, none⟩ = some (.slice (some ad195) l0_2.length c0_2) := (blk_cell BK193.out 2).trans rfl
      have hfz31_0 := blk_frozen BK193.out 0
      have hfz31_1 := blk_frozen BK193.out 1
      have hfz31_2 := blk_frozen BK193.out 2
      have p199 : 0 ≤ (x5_4 : Int) := of_decide_eq_true (by first | (with_reducible assumption) | assumption)
      have q199 : x5_4 < (l0_2.length : Int) := of_decide_eq_true (by first | (with_reducible assumption) | assumption)
      obtain ⟨ad199, A199_0, c199_0, e199, hx199_0, hl199_0, hi199_0⟩ := at_L1 HR0_2.out x5_4 p199 q199
      obtain rfl : ad195 = ad199 := (by injection e199)
      replace hx199_0 := (HB.out.cell (World.block_lt_of_cell? w _ hx199_0)).trans hx199_0
      have HR199_0 := Aside0.mk hi199_0
      have HC199_0 := Aside0.mk hl199_0
      clear hi199_0 hl199_0
      replace p199 := eq_true p199
      replace q199 := eq_true q199
      go_wp2_with (first | (go_at_call 32; (with_reducible refine (cleanseref27_Contains.calls k4 _ _ (rd_L1 l0_2 x3_2) _ _ (rd_L1 l0_2 x5_4) true _ ?side1 ?side2 ?side3 ?side4 A29.out).mono ?_); (case side1 => repeat (first | exact (Kd.C_below HR195_0.out HB.out) | (with_reducible refine Kd.C_alloc ?_ _) | (with_reducible refine Kd.C_drewN ?_ _) | (with_reducible refine Kd.C_drew ?_))); (case side2 => exact HC195_0.out); (case side3 => repeat (first | exact (Kd.C_below HR199_0.out HB.out) | (with_reducible refine Kd.C_alloc ?_ _) | (with_reducible refine Kd.C_drewN ?_ _) | (with_reducible refine Kd.C_drew ?_))); (case side4 => exact HC199_0.out); rintro e w' ⟨rfl, ⟨nd, rfl⟩⟩))
      go_ret
      exact ⟨by first | rfl | (simp [errW_none, errW_some] <;> rfl) | (simp [*, errW_none, errW_some] <;> rfl), by repeat (first | (with_reducible first | exact HB.out | apply below_alloc | apply pw_below_drewN | apply below_drew1 | refine below_set ?_ GE193.out) | exact HB.out)⟩
     replace c30 := Bool.eq_false_iff.mpr c30
     subst c30
     have H1 : (cleanseref27_Valid.l1 k4 x3_2 (rd_L1 l0_2 x3_2) (wrap64 (x5_4 + 1)) a0_0 l0_1 l0_2) = some r := by rw [if_neg (show ¬ (false = true) by decide)] at H; exact H
     clear H
     have H := H1
     clear H1
     have H' := Aside0.mk H
     clear H
     have hcz32_0 : wr.cell? ⟨gb193, 0, none⟩ = some (.int .i64 a0_0) := (blk_cell BK193.out 0).trans rfl
     have hcz32_1 : wr.cell? ⟨gb193, 1, none⟩ = some (.slice A0_1 l0_1.length c0_1) := (blk_cell BK193.out 1).trans rfl
     have hcz32_2 : wr.cell? ⟨gb193, 2, none⟩ = some (.slice (some ad195) l0_2.length c0_2) := (blk_cell BK193.out 2).trans rfl
     have hfz32_0 := blk_frozen BK193.out 0
     have hfz32_1 := blk_frozen BK193.out 1
     have hfz32_2 := blk_frozen BK193.out 2
     have p199 : 0 ≤ (x5_4 : Int) := of_decide_eq_true (by first | (with_reducible assumption) | assumption)
     have q199 : x5_4 < (l0_2.length : Int) := of_decide_eq_true (by first | (with_reducible assumption) | assumption)
     obtain ⟨ad199, A199_0, c199_0, e199, hx199_0, hl199_0, hi199_0⟩ := at_L1 HR0_2.out x5_4 p199 q199
     obtain rfl : ad195 = ad199 := (by injection e199)
     replace hx199_0 := (HB.out.cell (World.block_lt_of_cell? w _ hx199_0)).trans hx199_0
     have HR199_0 := Aside0.mk hi199_0
     have HC199_0 := Aside0.mk hl199_0
     clear hi199_0 hl199_0
     replace p199 := eq_true p199
     replace q199 := eq_true q199
     go_wp2_with (first | (go_at_call 32; (with_reducible refine (cleanseref27_Contains.calls k4 _ _ (rd_L1 l0_2 x3_2) _ _ (rd_L1 l0_2 x5_4) false _ ?side1 ?side2 ?side3 ?side4 A29.out).mono ?_); (case side1 => repeat (first | exact (Kd.C_below HR195_0.out HB.out) | (with_reducible refine Kd.C_alloc ?_ _) | (with_reducible refine Kd.C_drewN ?_ _) | (with_reducible refine Kd.C_drew ?_))); (case side2 => exact HC195_0.out); (case side3 => repeat (first | exact (Kd.C_below HR199_0.out HB.out) | (with_reducible refine Kd.C_alloc ?_ _) | (with_reducible refine Kd.C_drewN ?_ _) | (with_reducible refine Kd.C_drew ?_))); (case side4 => exact HC199_0.out); rintro e w' ⟨rfl, ⟨nd, rfl⟩⟩))
     go_roundg k4
     case measure => have := HJ1.out; have := HK2.out; have := HJ10.out; have := HK4.out; omega
     case rel => exact ⟨(wrap64 (x5_4 + 1)), (by first | rfl | (simp; done) | (simp [*]; done)), H', ⟨by have := HJ1.out; have := HK2.out; have := HJ10.out; have := HK4.out; omega⟩, ⟨by (with_reducible repeat (first | refine blk_drewN ?_ _ | refine blk_drew ?_ | refine blk_alloc ?_ _)); exact BK193.out⟩, ⟨by repeat (first | (with_reducible first | exact HB.out | apply below_alloc | apply pw_below_drewN | apply below_drew1 | refine below_set ?_ GE193.out) | exact HB.out)⟩⟩
    rw [if_neg c28] at H
    exact absurd H (by simp)
   rw [if_neg c25] at H
   have c25b0 : decide (x5_4 < (l0_2.length : Int)) = false := decide_eq_false c25
   clear c25
   have H' := Aside0.mk H
   clear H
   have hcz33_0 : wr.cell? ⟨gb193, 0, none⟩ = some (.int .i64 a0_0) := (blk_cell BK193.out 0).trans rfl
   have hcz33_1 : wr.cell? ⟨gb193, 1, none⟩ = some (.slice A0_1 l0_1.length c0_1) := (blk_cell BK193.out 1).trans rfl
   have hcz33_2 : wr.cell? ⟨gb193, 2, none⟩ = some (.slice (some ad195) l0_2.length c0_2) := (blk_cell BK193.out 2).trans rfl
   have hfz33_0 := blk_frozen BK193.out 0
   have hfz33_1 := blk_frozen BK193.out 1
   have hfz33_2 := blk_frozen BK193.out 2
   go_wp2
   go_roundg k4
   case measure => have := HJ1.out; have := HK2.out; have := HJ10.out; have := HK4.out; omega
   case rel => exact ⟨(wrap64 (x3_2 + 1)), (by first | rfl | (simp; done) | (simp [*]; done)), H', ⟨by have := HJ1.out; have := HK2.out; have := HJ10.out; have := HK4.out; omega⟩, ⟨by (with_reducible repeat (first | refine blk_drewN ?_ _ | refine blk_drew ?_ | refine blk_alloc ?_ _)); exact BK193.out⟩, ⟨by repeat (first | (with_reducible first | exact HB.out | apply below_alloc | apply pw_below_drewN | apply below_drew1 | refine below_set ?_ GE193.out) | exact HB.out)⟩⟩
  rw [if_neg c10] at H
  exact absurd H (by simp)
 rw [if_neg c9] at H
 have c9b0 : decide (x3_2 < (l0_2.length : Int)) = false := decide_eq_false c9
 clear c9
 obtain rfl := Option.some.inj H
 have hcz34_0 : wr.cell? ⟨gb193, 0, none⟩ = some (.int .i64 a0_0) := (blk_cell BK193.out 0).trans rfl
 have hcz34_1 : wr.cell? ⟨gb193, 1, none⟩ = some (.slice A0_1 l0_1.length c0_1) := (blk_cell BK193.out 1).trans rfl
 have hcz34_2 : wr.cell? ⟨gb193, 2, none⟩ = some (.slice A0_2 l0_2.length c0_2) := (blk_cell BK193.out 2).trans rfl
 have hfz34_0 := blk_frozen BK193.out 0
 have hfz34_1 := blk_frozen BK193.out 1
 have hfz34_2 := blk_frozen BK193.out 2
 go_wp2
 go_ret
 exact ⟨by first | rfl | (simp [errW_none, errW_some] <;> rfl) | (simp [*, errW_none, errW_some] <;> rfl), by repeat (first | (with_reducible first | exact HB.out | apply below_alloc | apply pw_below_drewN | apply below_drew1 | refine below_set ?_ GE193.out) | exact HB.out)⟩
end Go.Proofs.YtgjbnmobhafajaaGreatDoor.Hy
end
end
