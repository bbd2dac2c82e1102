/- The texts of this claim, HyComp. -/
import Derived.Test.YtgjbnmobhafajaaDoorQsRf
set_option linter.unusedVariables false
set_option linter.unusedSimpArgs false
section
noncomputable section
namespace Go.Proofs.YtgjbnmobhafajaaDoor.Hy
open Go.RowKit Go.Proofs.YtgjbnmobhafajaaDoorW.PrintWords Go.Proofs.YtgjbnmobhafajaaDoorW.PrintLast
attribute [local go_sem] max2_int min2_int max_two min_two
set_option linter.unusedVariables false
set_option linter.unusedSimpArgs false
mutual
def cleanselaw27_HyperComponents.l0 : Nat → List Int → Bool → List (List Int) → List Int → Int → Int → List Int → List (List Int) → Option (Bool)
  | 0, _, _, _, _, _, _, _, _ => none
  | k + 1, x1, x5, x6, x7, x8, x252000, x252001, x252002 => if x8 < x252000 then (if 0 ≤ x8 then (if x8 < (x7.length : Int) then (cleanselaw27_HyperComponents.l0 k x1 x5 x6 (x7.set (x8 : Int).toNat (-1)) (wrap64 (x8 + 1)) x252000 x252001 x252002) else (none)) else (none)) else (cleanselaw27_HyperComponents.l1 k x1 x5 x6 x7 0 0 x252000 x252001 x252002)
def cleanselaw27_HyperComponents.l1 : Nat → List Int → Bool → List (List Int) → List Int → Int → Int → Int → List Int → List (List Int) → Option (Bool)
  | 0, _, _, _, _, _, _, _, _, _ => none
  | k + 1, x1, x5, x6, x7, x9, x10, x252000, x252001, x252002 => if x10 < (x6.length : Int) then (if 0 ≤ x10 then (if ((rd_L1 x6 x10).length : Int) = 0 then (cleanselaw27_HyperComponents.j2 k x1 x5 x6 x7 x9 x10 true x252000 x252001 x252002) else ((cleanseref27_Vertices.f k (rd_L1 x6 x10) x252000).bind fun t264 => (if t264 = true then (if x10 > 0 then (if 0 < ((rd_L1 x6 x10).length : Int) then (if 0 ≤ (wrap64 (x10 - 1)) then (if (wrap64 (x10 - 1)) < (x6.length : Int) then (if 0 < ((rd_L1 x6 (wrap64 (x10 - 1))).length : Int) then (cleanselaw27_HyperComponents.j2 k x1 x5 x6 x7 x9 x10 (decide ((rd (rd_L1 x6 x10) 0) ≤ (rd (rd_L1 x6 (wrap64 (x10 - 1))) 0))) x252000 x252001 x252002) else (none)) else (none)) else (none)) else (none)) else (cleanselaw27_HyperComponents.j2 k x1 x5 x6 x7 x9 x10 false x252000 x252001 x252002)) else (cleanselaw27_HyperComponents.j2 k x1 x5 x6 x7 x9 x10 true x252000 x252001 x252002)))) else (none)) else (if x9 = x252000 then (cleanselaw27_HyperComponents.l3 k x1 x5 x6 x7 (decide ((x1.length : Int) ≥ x252000)) 0 x252000 x252001 x252002) else (some false))
def cleanselaw27_HyperComponents.j2 : Nat → List Int → Bool → List (List Int) → List Int → Int → Int → Bool → Int → List Int → List (List Int) → Option (Bool)
  | 0, _, _, _, _, _, _, _, _, _, _ => none
  | k + 1, x1, x5, x6, x7, x9, x10, x88, x252000, x252001, x252002 => if x88 = true then (some false) else (cleanselaw27_HyperComponents.l2 k x1 x5 x6 x7 x9 x10 0 x252000 x252001 x252002)
def cleanselaw27_HyperComponents.l2 : Nat → List Int → Bool → List (List Int) → List Int → Int → Int → Int → Int → List Int → List (List Int) → Option (Bool)
  | 0, _, _, _, _, _, _, _, _, _, _ => none
  | k + 1, x1, x5, x6, x7, x9, x10, x11, x252000, x252001, x252002 => if 0 ≤ x10 then (if x10 < (x6.length : Int) then (if x11 < ((rd_L1 x6 x10).length : Int) then (if 0 ≤ x11 then (if 0 ≤ (rd (rd_L1 x6 x10) x11) then (if (rd (rd_L1 x6 x10) x11) < (x7.length : Int) then (if (rd x7 (rd (rd_L1 x6 x10) x11)) ≥ 0 then (some false) else (cleanselaw27_HyperComponents.l2 k x1 x5 x6 (x7.set ((rd (rd_L1 x6 x10) x11) : Int).toNat x10) (wrap64 (x9 + 1)) x10 (wrap64 (x11 + 1)) x252000 x252001 x252002)) else (none)) else (none)) else (none)) else (cleanselaw27_HyperComponents.l1 k x1 x5 x6 x7 x9 (wrap64 (x10 + 1)) x252000 x252001 x252002)) else (none)) else (none)
def cleanselaw27_HyperComponents.l3 : Nat → List Int → Bool → List (List Int) → List Int → Bool → Int → Int → List Int → List (List Int) → Option (Bool)
  | 0, _, _, _, _, _, _, _, _, _ => none
  | k + 1, x1, x5, x6, x7, x12, x13, x252000, x252001, x252002 => if x13 < (x252002.length : Int) then (cleanselaw27_HyperComponents.l4 k x1 x5 x6 x7 x12 x13 1 x252000 x252001 x252002) else (cleanselaw27_HyperComponents.l5 k x1 x5 x6 x12 0)
def cleanselaw27_HyperComponents.l4 : Nat → List Int → Bool → List (List Int) → List Int → Bool → Int → Int → Int → List Int → List (List Int) → Option (Bool)
  | 0, _, _, _, _, _, _, _, _, _, _ => none
  | k + 1, x1, x5, x6, x7, x12, x13, x14, x252000, x252001, x252002 => if 0 ≤ x13 then (if x13 < (x252002.length : Int) then (if x14 < ((rd_L1 x252002 x13).length : Int) then (if 0 ≤ (wrap64 (x14 - 1)) then (if (wrap64 (x14 - 1)) < ((rd_L1 x252002 x13).length : Int) then (if 0 ≤ x14 then (if 0 ≤ (rd (rd_L1 x252002 x13) (wrap64 (x14 - 1))) then (if (rd (rd_L1 x252002 x13) (wrap64 (x14 - 1))) < (x7.length : Int) then (if 0 ≤ (rd (rd_L1 x252002 x13) x14) then (if (rd (rd_L1 x252002 x13) x14) < (x7.length : Int) then (if (rd x7 (rd (rd_L1 x252002 x13) (wrap64 (x14 - 1)))) = (rd x7 (rd (rd_L1 x252002 x13) x14)) then (if x12 = true then (if (rd (rd_L1 x252002 x13) (wrap64 (x14 - 1))) < (x1.length : Int) then (if (rd (rd_L1 x252002 x13) x14) < (x1.length : Int) then (cleanselaw27_HyperComponents.l4 k x1 x5 x6 x7 ((rd x1 (rd (rd_L1 x252002 x13) (wrap64 (x14 - 1)))) == (rd x1 (rd (rd_L1 x252002 x13) x14))) x13 (wrap64 (x14 + 1)) x252000 x252001 x252002) else (none)) else (none)) else (cleanselaw27_HyperComponents.l4 k x1 x5 x6 x7 false x13 (wrap64 (x14 + 1)) x252000 x252001 x252002)) else (some false)) else (none)) else (none)) else (none)) else (none)) else (none)) else (none)) else (none)) else (cleanselaw27_HyperComponents.l3 k x1 x5 x6 x7 x12 (wrap64 (x13 + 1)) x252000 x252001 x252002)) else (none)) else (none)
def cleanselaw27_HyperComponents.l5 : Nat → List Int → Bool → List (List Int) → Bool → Int → Option (Bool)
  | 0, _, _, _, _, _ => none
  | k + 1, x1, x5, x6, x12, x17 => if x17 < (x6.length : Int) then (cleanselaw27_HyperComponents.j7 k x1 x5 x6 x12 x17 x12) else (cleanselaw27_HyperComponents.j7 k x1 x5 x6 x12 x17 false)
def cleanselaw27_HyperComponents.j7 : Nat → List Int → Bool → List (List Int) → Bool → Int → Bool → Option (Bool)
  | 0, _, _, _, _, _, _ => none
  | k + 1, x1, x5, x6, x12, x17, x191 => if x191 = true then (cleanselaw27_HyperComponents.l6 k x1 x5 x6 x12 x17 0) else (some x5)
def cleanselaw27_HyperComponents.l6 : Nat → List Int → Bool → List (List Int) → Bool → Int → Int → Option (Bool)
  | 0, _, _, _, _, _, _ => none
  | k + 1, x1, x5, x6, x12, x17, x18 => if 0 ≤ x17 then (if x17 < (x6.length : Int) then (if x18 < ((rd_L1 x6 x17).length : Int) then (if 0 ≤ x18 then (if 0 ≤ (rd (rd_L1 x6 x17) x18) then (if (rd (rd_L1 x6 x17) x18) < (x1.length : Int) then (if 0 < ((rd_L1 x6 x17).length : Int) then (if 0 ≤ (rd (rd_L1 x6 x17) 0) then (if (rd (rd_L1 x6 x17) 0) < (x1.length : Int) then (if (rd x1 (rd (rd_L1 x6 x17) x18)) = (rd x1 (rd (rd_L1 x6 x17) 0)) then (cleanselaw27_HyperComponents.l6 k x1 x5 x6 x12 x17 (wrap64 (x18 + 1))) else (some false)) else (none)) else (none)) else (none)) else (none)) else (none)) else (none)) else (cleanselaw27_HyperComponents.l5 k x1 x5 x6 x12 (wrap64 (x17 + 1)))) else (none)) else (none)
end
def cleanselaw27_HyperComponents.f (k : Nat) (a0_0 : Int) (l0_1 : List Int) (l0_2 : List (List Int)) (l1 : List Int) : Option (Bool) := (cleanselaw27_head.f).bind fun t252 => ((cleanseref27_Small.f k a0_0 l0_1 l0_2 100 80).bind fun t253 => (if t253 = true then ((hyper_Components.f a0_0 l0_1 l0_2).bind fun t254 => ((hyper_Valid.f a0_0 l0_1 l0_2).bind fun t257 => (if t257 = true then (if 0 ≤ a0_0 then (if (a0_0 : Int).toNat ≤ 35184372088832 then (cleanselaw27_HyperComponents.l0 k l1 t252 t254 (List.replicate (a0_0 : Int).toNat 0) 0 a0_0 l0_1 l0_2) else (none)) else (none)) else (if t252 = true then (some ((t254.length : Int) == 0)) else (some false))))) else (some t252)))
set_option maxHeartbeats 8000000 in
set_option maxRecDepth 100000 in
theorem cleanselaw27_HyperComponents.calls (k : Nat) (a0_0 : Int) (A0_1 : Option Addr) (c0_1 : Nat) (l0_1 : List Int) (A0_2 : Option Addr) (c0_2 : Nat) (l0_2 : List (List Int)) (A1 : Option Addr) (c1 : Nat) (l1 : List Int) (r : Bool) (w : World) (hr0_1 : Kd.C (Kd.int .i64) w A0_1 l0_1.length l0_1) (hc0_1 : l0_1.length ≤ c0_1) (hr0_2 : Kd.C (Kd.slice 3 (Kd.int .i64)) w A0_2 l0_2.length l0_2) (hc0_2 : l0_2.length ≤ c0_2) (hr1 : Kd.C (Kd.int .u8) w A1 l1.length l1) (hc1 : l1.length ≤ c1) (h : cleanselaw27_HyperComponents.f k a0_0 l0_1 l0_2 l1 = some r) :
    Calls Tryd.prog 6 #[.agg #[.int .i64 a0_0, .slice A0_1 l0_1.length c0_1, .slice A0_2 l0_2.length c0_2], .slice A1 l1.length c1] w fun e w' => e = .returned (.bool r) ∧ Below w.heap.size w w' := by
 have hu33 := Tryd.underlying33
 have HR0_1 := Aside0.mk hr0_1
 have HC0_1 := Aside0.mk hc0_1
 clear hr0_1 hc0_1
 have HR0_2 := Aside0.mk hr0_2
 have HC0_2 := Aside0.mk hc0_2
 clear hr0_2 hc0_2
 have HR1 := Aside0.mk hr1
 have HC1 := Aside0.mk hc1
 clear hr1 hc1
 have HB := Aside0.mk (Below.refl w.heap.size w)
 have H : ((cleanselaw27_head.f).bind fun t252 => ((cleanseref27_Small.f k a0_0 l0_1 l0_2 100 80).bind fun t253 => (if t253 = true then ((hyper_Components.f a0_0 l0_1 l0_2).bind fun t254 => ((hyper_Valid.f a0_0 l0_1 l0_2).bind fun t257 => (if t257 = true then (if 0 ≤ a0_0 then (if (a0_0 : Int).toNat ≤ 35184372088832 then (cleanselaw27_HyperComponents.l0 k l1 t252 t254 (List.replicate (a0_0 : Int).toNat 0) 0 a0_0 l0_1 l0_2) else (none)) else (none)) else (if t252 = true then (some ((t254.length : Int) == 0)) else (some false))))) else (some t252)))) = some r := h
 clear h
 replace H := Option.bind_eq_some_iff.mp H
 obtain ⟨t252, A30, H⟩ := H
 replace H : ((cleanseref27_Small.f k a0_0 l0_1 l0_2 100 80).bind fun t253 => (if t253 = true then ((hyper_Components.f a0_0 l0_1 l0_2).bind fun t254 => ((hyper_Valid.f a0_0 l0_1 l0_2).bind fun t257 => (if t257 = true then (if 0 ≤ a0_0 then (if (a0_0 : Int).toNat ≤ 35184372088832 then (cleanselaw27_HyperComponents.l0 k l1 t252 t254 (List.replicate (a0_0 : Int).toNat 0) 0 a0_0 l0_1 l0_2) else (none)) else (none)) else (if t252 = true then (some ((t254.length : Int) == 0)) else (some false))))) else (some t252))) = some r := H
 have A3 := Aside0.mk A30
 clear A30
 replace H := Option.bind_eq_some_iff.mp H
 obtain ⟨t253, A40, H⟩ := H
 replace H : (if t253 = true then ((hyper_Components.f a0_0 l0_1 l0_2).bind fun t254 => ((hyper_Valid.f a0_0 l0_1 l0_2).bind fun t257 => (if t257 = true then (if 0 ≤ a0_0 then (if (a0_0 : Int).toNat ≤ 35184372088832 then (cleanselaw27_HyperComponents.l0 k l1 t252 t254 (List.replicate (a0_0 : Int).toNat 0) 0 a0_0 l0_1 l0_2) else (none)) else (none)) else (if t252 = true then (some ((t254.length : Int) == 0)) else (some false))))) else (some t252)) = some r := H
 have A4 := Aside0.mk A40
 clear A40
 by_cases c5 : t253 = true
 ·
  subst c5
  have H1 : ((hyper_Components.f a0_0 l0_1 l0_2).bind fun t254 => ((hyper_Valid.f a0_0 l0_1 l0_2).bind fun t257 => (if t257 = true then (if 0 ≤ a0_0 then (if (a0_0 : Int).toNat ≤ 35184372088832 then (cleanselaw27_HyperComponents.l0 k l1 t252 t254 (List.replicate (a0_0 : Int).toNat 0) 0 a0_0 l0_1 l0_2) else (none)) else (none)) else (if t252 = true then (some ((t254.length : Int) == 0)) else (some false))))) = some r := by rw [if_pos rfl] at H; exact H
  clear H
  have H := H1
  clear H1
  replace H := Option.bind_eq_some_iff.mp H
  obtain ⟨t254, A60, H⟩ := H
  replace H : ((hyper_Valid.f a0_0 l0_1 l0_2).bind fun t257 => (if t257 = true then (if 0 ≤ a0_0 then (if (a0_0 : Int).toNat ≤ 35184372088832 then (cleanselaw27_HyperComponents.l0 k l1 t252 t254 (List.replicate (a0_0 : Int).toNat 0) 0 a0_0 l0_1 l0_2) else (none)) else (none)) else (if t252 = true then (some ((t254.length : Int) == 0)) else (some false)))) = some r := H
  have A6 := Aside0.mk A60
  clear A60
  replace H := Option.bind_eq_some_iff.mp H
  obtain ⟨t257, A70, H⟩ := H
  replace H : (if t257 = true then (if 0 ≤ a0_0 then (if (a0_0 : Int).toNat ≤ 35184372088832 then (cleanselaw27_HyperComponents.l0 k l1 t252 t254 (List.replicate (a0_0 : Int).toNat 0) 0 a0_0 l0_1 l0_2) else (none)) else (none)) else (if t252 = true then (some ((t254.length : Int) == 0)) else (some false))) = some r := H
  have A7 := Aside0.mk A70
  clear A70
  by_cases c8 : t257 = true
  ·
   subst c8
   have H1 : (if 0 ≤ a0_0 then (if (a0_0 : Int).toNat ≤ 35184372088832 then (cleanselaw27_HyperComponents.l0 k l1 t252 t254 (List.replicate (a0_0 : Int).toNat 0) 0 a0_0 l0_1 l0_2) else (none)) else (none)) = some r := by rw [if_pos rfl] at H; exact H
   clear H
   have H := H1
   clear H1
   by_cases c9 : 0 ≤ a0_0
   ·
    rw [if_pos c9] at H
    have c9b0 := eq_true c9
    have c9b1 : decide (0 ≤ a0_0) = true := decide_eq_true c9
    clear c9
    by_cases c10 : (a0_0 : Int).toNat ≤ 35184372088832
    ·
     rw [if_pos c10] at H
     have c10b0 := eq_true c10
     have c10b1 : decide ((a0_0 : Int).toNat ≤ 35184372088832) = true := decide_eq_true c10
     clear c10
     obtain ⟨y258, hy258⟩ : ∃ y_ : List Int, y_ = (List.replicate (a0_0 : Int).toNat 0) := ⟨_, rfl⟩
     replace H : (cleanselaw27_HyperComponents.l0 k l1 t252 t254 y258 0 a0_0 l0_1 l0_2) = some r := by first | (rw [hy258]; with_reducible exact H) | (have H2_ := (Option.bind_some _ _).symm.trans H; rw [hy258]; with_reducible exact H2_) | (have H2_ := (Option.bind_some _ _).symm.trans H; with_reducible exact H2_) | with_reducible exact H | (rw [hy258]; exact H) | exact H
     have Ny258 := Aside0.mk hy258
     clear hy258
     have H' := Aside0.mk H
     clear H
     go_enter Tryd.func6, Tryd.ntmps6
     go_wp2_with (first | ((with_reducible refine gate_dst (N := 2) rfl ?_); (try (refine gate_guard (by rfl) ?_; dsimp only)); refine box_event ?hg (N := 2) ?hd (cs := #[.int .i64 a0_0, .slice A0_1 l0_1.length c0_1, .slice A0_2 l0_2.length c0_2]) (t := 33) ?hr ?_; (case hd => rfl); (case hg => rfl); (case hr => first | (go_simp; done) | (go_simp; rfl)); intro gb251 hg w11 hbox hb; have n0_ := Aside0.mk (below_step (by repeat with_reducible first | exact HB.out | apply below_alloc | apply pw_below_drewN | apply below_drew1) hb); have n1_ := Aside0.mk (hbox); have n2_ := Aside0.mk ((by rw [hg]; exact (below_size (by repeat with_reducible first | exact HB.out | apply below_alloc | apply pw_below_drewN | apply below_drew1)) : w.heap.size ≤ gb251)); have n3_ := Aside0.mk ((by rw [hg]; exact (below_size (by repeat with_reducible first | exact HB.out | apply below_alloc | apply pw_below_drewN | apply below_drew1)) : w.heap.size ≤ gb251)); clear HB; have HB := n0_; have BK251 := n1_; have GW251 := n2_; have GE251 := n3_; clear n0_ n1_ n2_ n3_; clear hb hbox hg) | ((with_reducible refine gate_callee (f := 9) rfl ?_); refine goesL_ (some 19) rfl rfl Tryd.func9 (by kernel_rfl) rfl #[] rfl (by (try simp only [List.map_toArray, List.map_cons, List.map_nil]); first | done | rfl | (simp only [List.length_drop, List.length_take]; rfl)) ?_; (with_reducible refine (cleanselaw27_head.calls  t252 _ A3.out).mono ?_); rintro e w12 ⟨rfl, hb⟩; refine ⟨_, rfl, ?_⟩; have n0_ := Aside0.mk (blk_below (g := gb251) (o := .cells #[.int .i64 a0_0, .slice A0_1 l0_1.length c0_1, .slice A0_2 l0_2.length c0_2] 33 (0, 0)) (by (with_reducible repeat (first | refine blk_drewN ?_ _ | refine blk_drew ?_ | refine blk_alloc ?_ _)); exact BK251.out) hb); have n1_ := Aside0.mk (below_step (by repeat (first | (with_reducible first | exact HB.out | apply below_alloc | apply pw_below_drewN | apply below_drew1 | refine below_set ?_ GE251.out) | exact HB.out)) hb); clear BK251; clear HB; have BK251 := n0_; have HB := n1_; clear n0_ n1_; (try clear hb); (try clear hb2); (try clear hk); (try clear hi); have hcz13_0 : w12.cell? ⟨gb251, 0, none⟩ = some (.int .i64 a0_0) := (blk_cell BK251.out 0).trans rfl; have hcz13_1 : w12.cell? ⟨gb251, 1, none⟩ = some (.slice A0_1 l0_1.length c0_1) := (blk_cell BK251.out 1).trans rfl; have hcz13_2 : w12.cell? ⟨gb251, 2, none⟩ = some (.slice A0_2 l0_2.length c0_2) := (blk_cell BK251.out 2).trans rfl; have hfz13_0 := blk_frozen BK251.out 0; have hfz13_1 := blk_frozen BK251.out 1; have hfz13_2 := blk_frozen BK251.out 2) | ((with_reducible refine gate_callee (f := 21) rfl ?_); refine goesL_ (some 21) rfl rfl Tryd.func21 (by kernel_rfl) rfl #[.agg #[.int .i64 a0_0, .slice A0_1 l0_1.length c0_1, .slice A0_2 l0_2.length c0_2], .int .i64 100, .int .i64 80] rfl (by (try simp only [List.map_toArray, List.map_cons, List.map_nil]); first | done | rfl | (simp only [List.length_drop, List.length_take]; rfl)) ?_; (with_reducible refine (cleanseref27_Small.calls k a0_0 _ _ l0_1 _ _ l0_2 100 80 true _ ?side1 ?side2 ?side3 ?side4 A4.out).mono ?_); (case side1 => repeat (first | exact (Kd.C_below HR0_1.out HB.out) | (with_reducible refine Kd.C_alloc ?_ _) | (with_reducible refine Kd.C_drewN ?_ _) | (with_reducible refine Kd.C_drew ?_))); (case side2 => exact HC0_1.out); (case side3 => repeat (first | exact (Kd.C_below HR0_2.out HB.out) | (with_reducible refine Kd.C_alloc ?_ _) | (with_reducible refine Kd.C_drewN ?_ _) | (with_reducible refine Kd.C_drew ?_))); (case side4 => exact HC0_2.out); rintro e w14 ⟨rfl, hb⟩; refine ⟨_, rfl, ?_⟩; have n0_ := Aside0.mk (blk_below (g := gb251) (o := .cells #[.int .i64 a0_0, .slice A0_1 l0_1.length c0_1, .slice A0_2 l0_2.length c0_2] 33 (0, 0)) (by (with_reducible repeat (first | refine blk_drewN ?_ _ | refine blk_drew ?_ | refine blk_alloc ?_ _)); exact BK251.out) hb); have n1_ := Aside0.mk (below_step (by repeat (first | (with_reducible first | exact HB.out | apply below_alloc | apply pw_below_drewN | apply below_drew1 | refine below_set ?_ GE251.out) | exact HB.out)) hb); clear BK251; clear HB; have BK251 := n0_; have HB := n1_; clear n0_ n1_; (try clear hb); (try clear hb2); (try clear hk); (try clear hi); have hcz15_0 : w14.cell? ⟨gb251, 0, none⟩ = some (.int .i64 a0_0) := (blk_cell BK251.out 0).trans rfl; have hcz15_1 : w14.cell? ⟨gb251, 1, none⟩ = some (.slice A0_1 l0_1.length c0_1) := (blk_cell BK251.out 1).trans rfl; have hcz15_2 : w14.cell? ⟨gb251, 2, none⟩ = some (.slice A0_2 l0_2.length c0_2) := (blk_cell BK251.out 2).trans rfl; have hfz15_0 := blk_frozen BK251.out 0; have hfz15_1 := blk_frozen BK251.out 1; have hfz15_2 := blk_frozen BK251.out 2) | ((with_reducible refine gate_callee (f := 22) rfl ?_); refine goesL_ (some 25) rfl rfl Tryd.func22 (by kernel_rfl) rfl #[.agg #[.int .i64 a0_0, .slice A0_1 l0_1.length c0_1, .slice A0_2 l0_2.length c0_2]] rfl (by (try simp only [List.map_toArray, List.map_cons, List.map_nil]); first | done | rfl | (simp only [List.length_drop, List.length_take]; rfl)) ?_; (with_reducible refine (hyper_Components.calls a0_0 _ _ l0_1 _ _ l0_2 t254 _ ?side1 ?side2 ?side3 ?side4 A6.out).mono ?_); (case side1 => repeat (first | exact (Kd.C_below HR0_1.out HB.out) | (with_reducible refine Kd.C_alloc ?_ _) | (with_reducible refine Kd.C_drewN ?_ _) | (with_reducible refine Kd.C_drew ?_))); (case side2 => exact HC0_1.out); (case side3 => repeat (first | exact (Kd.C_below HR0_2.out HB.out) | (with_reducible refine Kd.C_alloc ?_ _) | (with_reducible refine Kd.C_drewN ?_ _) | (with_reducible refine Kd.C_drew ?_))); (case side4 => exact HC0_2.out); rintro e w16 ⟨v255, rfl, ho0, hb⟩; refine ⟨_, rfl, ?_⟩; have n0_ := Aside0.mk (Kd.S_lower ho0 (below_size (by repeat (first | (with_reducible first | exact HB.out | apply below_alloc | apply pw_below_drewN | apply below_drew1 | refine below_set ?_ GE251.out) | exact HB.out)))); have n1_ := Aside0.mk (blk_below (g := gb251) (o := .cells #[.int .i64 a0_0, .slice A0_1 l0_1.length c0_1, .slice A0_2 l0_2.length c0_2] 33 (0, 0)) (by (with_reducible repeat (first | refine blk_drewN ?_ _ | refine blk_drew ?_ | refine blk_alloc ?_ _)); exact BK251.out) hb); have n2_ := Aside0.mk (below_step (by repeat (first | (with_reducible first | exact HB.out | apply below_alloc | apply pw_below_drewN | apply below_drew1 | refine below_set ?_ GE251.out) | exact HB.out)) hb); clear BK251; clear HB; have HO256 := n0_; have BK251 := n1_; have HB := n2_; clear n0_ n1_ n2_; (try clear hb); (try clear hb2); (try clear hk); (try clear hi); (try clear ho0); have hcz17_0 : w16.cell? ⟨gb251, 0, none⟩ = some (.int .i64 a0_0) := (blk_cell BK251.out 0).trans rfl; have hcz17_1 : w16.cell? ⟨gb251, 1, none⟩ = some (.slice A0_1 l0_1.length c0_1) := (blk_cell BK251.out 1).trans rfl; have hcz17_2 : w16.cell? ⟨gb251, 2, none⟩ = some (.slice A0_2 l0_2.length c0_2) := (blk_cell BK251.out 2).trans rfl; have hfz17_0 := blk_frozen BK251.out 0; have hfz17_1 := blk_frozen BK251.out 1; have hfz17_2 := blk_frozen BK251.out 2) | ((with_reducible refine gate_callee (f := 19) rfl ?_); refine goesL_ (some 27) rfl rfl Tryd.func19 (by kernel_rfl) rfl #[.agg #[.int .i64 a0_0, .slice A0_1 l0_1.length c0_1, .slice A0_2 l0_2.length c0_2]] rfl (by (try simp only [List.map_toArray, List.map_cons, List.map_nil]); first | done | rfl | (simp only [List.length_drop, List.length_take]; rfl)) ?_; (with_reducible refine (hyper_Valid.calls a0_0 _ _ l0_1 _ _ l0_2 true _ ?side1 ?side2 ?side3 ?side4 A7.out).mono ?_); (case side1 => repeat (first | exact (Kd.C_below HR0_1.out HB.out) | (with_reducible refine Kd.C_alloc ?_ _) | (with_reducible refine Kd.C_drewN ?_ _) | (with_reducible refine Kd.C_drew ?_))); (case side2 => exact HC0_1.out); (case side3 => repeat (first | exact (Kd.C_below HR0_2.out HB.out) | (with_reducible refine Kd.C_alloc ?_ _) | (with_reducible refine Kd.C_drewN ?_ _) | (with_reducible refine Kd.C_drew ?_))); (case side4 => exact HC0_2.out); rintro e w18 ⟨rfl, hb⟩; refine ⟨_, rfl, ?_⟩; have n0_ := Aside0.mk (Kd.S_below (by (with_reducible repeat (first | apply Kd.S_alloc | apply Kd.S_drewN | apply Kd.S_drew)); exact HO256.out) hb); have n1_ := Aside0.mk (blk_below (g := gb251) (o := .cells #[.int .i64 a0_0, .slice A0_1 l0_1.length c0_1, .slice A0_2 l0_2.length c0_2] 33 (0, 0)) (by (with_reducible repeat (first | refine blk_drewN ?_ _ | refine blk_drew ?_ | refine blk_alloc ?_ _)); exact BK251.out) hb); have n2_ := Aside0.mk (below_step (by repeat (first | (with_reducible first | exact HB.out | apply below_alloc | apply pw_below_drewN | apply below_drew1 | refine below_set ?_ GE251.out) | exact HB.out)) hb); clear HO256; clear BK251; clear HB; have HO256 := n0_; have BK251 := n1_; have HB := n2_; clear n0_ n1_ n2_; (try clear hb); (try clear hb2); (try clear hk); (try clear hi); have hcz19_0 : w18.cell? ⟨gb251, 0, none⟩ = some (.int .i64 a0_0) := (blk_cell BK251.out 0).trans rfl; have hcz19_1 : w18.cell? ⟨gb251, 1, none⟩ = some (.slice A0_1 l0_1.length c0_1) := (blk_cell BK251.out 1).trans rfl; have hcz19_2 : w18.cell? ⟨gb251, 2, none⟩ = some (.slice A0_2 l0_2.length c0_2) := (blk_cell BK251.out 2).trans rfl; have hfz19_0 := blk_frozen BK251.out 0; have hfz19_1 := blk_frozen BK251.out 1; have hfz19_2 := blk_frozen BK251.out 2) | ((with_reducible refine gate_dst (N := 37) rfl ?_); (try (refine gate_guard (by rfl) ?_; dsimp only)); refine Kd.R_make (Kd.int .i64) _ 3 rfl (N := 37) rfl 27 _ _ rfl a0_0 rfl rfl Tryd.underlying27 (.int .i64 0) 8 info3 rfl (by decide) (by omega) 0 (ok := fun _ => True) (okp := fun _ => True) rfl (fun _ hk => hk) trivial (of_decide_eq_true (by first | (with_reducible assumption) | assumption)) (Nat.le_trans (Nat.mul_le_mul_right _ (of_decide_eq_true (by first | (with_reducible assumption) | assumption) : a0_0.toNat ≤ 35184372088832)) (by omega)) (Below.refl _ _) (Nat.le_refl _) ?_; intro v259 w20 ho21 hb hg_ hnew_; clear hg_ hnew_; (first | rw [← Ny258.out] at ho21 | (simp only [Int.reduceToNat] at ho21; rw [← Ny258.out] at ho21)); have n0_ := Aside0.mk (Kd.S_elder' (by (with_reducible repeat (first | apply Kd.S_alloc | apply Kd.S_drewN | apply Kd.S_drew)); exact HO256.out) (Kd.R_base ho21) hb); have n1_ := Aside0.mk (Kd.R_lower ho21 (below_size (by repeat (first | (with_reducible first | exact HB.out | apply below_alloc | apply pw_below_drewN | apply below_drew1 | refine below_set ?_ GE251.out) | exact HB.out)))); have n2_ := Aside0.mk (blk_below (g := gb251) (o := .cells #[.int .i64 a0_0, .slice A0_1 l0_1.length c0_1, .slice A0_2 l0_2.length c0_2] 33 (0, 0)) (by (with_reducible repeat (first | refine blk_drewN ?_ _ | refine blk_drew ?_ | refine blk_alloc ?_ _)); exact BK251.out) hb); have n3_ := Aside0.mk (below_step (by repeat (first | (with_reducible first | exact HB.out | apply below_alloc | apply pw_below_drewN | apply below_drew1 | refine below_set ?_ GE251.out) | exact HB.out)) hb); clear HO256; clear BK251; clear HB; have HO256 := n0_; have HO260 := n1_; have BK251 := n2_; have HB := n3_; clear n0_ n1_ n2_ n3_; clear hb ho21))
     go_loopg [8] k (fun kq v8 w' => ∃ (x7_1 : List Int) (x8_1 : Int), v8 = .int .i64 x8_1 ∧ Aside0 (cleanselaw27_HyperComponents.l0 kq l1 t252 t254 x7_1 x8_1 a0_0 l0_1 l0_2 = some r) ∧ Aside0 (kq ≤ k) ∧ Aside0 (Kd.S (Kd.slice 3 (Kd.int .i64)) 27 w' w.heap.size (fun k_ => some k_ ≠ (v259 : Value).ownBlock) v255 t254) ∧ Aside0 (Kd.R (Kd.int .i64) 3 w' w.heap.size (fun _ => True) v259 x7_1) ∧ Aside0 (w'.heap[gb251]? = some (.cells #[.int .i64 a0_0, (.slice A0_1 l0_1.length c0_1), (.slice A0_2 l0_2.length c0_2)] 33 (0, 0))) ∧ Aside0 (Below w.heap.size w w'))
     case atStart => exact ⟨(y258), (0), (by first | rfl | (simp; done) | (simp [*]; done)), H', ⟨Nat.le_refl _⟩, ⟨by (with_reducible repeat (first | apply Kd.S_alloc | apply Kd.S_drewN | apply Kd.S_drew)); exact Kd.S_mono HO256.out (fun _ hk => hk.2)⟩, ⟨by (with_reducible repeat (first | apply Kd.R_alloc | apply Kd.R_drewN | apply Kd.R_drew)); exact HO260.out⟩, ⟨by (with_reducible repeat (first | refine blk_drewN ?_ _ | refine blk_drew ?_ | refine blk_alloc ?_ _)); exact BK251.out⟩, ⟨by repeat (first | (with_reducible first | exact HB.out | apply below_alloc | apply pw_below_drewN | apply below_drew1 | refine below_set ?_ GE251.out) | exact HB.out)⟩⟩
     clear H'
     try clear c1
     try clear c2
     try clear p2
     try clear c5
     try clear c6
     try clear c8
     try clear c9
     try clear c9b0
     try clear c9b1
     try clear c10
     try clear c10b0
     try clear c10b1
     try clear c19
     try clear c21
     try clear hcz13_0
     try clear hcz13_1
     try clear hcz13_2
     try clear hcz15_0
     try clear hcz15_1
     try clear hcz15_2
     try clear hcz17_0
     try clear hcz17_1
     try clear hcz17_2
     try clear hcz19_0
     try clear hcz19_1
     try clear hcz19_2
     try clear hfz13_0
     try clear hfz13_1
     try clear hfz13_2
     try clear hfz15_0
     try clear hfz15_1
     try clear hfz15_2
     try clear hfz17_0
     try clear hfz17_1
     try clear hfz17_2
     try clear hfz19_0
     try clear hfz19_1
     try clear hfz19_2
     obtain ⟨x7_1, x8_1, rfl, HA, HK1, HO_6, HO_7, BK251, HB⟩ := hrel
     obtain ⟨k1, rfl⟩ : ∃ m, gk = m + 1 := by (cases gk with | zero => exact absurd HA.out (by simp [cleanselaw27_HyperComponents.l0]) | succ m => exact ⟨m, rfl⟩)
     have H := HA.out
     clear HA
     simp only [cleanselaw27_HyperComponents.l0] at H
     by_cases c22 : x8_1 < a0_0
     ·
      rw [if_pos c22] at H
      have c22b0 : decide (x8_1 < a0_0) = true := decide_eq_true c22
      clear c22
      by_cases c23 : 0 ≤ x8_1
      ·
       rw [if_pos c23] at H
       have c23b0 : decide (0 ≤ x8_1) = true := decide_eq_true c23
       clear c23
       by_cases c24 : x8_1 < (x7_1.length : Int)
       ·
        rw [if_pos c24] at H
        have c24b0 : decide (x8_1 < (x7_1.length : Int)) = true := decide_eq_true c24
        clear c24
        obtain ⟨y261, hy261⟩ : ∃ y_ : List Int, y_ = (x7_1.set (x8_1 : Int).toNat (-1)) := ⟨_, rfl⟩
        replace H : (cleanselaw27_HyperComponents.l0 k1 l1 t252 t254 y261 (wrap64 (x8_1 + 1)) a0_0 l0_1 l0_2) = some r := by first | (rw [hy261]; with_reducible exact H) | (have H2_ := (Option.bind_some _ _).symm.trans H; rw [hy261]; with_reducible exact H2_) | (have H2_ := (Option.bind_some _ _).symm.trans H; with_reducible exact H2_) | with_reducible exact H | (rw [hy261]; exact H) | exact H
        have Ny261 := Aside0.mk hy261
        clear hy261
        have H' := Aside0.mk H
        clear H
        have hcz26_0 : wr.cell? ⟨gb251, 0, none⟩ = some (.int .i64 a0_0) := (blk_cell BK251.out 0).trans rfl
        have hcz26_1 : wr.cell? ⟨gb251, 1, none⟩ = some (.slice A0_1 l0_1.length c0_1) := (blk_cell BK251.out 1).trans rfl
        have hcz26_2 : wr.cell? ⟨gb251, 2, none⟩ = some (.slice A0_2 l0_2.length c0_2) := (blk_cell BK251.out 2).trans rfl
        have hfz26_0 := blk_frozen BK251.out 0
        have hfz26_1 := blk_frozen BK251.out 1
        have hfz26_2 := blk_frozen BK251.out 2
        have p25 : 0 ≤ (x8_1 : Int) := of_decide_eq_true (by first | (with_reducible assumption) | assumption)
        have q25 : (x8_1 : Int) < ((x7_1.length : Int) : Int) := of_decide_eq_true (by first | (with_reducible assumption) | assumption)
        obtain ⟨go25, co25, eo25, gb25, gl25, cl25, HG25⟩ := Kd.R_form HO_7.out (by omega)
        (first | cases eo25 | (injection eo25 with ea_ en_ ec_; (first | subst ea_ | (injection ea_ with ea_; subst ea_)); subst ec_; clear en_))
        have GB25 := Aside0.mk gb25
        have GG25 := Aside0.mk HG25
        clear gb25 gl25 HG25
        obtain ⟨hx25_0, hf25_0⟩ := Kd.R_celln 0 HO_7.out (x8_1 : Int) p25 q25
        replace p25 := eq_true p25
        replace q25 := eq_true q25
        have HP27 := Kd.R_putg HO_7.out (x8_1 : Int) (-1)
        go_wp2_with (first | ((with_reducible refine gate_store (t := 3) (p := 46) rfl ?_); refine store_event (t := 3) (p := 46) (v := ?vo_w28) (w1 := (wr.setCell ⟨go25, (x8_1 : Int).toNat, none⟩ (.int .i64 (-1)))) ?hg ?ho ?hn ?hr ?_; (case ho => rfl); (case hg => rfl); (case hn => rfl); (case hr => first | (go_simp; done) | (go_simp; rfl)); intro w28 hw; have hg : wr.grownBy w28 (some go25) := (by rw [hw]; exact HP27.2); have hp_ : Kd.R (Kd.int .i64) 3 w28 w.heap.size (fun _ => True) (.slice (some ⟨go25, 0, none⟩) x7_1.length co25) y261 := (by rw [hw, Ny261.out]; exact HP27.1); clear HP27; have n0_ := Aside0.mk (Kd.S_after (v := (.slice (some ⟨go25, 0, none⟩) x7_1.length co25)) (v1 := (.slice (some ⟨go25, 0, none⟩) x7_1.length co25)) (ok := (fun _ => True)) (by (with_reducible repeat (first | apply Kd.S_alloc | apply Kd.S_drewN | apply Kd.S_drew)); exact Kd.S_mono HO_6.out (fun _ hk => ⟨trivial, hk⟩)) hg (.inl rfl)); have n1_ := Aside0.mk (hp_); have n2_ := Aside0.mk (blk_grown (g := gb251) (o := .cells #[.int .i64 a0_0, .slice A0_1 l0_1.length c0_1, .slice A0_2 l0_2.length c0_2] 33 (0, 0)) (by (with_reducible repeat (first | refine blk_drewN ?_ _ | refine blk_drew ?_ | refine blk_alloc ?_ _)); exact BK251.out) hg (Kd.R_ne HO_7.out BK251.out (by decide))); have n3_ := Aside0.mk ((by rw [hw]; exact below_set (HB.out) GB25.out : Below w.heap.size w w28)); clear HO_6; clear HO_7; clear BK251; clear HB; have HO_6 := n0_; have HO_7 := n1_; have BK251 := n2_; have HB := n3_; clear n0_ n1_ n2_ n3_; clear hg hw hp_))
        go_roundg k1
        case measure => have := HK1.out; omega
        case rel => exact ⟨(y261), (wrap64 (x8_1 + 1)), (by first | rfl | (simp; done) | (simp [*]; done)), H', ⟨by have := HK1.out; omega⟩, ⟨by (with_reducible repeat (first | apply Kd.S_alloc | apply Kd.S_drewN | apply Kd.S_drew)); exact Kd.S_mono HO_6.out (fun _ hk => hk.2)⟩, ⟨by (with_reducible repeat (first | apply Kd.R_alloc | apply Kd.R_drewN | apply Kd.R_drew)); exact HO_7.out⟩, ⟨by (with_reducible repeat (first | refine blk_drewN ?_ _ | refine blk_drew ?_ | refine blk_alloc ?_ _)); exact BK251.out⟩, ⟨by repeat (first | (with_reducible first | exact HB.out | apply below_alloc | apply pw_below_drewN | apply below_drew1 | refine below_set ?_ GE251.out) | exact HB.out)⟩⟩
       rw [if_neg c24] at H
       exact absurd H (by simp)
      rw [if_neg c23] at H
      exact absurd H (by simp)
     rw [if_neg c22] at H
     have c22b0 : decide (x8_1 < a0_0) = false := decide_eq_false c22
     clear c22
     have H' := Aside0.mk H
     clear H
     have hcz29_0 : wr.cell? ⟨gb251, 0, none⟩ = some (.int .i64 a0_0) := (blk_cell BK251.out 0).trans rfl
     have hcz29_1 : wr.cell? ⟨gb251, 1, none⟩ = some (.slice A0_1 l0_1.length c0_1) := (blk_cell BK251.out 1).trans rfl
     have hcz29_2 : wr.cell? ⟨gb251, 2, none⟩ = some (.slice A0_2 l0_2.length c0_2) := (blk_cell BK251.out 2).trans rfl
     have hfz29_0 := blk_frozen BK251.out 0
     have hfz29_1 := blk_frozen BK251.out 1
     have hfz29_2 := blk_frozen BK251.out 2
     go_wp2
     go_loopg [9, 10] k1 (fun kq v9 v10 w' => ∃ (x7_2 : List Int) (x9_2 : Int) (x10_2 : Int), v9 = .int .i64 x9_2 ∧ v10 = .int .i64 x10_2 ∧ Aside0 (cleanselaw27_HyperComponents.l1 kq l1 t252 t254 x7_2 x9_2 x10_2 a0_0 l0_1 l0_2 = some r) ∧ Aside0 (kq ≤ k1) ∧ Aside0 (Kd.S (Kd.slice 3 (Kd.int .i64)) 27 w' w.heap.size (fun k_ => some k_ ≠ (v259 : Value).ownBlock) v255 t254) ∧ Aside0 (Kd.R (Kd.int .i64) 3 w' w.heap.size (fun _ => True) v259 x7_2) ∧ Aside0 (w'.heap[gb251]? = some (.cells #[.int .i64 a0_0, (.slice A0_1 l0_1.length c0_1), (.slice A0_2 l0_2.length c0_2)] 33 (0, 0))) ∧ Aside0 (Below w.heap.size w w'))
     case atStart => exact ⟨(x7_1), (0), (0), (by first | rfl | (simp; done) | (simp [*]; done)), (by first | rfl | (simp; done) | (simp [*]; done)), H', ⟨Nat.le_refl _⟩, ⟨by (with_reducible repeat (first | apply Kd.S_alloc | apply Kd.S_drewN | apply Kd.S_drew)); exact HO_6.out⟩, ⟨by (with_reducible repeat (first | apply Kd.R_alloc | apply Kd.R_drewN | apply Kd.R_drew)); exact HO_7.out⟩, ⟨by (with_reducible repeat (first | refine blk_drewN ?_ _ | refine blk_drew ?_ | refine blk_alloc ?_ _)); exact BK251.out⟩, ⟨by repeat (first | (with_reducible first | exact HB.out | apply below_alloc | apply pw_below_drewN | apply below_drew1 | refine below_set ?_ GE251.out) | exact HB.out)⟩⟩
     clear H'
     try clear c1
     try clear c2
     try clear p2
     try clear q2
     try clear hx2
     try clear hf2
     try clear c5
     try clear c6
     try clear p6
     try clear c8
     try clear c9
     try clear c9b0
     try clear c9b1
     try clear c10
     try clear c10b0
     try clear c10b1
     try clear c19
     try clear c21
     try clear c22
     try clear c22b0
     try clear c23
     try clear c23b0
     try clear c24
     try clear c24b0
     try clear p25
     try clear q25
     try clear hx25
     try clear hf25
     try clear hcz13_0
     try clear hcz13_1
     try clear hcz13_2
     try clear hcz15_0
     try clear hcz15_1
     try clear hcz15_2
     try clear hcz17_0
     try clear hcz17_1
     try clear hcz17_2
     try clear hcz19_0
     try clear hcz19_1
     try clear hcz19_2
     try clear hcz26_0
     try clear hcz26_1
     try clear hcz26_2
     try clear hcz29_0
     try clear hcz29_1
     try clear hcz29_2
     try clear hfz13_0
     try clear hfz13_1
     try clear hfz13_2
     try clear hfz15_0
     try clear hfz15_1
     try clear hfz15_2
     try clear hfz17_0
     try clear hfz17_1
     try clear hfz17_2
     try clear hfz19_0
     try clear hfz19_1
     try clear hfz19_2
     try clear hfz26_0
     try clear hfz26_1
     try clear hfz26_2
     try clear hfz29_0
     try clear hfz29_1
     try clear hfz29_2
     try clear hx25_0
     try clear p2
     try clear p25
     try clear q25
     obtain ⟨x7_2, x9_2, x10_2, rfl, rfl, HA, HK2, HO_6, HO_7, BK251, HB⟩ := hrel
     obtain ⟨k2, rfl⟩ : ∃ m, gk = m + 1 := by (cases gk with | zero => exact absurd HA.out (by simp [cleanselaw27_HyperComponents.l1]) | succ m => exact ⟨m, rfl⟩)
     have H := HA.out
     clear HA
     simp only [cleanselaw27_HyperComponents.l1] at H
     by_cases c30 : x10_2 < (t254.length : Int)
     ·
      rw [if_pos c30] at H
      have c30b0 : decide (x10_2 < (t254.length : Int)) = true := decide_eq_true c30
      clear c30
      have HC31 := Aside0.mk H
      clear H
      obtain ⟨Ao32, co32, eo32⟩ := Kd.S_slice HO_6.out
      subst eo32
      go_upto_region 16 with (fail)
      go_cut [88] (fun v88 wc => ∃ (kq : Nat) (x88_30 : Bool), v88 = .bool x88_30 ∧ Aside0 (cleanselaw27_HyperComponents.j2 kq l1 t252 t254 x7_2 x9_2 x10_2 x88_30 a0_0 l0_1 l0_2 = some r) ∧ Aside0 (kq ≤ k2) ∧ Aside0 (Kd.S (Kd.slice 3 (Kd.int .i64)) 27 wc w.heap.size (fun k_ => some k_ ≠ (v259 : Value).ownBlock) (.slice Ao32 t254.length co32) t254) ∧ Aside0 (Kd.R (Kd.int .i64) 3 wc w.heap.size (fun _ => True) v259 x7_2) ∧ Aside0 (wc.heap[gb251]? = some (.cells #[.int .i64 a0_0, (.slice A0_1 l0_1.length c0_1), (.slice A0_2 l0_2.length c0_2)] 33 (0, 0))) ∧ Aside0 (Below w.heap.size w wc))
      case first =>
       have H := HC31.out
       clear HC31
       by_cases c33 : 0 ≤ x10_2
       ·
        rw [if_pos c33] at H
        have c33b0 : decide (0 ≤ x10_2) = true := decide_eq_true c33
        clear c33
        (first | rw [c33b0] | (simp only [i64_w, i32_w]; rw [c33b0]) | skip)
        by_cases c34 : ((rd_L1 t254 x10_2).length : Int) = 0
        ·
         rw [if_pos c34] at H
         have c34b0 : (((rd_L1 t254 x10_2).length : Int) == 0) = true := beq_iff_eq.mpr c34
         have c34b1 : (((rd_L1 t254 x10_2).length : Int) != 0) = false := bne_eq_false_iff_eq.mpr c34
         clear c34
         have H' := Aside0.mk H
         clear H
         try go_wp2
         have p262 : 0 ≤ (x10_2 : Int) := of_decide_eq_true (by first | (with_reducible assumption) | assumption)
         have q262 : x10_2 < (t254.length : Int) := of_decide_eq_true (by first | (with_reducible assumption) | assumption)
         obtain ⟨ad262, A262_0, c262_0, e262, hx262_0, hl262_0, hi262_0⟩ := at_L1 (Kd.S_reads' HO_6.out).2.2 x10_2 p262 q262
         cases e262
         obtain ⟨ce262, hce262, hMe262, hcc262⟩ := Kd.S_get HO_6.out [] x10_2 p262 (by first | exact q262 | exact of_decide_eq_true (by first | (with_reducible assumption) | assumption) | (have e_ := (Kd.S_reads' HO_6.out).1; omega))
         obtain ⟨ve262_0, rfl, ge262_0⟩ := hMe262
         have hv262_0 := hcc262 0 _ rfl
         rw [Nat.add_zero, show ((Kd.slice 3 (Kd.int .i64))).sz = 1 from rfl, Nat.mul_one] at hv262_0
         replace hv262_0 := Option.some.inj (hv262_0.symm.trans hx262_0)
         rw [hv262_0] at ge262_0
         have HL262_0 := Aside0.mk (show Kd.R (Kd.int .i64) 3 _ _ _ _ (rd_L1 t254 x10_2) from ge262_0)
         clear hv262_0 ge262_0
         clear hcc262 hce262
         have HR262_0 := Aside0.mk hi262_0
         have HC262_0 := Aside0.mk hl262_0
         clear hi262_0 hl262_0
         replace p262 := eq_true p262
         replace q262 := eq_true q262
         have hq1_ := fun n_ : Nat => (show (wr.drewN n_).cell? _ = _ from (hx262_0))
         go_quiet (fail)
         try go_wp2
         go_meet
         case rel => exact ⟨_, (true), (by first | rfl | (simp; done) | (simp [*]; done)), H', ⟨by have := HK1.out; have := HK2.out; first | omega | exact Nat.le_refl _⟩, ⟨by (with_reducible repeat (first | apply Kd.S_alloc | apply Kd.S_drewN | apply Kd.S_drew)); exact HO_6.out⟩, ⟨by (with_reducible repeat (first | apply Kd.R_alloc | apply Kd.R_drewN | apply Kd.R_drew)); exact HO_7.out⟩, ⟨by (with_reducible repeat (first | refine blk_drewN ?_ _ | refine blk_drew ?_ | refine blk_alloc ?_ _)); exact BK251.out⟩, ⟨by repeat (first | (with_reducible first | exact HB.out | apply below_alloc | apply pw_below_drewN | apply below_drew1 | refine below_set ?_ GE251.out) | exact HB.out)⟩⟩
        rw [if_neg c34] at H
        have c34b0 : (((rd_L1 t254 x10_2).length : Int) == 0) = false := beq_eq_false_iff_ne.mpr c34
        have c34b1 : (((rd_L1 t254 x10_2).length : Int) != 0) = true := bne_iff_ne.mpr c34
        have c34b2 : ¬ ((rd_L1 t254 x10_2) = []) := fun h_ => c34 (by rw [h_]; rfl)
        replace H := Option.bind_eq_some_iff.mp H
        obtain ⟨t264, A360, H⟩ := H
        replace H : (if t264 = true then (if x10_2 > 0 then (if 0 < ((rd_L1 t254 x10_2).length : Int) then (if 0 ≤ (wrap64 (x10_2 - 1)) then (if (wrap64 (x10_2 - 1)) < (t254.length : Int) then (if 0 < ((rd_L1 t254 (wrap64 (x10_2 - 1))).length : Int) then (cleanselaw27_HyperComponents.j2 k2 l1 t252 t254 x7_2 x9_2 x10_2 (decide ((rd (rd_L1 t254 x10_2) 0) ≤ (rd (rd_L1 t254 (wrap64 (x10_2 - 1))) 0))) a0_0 l0_1 l0_2) else (none)) else (none)) else (none)) else (none)) else (cleanselaw27_HyperComponents.j2 k2 l1 t252 t254 x7_2 x9_2 x10_2 false a0_0 l0_1 l0_2)) else (cleanselaw27_HyperComponents.j2 k2 l1 t252 t254 x7_2 x9_2 x10_2 true a0_0 l0_1 l0_2)) = some r := H
        have A36 := Aside0.mk A360
        clear A360
        by_cases c37 : t264 = true
        ·
         subst c37
         have H1 : (if x10_2 > 0 then (if 0 < ((rd_L1 t254 x10_2).length : Int) then (if 0 ≤ (wrap64 (x10_2 - 1)) then (if (wrap64 (x10_2 - 1)) < (t254.length : Int) then (if 0 < ((rd_L1 t254 (wrap64 (x10_2 - 1))).length : Int) then (cleanselaw27_HyperComponents.j2 k2 l1 t252 t254 x7_2 x9_2 x10_2 (decide ((rd (rd_L1 t254 x10_2) 0) ≤ (rd (rd_L1 t254 (wrap64 (x10_2 - 1))) 0))) a0_0 l0_1 l0_2) else (none)) else (none)) else (none)) else (none)) else (cleanselaw27_HyperComponents.j2 k2 l1 t252 t254 x7_2 x9_2 x10_2 false a0_0 l0_1 l0_2)) = some r := by rw [if_pos rfl] at H; exact H
         clear H
         have H := H1
         clear H1
         by_cases c38 : x10_2 > 0
         ·
          rw [if_pos c38] at H
          have c38b0 : decide (0 < x10_2) = true := decide_eq_true c38
          clear c38
          by_cases c39 : 0 < ((rd_L1 t254 x10_2).length : Int)
          ·
           rw [if_pos c39] at H
           have c39b0 : decide (0 < ((rd_L1 t254 x10_2).length : Int)) = true := decide_eq_true c39
           have c39b1 : decide (0 < (rd_L1 t254 x10_2).length) = true := decide_eq_true (by omega)
           clear c39
           obtain ⟨ji40, hji40⟩ : ∃ j_ : Int, (wrap64 (x10_2 - 1)) = j_ := ⟨_, rfl⟩
           replace H : (if 0 ≤ (ji40) then (if (ji40) < (t254.length : Int) then (if 0 < ((rd_L1 t254 (ji40)).length : Int) then (cleanselaw27_HyperComponents.j2 k2 l1 t252 t254 x7_2 x9_2 x10_2 (decide ((rd (rd_L1 t254 x10_2) 0) ≤ (rd (rd_L1 t254 (ji40)) 0))) a0_0 l0_1 l0_2) else (none)) else (none)) else (none)) = some r := by first | (rw [hji40] at H; exact H) | (simp only [hji40] at H ⊢; exact H)
           (try rw [hji40] at A36)
           have hji40w : (IntKind.i64.wrap (x10_2 - 1)) = ji40 := (i64_w _).trans hji40
           by_cases c41 : 0 ≤ (ji40)
           ·
            rw [if_pos c41] at H
            have c41b0 : decide (0 ≤ (ji40)) = true := decide_eq_true c41
            clear c41
            by_cases c42 : (ji40) < (t254.length : Int)
            ·
             rw [if_pos c42] at H
             have c42b0 : decide ((ji40) < (t254.length : Int)) = true := decide_eq_true c42
             clear c42
             by_cases c43 : 0 < ((rd_L1 t254 (ji40)).length : Int)
             ·
              rw [if_pos c43] at H
              have c43b0 : decide (0 < ((rd_L1 t254 (ji40)).length : Int)) = true := decide_eq_true c43
              have c43b1 : decide (0 < (rd_L1 t254 (ji40)).length) = true := decide_eq_true (by omega)
              clear c43
              have H' := Aside0.mk H
              clear H
              try go_wp2
              have p262 : 0 ≤ (x10_2 : Int) := of_decide_eq_true (by first | (with_reducible assumption) | assumption)
              have q262 : x10_2 < (t254.length : Int) := of_decide_eq_true (by first | (with_reducible assumption) | assumption)
              obtain ⟨ad262, A262_0, c262_0, e262, hx262_0, hl262_0, hi262_0⟩ := at_L1 (Kd.S_reads' HO_6.out).2.2 x10_2 p262 q262
              cases e262
              obtain ⟨ce262, hce262, hMe262, hcc262⟩ := Kd.S_get HO_6.out [] x10_2 p262 (by first | exact q262 | exact of_decide_eq_true (by first | (with_reducible assumption) | assumption) | (have e_ := (Kd.S_reads' HO_6.out).1; omega))
              obtain ⟨ve262_0, rfl, ge262_0⟩ := hMe262
              have hv262_0 := hcc262 0 _ rfl
              rw [Nat.add_zero, show ((Kd.slice 3 (Kd.int .i64))).sz = 1 from rfl, Nat.mul_one] at hv262_0
              replace hv262_0 := Option.some.inj (hv262_0.symm.trans hx262_0)
              rw [hv262_0] at ge262_0
              have HL262_0 := Aside0.mk (show Kd.R (Kd.int .i64) 3 _ _ _ _ (rd_L1 t254 x10_2) from ge262_0)
              clear hv262_0 ge262_0
              clear hcc262 hce262
              have HR262_0 := Aside0.mk hi262_0
              have HC262_0 := Aside0.mk hl262_0
              clear hi262_0 hl262_0
              replace p262 := eq_true p262
              replace q262 := eq_true q262
              have p263 : 0 ≤ (x10_2 : Int) := of_decide_eq_true (by first | (with_reducible assumption) | assumption)
              have q263 : x10_2 < (t254.length : Int) := of_decide_eq_true (by first | (with_reducible assumption) | assumption)
              obtain ⟨ad263, A263_0, c263_0, e263, hx263_0, hl263_0, hi263_0⟩ := at_L1 (Kd.S_reads' HO_6.out).2.2 x10_2 p263 q263
              obtain rfl : ad262 = ad263 := (by injection e263)
              obtain ⟨ce263, hce263, hMe263, hcc263⟩ := Kd.S_get HO_6.out [] x10_2 p263 (by first | exact q263 | exact of_decide_eq_true (by first | (with_reducible assumption) | assumption) | (have e_ := (Kd.S_reads' HO_6.out).1; omega))
              obtain ⟨ve263_0, rfl, ge263_0⟩ := hMe263
              have hv263_0 := hcc263 0 _ rfl
              rw [Nat.add_zero, show ((Kd.slice 3 (Kd.int .i64))).sz = 1 from rfl, Nat.mul_one] at hv263_0
              replace hv263_0 := Option.some.inj (hv263_0.symm.trans hx263_0)
              rw [hv263_0] at ge263_0
              have HL263_0 := Aside0.mk (show Kd.R (Kd.int .i64) 3 _ _ _ _ (rd_L1 t254 x10_2) from ge263_0)
              clear hv263_0 ge263_0
              clear hcc263 hce263
              have HR263_0 := Aside0.mk hi263_0
              have HC263_0 := Aside0.mk hl263_0
              clear hi263_0 hl263_0
              replace p263 := eq_true p263
              replace q263 := eq_true q263
              have ea_ := Option.some.inj (hx262_0.symm.trans hx263_0)
              injection ea_ with ea_ en_ ec_
              subst ea_
              subst ec_
              clear en_
              have p265 : 0 ≤ (x10_2 : Int) := of_decide_eq_true (by first | (with_reducible assumption) | assumption)
              have q265 : x10_2 < (t254.length : Int) := of_decide_eq_true (by first | (with_reducible assumption) | assumption)
              obtain ⟨ad265, A265_0, c265_0, e265, hx265_0, hl265_0, hi265_0⟩ := at_L1 (Kd.S_reads' HO_6.out).2.2 x10_2 p265 q265
              obtain rfl : ad262 = ad265 := (by injection e265)
              obtain ⟨ce265, hce265, hMe265, hcc265⟩ := Kd.S_get HO_6.out [] x10_2 p265 (by first | exact q265 | exact of_decide_eq_true (by first | (with_reducible assumption) | assumption) | (have e_ := (Kd.S_reads' HO_6.out).1; omega))
              obtain ⟨ve265_0, rfl, ge265_0⟩ := hMe265
              have hv265_0 := hcc265 0 _ rfl
              rw [Nat.add_zero, show ((Kd.slice 3 (Kd.int .i64))).sz = 1 from rfl, Nat.mul_one] at hv265_0
              replace hv265_0 := Option.some.inj (hv265_0.symm.trans hx265_0)
              rw [hv265_0] at ge265_0
              have HL265_0 := Aside0.mk (show Kd.R (Kd.int .i64) 3 _ _ _ _ (rd_L1 t254 x10_2) from ge265_0)
              clear hv265_0 ge265_0
              clear hcc265 hce265
              have HR265_0 := Aside0.mk hi265_0
              have HC265_0 := Aside0.mk hl265_0
              clear hi265_0 hl265_0
              replace p265 := eq_true p265
              replace q265 := eq_true q265
              have ea_ := Option.some.inj (hx262_0.symm.trans hx265_0)
              injection ea_ with ea_ en_ ec_
              subst ea_
              subst ec_
              clear en_
              have p267 : 0 ≤ ((ji40) : Int) := of_decide_eq_true (by first | (with_reducible assumption) | assumption)
              have q267 : (ji40) < (t254.length : Int) := of_decide_eq_true (by first | (with_reducible assumption) | assumption)
              obtain ⟨ad267, A267_0, c267_0, e267, hx267_0, hl267_0, hi267_0⟩ := at_L1 (Kd.S_reads' HO_6.out).2.2 (ji40) p267 q267
              obtain rfl : ad262 = ad267 := (by injection e267)
              obtain ⟨ce267, hce267, hMe267, hcc267⟩ := Kd.S_get HO_6.out [] (ji40) p267 (by first | exact q267 | exact of_decide_eq_true (by first | (with_reducible assumption) | assumption) | (have e_ := (Kd.S_reads' HO_6.out).1; omega))
              obtain ⟨ve267_0, rfl, ge267_0⟩ := hMe267
              have hv267_0 := hcc267 0 _ rfl
              rw [Nat.add_zero, show ((Kd.slice 3 (Kd.int .i64))).sz = 1 from rfl, Nat.mul_one] at hv267_0
              replace hv267_0 := Option.some.inj (hv267_0.symm.trans hx267_0)
              rw [hv267_0] at ge267_0
              have HL267_0 := Aside0.mk (show Kd.R (Kd.int .i64) 3 _ _ _ _ (rd_L1 t254 (ji40)) from ge267_0)
              clear hv267_0 ge267_0
              clear hcc267 hce267
              have HR267_0 := Aside0.mk hi267_0
              have HC267_0 := Aside0.mk hl267_0
              clear hi267_0 hl267_0
              replace p267 := eq_true p267
              replace q267 := eq_true q267
              have hq1_ : ∀ n_ : Nat, (wr.drewN n_).cell? ⟨gb251, 0, none⟩ = some (.int .i64 a0_0) := fun n_ => (blk_cell BK251.out 0).trans rfl
              have hq2_ : ∀ n_ : Nat, (wr.drewN n_).cell? ⟨gb251, 1, none⟩ = some (.slice A0_1 l0_1.length c0_1) := fun n_ => (blk_cell BK251.out 1).trans rfl
              have hq3_ : ∀ n_ : Nat, (wr.drewN n_).cell? ⟨gb251, 2, none⟩ = some (.slice A0_2 l0_2.length c0_2) := fun n_ => (blk_cell BK251.out 2).trans rfl
              have hq4_ := fun n_ : Nat => (show (wr.drewN n_).cell? _ = _ from hx262_0)
              have hq6_ := fun n_ : Nat => (show (wr.drewN n_).cell? _ = _ from hx267_0)
              have p266 : 0 ≤ (0 : Int) := (by omega)
              have q266 : 0 < ((rd_L1 t254 x10_2).length : Int) := of_decide_eq_true (by first | (with_reducible assumption) | assumption)
              obtain ⟨ad266, e266, hx266_0⟩ := Kd.at_int (by repeat (first | (with_reducible exact HR265_0.out) | (with_reducible refine Kd.C_alloc ?_ _) | (with_reducible refine Kd.C_drewN ?_ _) | (with_reducible refine Kd.C_drew ?_) | exact HR265_0.out)) 0 p266 q266
              cases e266
              have qi266 : (0 < (rd_L1 t254 x10_2).length) = True := eq_true (by omega)
              (try rw [show ((0 : Int)).toNat = 0 from rfl] at hx266_0)
              (try rw [Addr.add_zero'] at hx266_0)
              replace p266 := eq_true p266
              replace q266 := eq_true q266
              have p268 : 0 ≤ (0 : Int) := (by omega)
              have q268 : 0 < ((rd_L1 t254 (ji40)).length : Int) := of_decide_eq_true (by first | (with_reducible assumption) | assumption)
              obtain ⟨ad268, e268, hx268_0⟩ := Kd.at_int (by repeat (first | (with_reducible exact HR267_0.out) | (with_reducible refine Kd.C_alloc ?_ _) | (with_reducible refine Kd.C_drewN ?_ _) | (with_reducible refine Kd.C_drew ?_) | exact HR267_0.out)) 0 p268 q268
              cases e268
              have qi268 : (0 < (rd_L1 t254 (ji40)).length) = True := eq_true (by omega)
              (try rw [show ((0 : Int)).toNat = 0 from rfl] at hx268_0)
              (try rw [Addr.add_zero'] at hx268_0)
              replace p268 := eq_true p268
              replace q268 := eq_true q268
              have hq5_ := fun n_ : Nat => (show (wr.drewN n_).cell? _ = _ from hx266_0)
              have hq7_ := fun n_ : Nat => (show (wr.drewN n_).cell? _ = _ from hx268_0)
              go_quiet (first | (go_at_call 23; (with_reducible refine (cleanseref27_Vertices.calls k2 _ _ (rd_L1 t254 x10_2) a0_0 true _ ?side1 ?side2 A36.out).mono ?_); (case side1 => repeat (first | exact (by repeat (first | (with_reducible exact HR263_0.out) | (with_reducible refine Kd.C_alloc ?_ _) | (with_reducible refine Kd.C_drewN ?_ _) | (with_reducible refine Kd.C_drew ?_) | exact HR263_0.out)) | (with_reducible refine Kd.C_alloc ?_ _) | (with_reducible refine Kd.C_drewN ?_ _) | (with_reducible refine Kd.C_drew ?_))); (case side2 => exact HC263_0.out); rintro e w' ⟨rfl, ⟨nd, rfl⟩⟩; exact ⟨rfl, _, World.drewN_drewN _ _ _⟩))
              try go_wp2
              go_meet
              case rel => exact ⟨_, (decide ((rd (rd_L1 t254 x10_2) 0) ≤ (rd (rd_L1 t254 (ji40)) 0))), (by first | rfl | (simp; done) | (simp only [← hji40] <;> (first | rfl | simp)) | (simp [*]; done)), H', ⟨by have := HK1.out; have := HK2.out; first | omega | exact Nat.le_refl _⟩, ⟨by (with_reducible repeat (first | apply Kd.S_alloc | apply Kd.S_drewN | apply Kd.S_drew)); exact HO_6.out⟩, ⟨by (with_reducible repeat (first | apply Kd.R_alloc | apply Kd.R_drewN | apply Kd.R_drew)); exact HO_7.out⟩, ⟨by (with_reducible repeat (first | refine blk_drewN ?_ _ | refine blk_drew ?_ | refine blk_alloc ?_ _)); exact BK251.out⟩, ⟨by repeat (first | (with_reducible first | exact HB.out | apply below_alloc | apply pw_below_drewN | apply below_drew1 | refine below_set ?_ GE251.out) | exact HB.out)⟩⟩
             rw [if_neg c43] at H
             exact absurd H (by simp)
            rw [if_neg c42] at H
            exact absurd H (by simp)
           rw [if_neg c41] at H
           exact absurd H (by simp)
          rw [if_neg c39] at H
          exact absurd H (by simp)
         rw [if_neg c38] at H
         have c38b0 : decide (0 < x10_2) = false := decide_eq_false c38
         clear c38
         have H' := Aside0.mk H
         clear H
         try go_wp2
         have p262 : 0 ≤ (x10_2 : Int) := of_decide_eq_true (by first | (with_reducible assumption) | assumption)
         have q262 : x10_2 < (t254.length : Int) := of_decide_eq_true (by first | (with_reducible assumption) | assumption)
         obtain ⟨ad262, A262_0, c262_0, e262, hx262_0, hl262_0, hi262_0⟩ := at_L1 (Kd.S_reads' HO_6.out).2.2 x10_2 p262 q262
         cases e262
         obtain ⟨ce262, hce262, hMe262, hcc262⟩ := Kd.S_get HO_6.out [] x10_2 p262 (by first | exact q262 | exact of_decide_eq_true (by first | (with_reducible assumption) | assumption) | (have e_ := (Kd.S_reads' HO_6.out).1; omega))
         obtain ⟨ve262_0, rfl, ge262_0⟩ := hMe262
         have hv262_0 := hcc262 0 _ rfl
         rw [Nat.add_zero, show ((Kd.slice 3 (Kd.int .i64))).sz = 1 from rfl, Nat.mul_one] at hv262_0
         replace hv262_0 := Option.some.inj (hv262_0.symm.trans hx262_0)
         rw [hv262_0] at ge262_0
         have HL262_0 := Aside0.mk (show Kd.R (Kd.int .i64) 3 _ _ _ _ (rd_L1 t254 x10_2) from ge262_0)
         clear hv262_0 ge262_0
         clear hcc262 hce262
         have HR262_0 := Aside0.mk hi262_0
         have HC262_0 := Aside0.mk hl262_0
         clear hi262_0 hl262_0
         replace p262 := eq_true p262
         replace q262 := eq_true q262
         have p263 : 0 ≤ (x10_2 : Int) := of_decide_eq_true (by first | (with_reducible assumption) | assumption)
         have q263 : x10_2 < (t254.length : Int) := of_decide_eq_true (by first | (with_reducible assumption) | assumption)
         obtain ⟨ad263, A263_0, c263_0, e263, hx263_0, hl263_0, hi263_0⟩ := at_L1 (Kd.S_reads' HO_6.out).2.2 x10_2 p263 q263
         obtain rfl : ad262 = ad263 := (by injection e263)
         obtain ⟨ce263, hce263, hMe263, hcc263⟩ := Kd.S_get HO_6.out [] x10_2 p263 (by first | exact q263 | exact of_decide_eq_true (by first | (with_reducible assumption) | assumption) | (have e_ := (Kd.S_reads' HO_6.out).1; omega))
         obtain ⟨ve263_0, rfl, ge263_0⟩ := hMe263
         have hv263_0 := hcc263 0 _ rfl
         rw [Nat.add_zero, show ((Kd.slice 3 (Kd.int .i64))).sz = 1 from rfl, Nat.mul_one] at hv263_0
         replace hv263_0 := Option.some.inj (hv263_0.symm.trans hx263_0)
         rw [hv263_0] at ge263_0
         have HL263_0 := Aside0.mk (show Kd.R (Kd.int .i64) 3 _ _ _ _ (rd_L1 t254 x10_2) from ge263_0)
         clear hv263_0 ge263_0
         clear hcc263 hce263
         have HR263_0 := Aside0.mk hi263_0
         have HC263_0 := Aside0.mk hl263_0
         clear hi263_0 hl263_0
         replace p263 := eq_true p263
         replace q263 := eq_true q263
         have ea_ := Option.some.inj (hx262_0.symm.trans hx263_0)
         injection ea_ with ea_ en_ ec_
         subst ea_
         subst ec_
         clear en_
         have hq1_ : ∀ n_ : Nat, (wr.drewN n_).cell? ⟨gb251, 0, none⟩ = some (.int .i64 a0_0) := fun n_ => (blk_cell BK251.out 0).trans rfl
         have hq2_ : ∀ n_ : Nat, (wr.drewN n_).cell? ⟨gb251, 1, none⟩ = some (.slice A0_1 l0_1.length c0_1) := fun n_ => (blk_cell BK251.out 1).trans rfl
         have hq3_ : ∀ n_ : Nat, (wr.drewN n_).cell? ⟨gb251, 2, none⟩ = some (.slice A0_2 l0_2.length c0_2) := fun n_ => (blk_cell BK251.out 2).trans rfl
         have hq4_ := fun n_ : Nat => (show (wr.drewN n_).cell? _ = _ from hx262_0)
         go_quiet (first | (go_at_call 23; (with_reducible refine (cleanseref27_Vertices.calls k2 _ _ (rd_L1 t254 x10_2) a0_0 true _ ?side1 ?side2 A36.out).mono ?_); (case side1 => repeat (first | exact (by repeat (first | (with_reducible exact HR263_0.out) | (with_reducible refine Kd.C_alloc ?_ _) | (with_reducible refine Kd.C_drewN ?_ _) | (with_reducible refine Kd.C_drew ?_) | exact HR263_0.out)) | (with_reducible refine Kd.C_alloc ?_ _) | (with_reducible refine Kd.C_drewN ?_ _) | (with_reducible refine Kd.C_drew ?_))); (case side2 => exact HC263_0.out); rintro e w' ⟨rfl, ⟨nd, rfl⟩⟩; exact ⟨rfl, _, World.drewN_drewN _ _ _⟩))
         try go_wp2
         go_meet
         case rel => exact ⟨_, (false), (by first | rfl | (simp; done) | (simp [*]; done)), H', ⟨by have := HK1.out; have := HK2.out; first | omega | exact Nat.le_refl _⟩, ⟨by (with_reducible repeat (first | apply Kd.S_alloc | apply Kd.S_drewN | apply Kd.S_drew)); exact HO_6.out⟩, ⟨by (with_reducible repeat (first | apply Kd.R_alloc | apply Kd.R_drewN | apply Kd.R_drew)); exact HO_7.out⟩, ⟨by (with_reducible repeat (first | refine blk_drewN ?_ _ | refine blk_drew ?_ | refine blk_alloc ?_ _)); exact BK251.out⟩, ⟨by repeat (first | (with_reducible first | exact HB.out | apply below_alloc | apply pw_below_drewN | apply below_drew1 | refine below_set ?_ GE251.out) | exact HB.out)⟩⟩
        replace c37 := Bool.eq_false_iff.mpr c37
        subst c37
        have H1 : (cleanselaw27_HyperComponents.j2 k2 l1 t252 t254 x7_2 x9_2 x10_2 true a0_0 l0_1 l0_2) = some r := by rw [if_neg (show ¬ (false = true) by decide)] at H; exact H
        clear H
        have H := H1
        clear H1
        have H' := Aside0.mk H
        clear H
        try go_wp2
        have p262 : 0 ≤ (x10_2 : Int) := of_decide_eq_true (by first | (with_reducible assumption) | assumption)
        have q262 : x10_2 < (t254.length : Int) := of_decide_eq_true (by first | (with_reducible assumption) | assumption)
        obtain ⟨ad262, A262_0, c262_0, e262, hx262_0, hl262_0, hi262_0⟩ := at_L1 (Kd.S_reads' HO_6.out).2.2 x10_2 p262 q262
        cases e262
        obtain ⟨ce262, hce262, hMe262, hcc262⟩ := Kd.S_get HO_6.out [] x10_2 p262 (by first | exact q262 | exact of_decide_eq_true (by first | (with_reducible assumption) | assumption) | (have e_ := (Kd.S_reads' HO_6.out).1; omega))
        obtain ⟨ve262_0, rfl, ge262_0⟩ := hMe262
        have hv262_0 := hcc262 0 _ rfl
        rw [Nat.add_zero, show ((Kd.slice 3 (Kd.int .i64))).sz = 1 from rfl, Nat.mul_one] at hv262_0
        replace hv262_0 := Option.some.inj (hv262_0.symm.trans hx262_0)
        rw [hv262_0] at ge262_0
        have HL262_0 := Aside0.mk (show Kd.R (Kd.int .i64) 3 _ _ _ _ (rd_L1 t254 x10_2) from ge262_0)
        clear hv262_0 ge262_0
        clear hcc262 hce262
        have HR262_0 := Aside0.mk hi262_0
        have HC262_0 := Aside0.mk hl262_0
        clear hi262_0 hl262_0
        replace p262 := eq_true p262
        replace q262 := eq_true q262
        have p263 : 0 ≤ (x10_2 : Int) := of_decide_eq_true (by first | (with_reducible assumption) | assumption)
        have q263 : x10_2 < (t254.length : Int) := of_decide_eq_true (by first | (with_reducible assumption) | assumption)
        obtain ⟨ad263, A263_0, c263_0, e263, hx263_0, hl263_0, hi263_0⟩ := at_L1 (Kd.S_reads' HO_6.out).2.2 x10_2 p263 q263
        obtain rfl : ad262 = ad263 := (by injection e263)
        obtain ⟨ce263, hce263, hMe263, hcc263⟩ := Kd.S_get HO_6.out [] x10_2 p263 (by first | exact q263 | exact of_decide_eq_true (by first | (with_reducible assumption) | assumption) | (have e_ := (Kd.S_reads' HO_6.out).1; omega))
        obtain ⟨ve263_0, rfl, ge263_0⟩ := hMe263
        have hv263_0 := hcc263 0 _ rfl
        rw [Nat.add_zero, show ((Kd.slice 3 (Kd.int .i64))).sz = 1 from rfl, Nat.mul_one] at hv263_0
        replace hv263_0 := Option.some.inj (hv263_0.symm.trans hx263_0)
        rw [hv263_0] at ge263_0
        have HL263_0 := Aside0.mk (show Kd.R (Kd.int .i64) 3 _ _ _ _ (rd_L1 t254 x10_2) from ge263_0)
        clear hv263_0 ge263_0
        clear hcc263 hce263
        have HR263_0 := Aside0.mk hi263_0
        have HC263_0 := Aside0.mk hl263_0
        clear hi263_0 hl263_0
        replace p263 := eq_true p263
        replace q263 := eq_true q263
        have ea_ := Option.some.inj (hx262_0.symm.trans hx263_0)
        injection ea_ with ea_ en_ ec_
        subst ea_
        subst ec_
        clear en_
        have hq1_ : ∀ n_ : Nat, (wr.drewN n_).cell? ⟨gb251, 0, none⟩ = some (.int .i64 a0_0) := fun n_ => (blk_cell BK251.out 0).trans rfl
        have hq2_ : ∀ n_ : Nat, (wr.drewN n_).cell? ⟨gb251, 1, none⟩ = some (.slice A0_1 l0_1.length c0_1) := fun n_ => (blk_cell BK251.out 1).trans rfl
        have hq3_ : ∀ n_ : Nat, (wr.drewN n_).cell? ⟨gb251, 2, none⟩ = some (.slice A0_2 l0_2.length c0_2) := fun n_ => (blk_cell BK251.out 2).trans rfl
        have hq4_ := fun n_ : Nat => (show (wr.drewN n_).cell? _ = _ from hx262_0)
        go_quiet (first | (go_at_call 23; (with_reducible refine (cleanseref27_Vertices.calls k2 _ _ (rd_L1 t254 x10_2) a0_0 false _ ?side1 ?side2 A36.out).mono ?_); (case side1 => repeat (first | exact (by repeat (first | (with_reducible exact HR263_0.out) | (with_reducible refine Kd.C_alloc ?_ _) | (with_reducible refine Kd.C_drewN ?_ _) | (with_reducible refine Kd.C_drew ?_) | exact HR263_0.out)) | (with_reducible refine Kd.C_alloc ?_ _) | (with_reducible refine Kd.C_drewN ?_ _) | (with_reducible refine Kd.C_drew ?_))); (case side2 => exact HC263_0.out); rintro e w' ⟨rfl, ⟨nd, rfl⟩⟩; exact ⟨rfl, _, World.drewN_drewN _ _ _⟩))
        try go_wp2
        go_meet
        case rel => exact ⟨_, (true), (by first | rfl | (simp; done) | (simp [*]; done)), H', ⟨by have := HK1.out; have := HK2.out; first | omega | exact Nat.le_refl _⟩, ⟨by (with_reducible repeat (first | apply Kd.S_alloc | apply Kd.S_drewN | apply Kd.S_drew)); exact HO_6.out⟩, ⟨by (with_reducible repeat (first | apply Kd.R_alloc | apply Kd.R_drewN | apply Kd.R_drew)); exact HO_7.out⟩, ⟨by (with_reducible repeat (first | refine blk_drewN ?_ _ | refine blk_drew ?_ | refine blk_alloc ?_ _)); exact BK251.out⟩, ⟨by repeat (first | (with_reducible first | exact HB.out | apply below_alloc | apply pw_below_drewN | apply below_drew1 | refine below_set ?_ GE251.out) | exact HB.out)⟩⟩
       rw [if_neg c33] at H
       exact absurd H (by simp)
      clear HC31
      try clear c2
      try clear p2
      try clear q2
      try clear hx2
      try clear c3
      try clear c23
      try clear c26
      try clear p26
      try clear q26
      try clear hx26
      try clear c33
      try clear c37
      try clear c38
      try clear c38b0
      try clear hx262_0
      try clear hx263_0
      try clear p262
      try clear p263
      try clear q262
      try clear q263
      obtain ⟨kq, x88_30, rfl, HA, HJ30, HO_6, HO_7, BK251, HB⟩ := hcut
      obtain ⟨kj30, rfl⟩ : ∃ m, kq = m + 1 := by (cases kq with | zero => exact absurd HA.out (by simp [cleanselaw27_HyperComponents.j2]) | succ m => exact ⟨m, rfl⟩)
      have H := HA.out
      clear HA
      simp only [cleanselaw27_HyperComponents.j2] at H
      by_cases c47 : x88_30 = true
      ·
       subst c47
       have H1 : (some false) = some r := by rw [if_pos rfl] at H; exact H
       clear H
       have H := H1
       clear H1
       obtain rfl := Option.some.inj H
       go_wp2
       go_ret
       exact ⟨by first | rfl | (simp [errW_none, errW_some] <;> rfl) | (simp [*, errW_none, errW_some] <;> rfl), by repeat (first | (with_reducible first | exact HB.out | apply below_alloc | apply pw_below_drewN | apply below_drew1 | refine below_set ?_ GE251.out) | exact HB.out)⟩
      replace c47 := Bool.eq_false_iff.mpr c47
      subst c47
      have H1 : (cleanselaw27_HyperComponents.l2 kj30 l1 t252 t254 x7_2 x9_2 x10_2 0 a0_0 l0_1 l0_2) = some r := by rw [if_neg (show ¬ (false = true) by decide)] at H; exact H
      clear H
      have H := H1
      clear H1
      have H' := Aside0.mk H
      clear H
      go_wp2
      go_loopg [9, 11] kj30 (fun kq v9 v11 w' => ∃ (x7_4 : List Int) (x9_4 : Int) (x11_4 : Int), v9 = .int .i64 x9_4 ∧ v11 = .int .i64 x11_4 ∧ Aside0 (cleanselaw27_HyperComponents.l2 kq l1 t252 t254 x7_4 x9_4 x10_2 x11_4 a0_0 l0_1 l0_2 = some r) ∧ Aside0 (kq ≤ kj30) ∧ Aside0 (Kd.S (Kd.slice 3 (Kd.int .i64)) 27 w' w.heap.size (fun k_ => some k_ ≠ (v259 : Value).ownBlock) (.slice Ao32 t254.length co32) t254) ∧ Aside0 (Kd.R (Kd.int .i64) 3 w' w.heap.size (fun _ => True) v259 x7_4) ∧ Aside0 (w'.heap[gb251]? = some (.cells #[.int .i64 a0_0, (.slice A0_1 l0_1.length c0_1), (.slice A0_2 l0_2.length c0_2)] 33 (0, 0))) ∧ Aside0 (Below w.heap.size w w'))
      case atStart => exact ⟨(x7_2), (x9_2), (0), (by first | rfl | (simp; done) | (simp [*]; done)), (by first | rfl | (simp; done) | (simp [*]; done)), H', ⟨Nat.le_refl _⟩, ⟨by (with_reducible repeat (first | apply Kd.S_alloc | apply Kd.S_drewN | apply Kd.S_drew)); exact HO_6.out⟩, ⟨by (with_reducible repeat (first | apply Kd.R_alloc | apply Kd.R_drewN | apply Kd.R_drew)); exact HO_7.out⟩, ⟨by (with_reducible repeat (first | refine blk_drewN ?_ _ | refine blk_drew ?_ | refine blk_alloc ?_ _)); exact BK251.out⟩, ⟨by repeat (first | (with_reducible first | exact HB.out | apply below_alloc | apply pw_below_drewN | apply below_drew1 | refine below_set ?_ GE251.out) | exact HB.out)⟩⟩
      clear H'
      try clear c2
      try clear p2
      try clear q2
      try clear hx2
      try clear c3
      try clear c4
      try clear c23
      try clear c26
      try clear p26
      try clear q26
      try clear hx26
      try clear c33
      try clear c37
      try clear c38
      try clear c38b0
      try clear c47
      try clear hx262_0
      try clear hx263_0
      try clear p2
      try clear p26
      try clear p262
      try clear p263
      try clear q2
      try clear q26
      try clear q262
      try clear q263
      obtain ⟨x7_4, x9_4, x11_4, rfl, rfl, HA, HK4, HO_6, HO_7, BK251, HB⟩ := hrel
      obtain ⟨k4, rfl⟩ : ∃ m, gk = m + 1 := by (cases gk with | zero => exact absurd HA.out (by simp [cleanselaw27_HyperComponents.l2]) | succ m => exact ⟨m, rfl⟩)
      have H := HA.out
      clear HA
      simp only [cleanselaw27_HyperComponents.l2] at H
      by_cases c48 : 0 ≤ x10_2
      ·
       rw [if_pos c48] at H
       have c48b0 : decide (0 ≤ x10_2) = true := decide_eq_true c48
       clear c48
       by_cases c49 : x10_2 < (t254.length : Int)
       ·
        rw [if_pos c49] at H
        have c49b0 : decide (x10_2 < (t254.length : Int)) = true := decide_eq_true c49
        clear c49
        by_cases c50 : x11_4 < ((rd_L1 t254 x10_2).length : Int)
        ·
         rw [if_pos c50] at H
         have c50b0 : decide (x11_4 < ((rd_L1 t254 x10_2).length : Int)) = true := decide_eq_true c50
         clear c50
         by_cases c51 : 0 ≤ x11_4
         ·
          rw [if_pos c51] at H
          have c51b0 : decide (0 ≤ x11_4) = true := decide_eq_true c51
          clear c51
          by_cases c52 : 0 ≤ (rd (rd_L1 t254 x10_2) x11_4)
          ·
           rw [if_pos c52] at H
           have c52b0 : decide (0 ≤ (rd (rd_L1 t254 x10_2) x11_4)) = true := decide_eq_true c52
           clear c52
           by_cases c53 : (rd (rd_L1 t254 x10_2) x11_4) < (x7_4.length : Int)
           ·
            rw [if_pos c53] at H
            have c53b0 : decide ((rd (rd_L1 t254 x10_2) x11_4) < (x7_4.length : Int)) = true := decide_eq_true c53
            clear c53
            by_cases c54 : (rd x7_4 (rd (rd_L1 t254 x10_2) x11_4)) ≥ 0
            ·
             rw [if_pos c54] at H
             have c54b0 : decide (0 ≤ (rd x7_4 (rd (rd_L1 t254 x10_2) x11_4))) = true := decide_eq_true c54
             clear c54
             obtain rfl := Option.some.inj H
             have p269 : 0 ≤ (x10_2 : Int) := of_decide_eq_true (by first | (with_reducible assumption) | assumption)
             have q269 : x10_2 < (t254.length : Int) := of_decide_eq_true (by first | (with_reducible assumption) | assumption)
             obtain ⟨ad269, A269_0, c269_0, e269, hx269_0, hl269_0, hi269_0⟩ := at_L1 (Kd.S_reads' HO_6.out).2.2 x10_2 p269 q269
             cases e269
             obtain ⟨ce269, hce269, hMe269, hcc269⟩ := Kd.S_get HO_6.out [] x10_2 p269 (by first | exact q269 | exact of_decide_eq_true (by first | (with_reducible assumption) | assumption) | (have e_ := (Kd.S_reads' HO_6.out).1; omega))
             obtain ⟨ve269_0, rfl, ge269_0⟩ := hMe269
             have hv269_0 := hcc269 0 _ rfl
             rw [Nat.add_zero, show ((Kd.slice 3 (Kd.int .i64))).sz = 1 from rfl, Nat.mul_one] at hv269_0
             replace hv269_0 := Option.some.inj (hv269_0.symm.trans hx269_0)
             rw [hv269_0] at ge269_0
             have HL269_0 := Aside0.mk (show Kd.R (Kd.int .i64) 3 _ _ _ _ (rd_L1 t254 x10_2) from ge269_0)
             clear hv269_0 ge269_0
             clear hcc269 hce269
             have HR269_0 := Aside0.mk hi269_0
             have HC269_0 := Aside0.mk hl269_0
             clear hi269_0 hl269_0
             replace p269 := eq_true p269
             replace q269 := eq_true q269
             have p270 : 0 ≤ (x10_2 : Int) := of_decide_eq_true (by first | (with_reducible assumption) | assumption)
             have q270 : x10_2 < (t254.length : Int) := of_decide_eq_true (by first | (with_reducible assumption) | assumption)
             obtain ⟨ad270, A270_0, c270_0, e270, hx270_0, hl270_0, hi270_0⟩ := at_L1 (Kd.S_reads' HO_6.out).2.2 x10_2 p270 q270
             obtain rfl : ad269 = ad270 := (by injection e270)
             obtain ⟨ce270, hce270, hMe270, hcc270⟩ := Kd.S_get HO_6.out [] x10_2 p270 (by first | exact q270 | exact of_decide_eq_true (by first | (with_reducible assumption) | assumption) | (have e_ := (Kd.S_reads' HO_6.out).1; omega))
             obtain ⟨ve270_0, rfl, ge270_0⟩ := hMe270
             have hv270_0 := hcc270 0 _ rfl
             rw [Nat.add_zero, show ((Kd.slice 3 (Kd.int .i64))).sz = 1 from rfl, Nat.mul_one] at hv270_0
             replace hv270_0 := Option.some.inj (hv270_0.symm.trans hx270_0)
             rw [hv270_0] at ge270_0
             have HL270_0 := Aside0.mk (show Kd.R (Kd.int .i64) 3 _ _ _ _ (rd_L1 t254 x10_2) from ge270_0)
             clear hv270_0 ge270_0
             clear hcc270 hce270
             have HR270_0 := Aside0.mk hi270_0
             have HC270_0 := Aside0.mk hl270_0
             clear hi270_0 hl270_0
             replace p270 := eq_true p270
             replace q270 := eq_true q270
             have ea_ := Option.some.inj (hx269_0.symm.trans hx270_0)
             injection ea_ with ea_ en_ ec_
             subst ea_
             subst ec_
             clear en_
             have p271 : 0 ≤ (x11_4 : Int) := of_decide_eq_true (by first | (with_reducible assumption) | assumption)
             have q271 : x11_4 < ((rd_L1 t254 x10_2).length : Int) := of_decide_eq_true (by first | (with_reducible assumption) | assumption)
             obtain ⟨ad271, e271, hx271_0⟩ := Kd.at_int (by repeat (first | (with_reducible exact HR270_0.out) | (with_reducible refine Kd.C_alloc ?_ _) | (with_reducible refine Kd.C_drewN ?_ _) | (with_reducible refine Kd.C_drew ?_) | exact HR270_0.out)) x11_4 p271 q271
             cases e271
             replace p271 := eq_true p271
             replace q271 := eq_true q271
             obtain ⟨Ao55, co55, eo55⟩ := Kd.R_slice HO_7.out
             subst eo55
             have p272 : 0 ≤ ((rd (rd_L1 t254 x10_2) x11_4) : Int) := of_decide_eq_true (by first | (with_reducible assumption) | assumption)
             have q272 : (rd (rd_L1 t254 x10_2) x11_4) < (x7_4.length : Int) := of_decide_eq_true (by first | (with_reducible assumption) | assumption)
             obtain ⟨ad272, e272, hx272_0⟩ := Kd.at_int (Kd.R_reads' HO_7.out).2.2 (rd (rd_L1 t254 x10_2) x11_4) p272 q272
             cases e272
             replace p272 := eq_true p272
             replace q272 := eq_true q272
             go_wp2
             go_ret
             exact ⟨by first | rfl | (simp [errW_none, errW_some] <;> rfl) | (simp [*, errW_none, errW_some] <;> rfl), by repeat (first | (with_reducible first | exact HB.out | apply below_alloc | apply pw_below_drewN | apply below_drew1 | refine below_set ?_ GE251.out) | exact HB.out)⟩
            rw [if_neg c54] at H
            have c54b0 : decide (0 ≤ (rd x7_4 (rd (rd_L1 t254 x10_2) x11_4))) = false := decide_eq_false c54
            clear c54
            obtain ⟨y275, hy275⟩ : ∃ y_ : List Int, y_ = (x7_4.set ((rd (rd_L1 t254 x10_2) x11_4) : Int).toNat x10_2) := ⟨_, rfl⟩
            replace H : (cleanselaw27_HyperComponents.l2 k4 l1 t252 t254 y275 (wrap64 (x9_4 + 1)) x10_2 (wrap64 (x11_4 + 1)) a0_0 l0_1 l0_2) = some r := by first | (rw [hy275]; with_reducible exact H) | (have H2_ := (Option.bind_some _ _).symm.trans H; rw [hy275]; with_reducible exact H2_) | (have H2_ := (Option.bind_some _ _).symm.trans H; with_reducible exact H2_) | with_reducible exact H | (rw [hy275]; exact H) | exact H
            have Ny275 := Aside0.mk hy275
            clear hy275
            have H' := Aside0.mk H
            clear H
            have p269 : 0 ≤ (x10_2 : Int) := of_decide_eq_true (by first | (with_reducible assumption) | assumption)
            have q269 : x10_2 < (t254.length : Int) := of_decide_eq_true (by first | (with_reducible assumption) | assumption)
            obtain ⟨ad269, A269_0, c269_0, e269, hx269_0, hl269_0, hi269_0⟩ := at_L1 (Kd.S_reads' HO_6.out).2.2 x10_2 p269 q269
            cases e269
            obtain ⟨ce269, hce269, hMe269, hcc269⟩ := Kd.S_get HO_6.out [] x10_2 p269 (by first | exact q269 | exact of_decide_eq_true (by first | (with_reducible assumption) | assumption) | (have e_ := (Kd.S_reads' HO_6.out).1; omega))
            obtain ⟨ve269_0, rfl, ge269_0⟩ := hMe269
            have hv269_0 := hcc269 0 _ rfl
            rw [Nat.add_zero, show ((Kd.slice 3 (Kd.int .i64))).sz = 1 from rfl, Nat.mul_one] at hv269_0
            replace hv269_0 := Option.some.inj (hv269_0.symm.trans hx269_0)
            rw [hv269_0] at ge269_0
            have HL269_0 := Aside0.mk (show Kd.R (Kd.int .i64) 3 _ _ _ _ (rd_L1 t254 x10_2) from ge269_0)
            clear hv269_0 ge269_0
            clear hcc269 hce269
            have HR269_0 := Aside0.mk hi269_0
            have HC269_0 := Aside0.mk hl269_0
            clear hi269_0 hl269_0
            replace p269 := eq_true p269
            replace q269 := eq_true q269
            have p270 : 0 ≤ (x10_2 : Int) := of_decide_eq_true (by first | (with_reducible assumption) | assumption)
            have q270 : x10_2 < (t254.length : Int) := of_decide_eq_true (by first | (with_reducible assumption) | assumption)
            obtain ⟨ad270, A270_0, c270_0, e270, hx270_0, hl270_0, hi270_0⟩ := at_L1 (Kd.S_reads' HO_6.out).2.2 x10_2 p270 q270
            obtain rfl : ad269 = ad270 := (by injection e270)
            obtain ⟨ce270, hce270, hMe270, hcc270⟩ := Kd.S_get HO_6.out [] x10_2 p270 (by first | exact q270 | exact of_decide_eq_true (by first | (with_reducible assumption) | assumption) | (have e_ := (Kd.S_reads' HO_6.out).1; omega))
            obtain ⟨ve270_0, rfl, ge270_0⟩ := hMe270
            have hv270_0 := hcc270 0 _ rfl
            rw [Nat.add_zero, show ((Kd.slice 3 (Kd.int .i64))).sz = 1 from rfl, Nat.mul_one] at hv270_0
            replace hv270_0 := Option.some.inj (hv270_0.symm.trans hx270_0)
            rw [hv270_0] at ge270_0
            have HL270_0 := Aside0.mk (show Kd.R (Kd.int .i64) 3 _ _ _ _ (rd_L1 t254 x10_2) from ge270_0)
            clear hv270_0 ge270_0
            clear hcc270 hce270
            have HR270_0 := Aside0.mk hi270_0
            have HC270_0 := Aside0.mk hl270_0
            clear hi270_0 hl270_0
            replace p270 := eq_true p270
            replace q270 := eq_true q270
            have ea_ := Option.some.inj (hx269_0.symm.trans hx270_0)
            injection ea_ with ea_ en_ ec_
            subst ea_
            subst ec_
            clear en_
            have p271 : 0 ≤ (x11_4 : Int) := of_decide_eq_true (by first | (with_reducible assumption) | assumption)
            have q271 : x11_4 < ((rd_L1 t254 x10_2).length : Int) := of_decide_eq_true (by first | (with_reducible assumption) | assumption)
            obtain ⟨ad271, e271, hx271_0⟩ := Kd.at_int (by repeat (first | (with_reducible exact HR270_0.out) | (with_reducible refine Kd.C_alloc ?_ _) | (with_reducible refine Kd.C_drewN ?_ _) | (with_reducible refine Kd.C_drew ?_) | exact HR270_0.out)) x11_4 p271 q271
            cases e271
            replace p271 := eq_true p271
            replace q271 := eq_true q271
            obtain ⟨Ao57, co57, eo57⟩ := Kd.R_slice HO_7.out
            subst eo57
            have p272 : 0 ≤ ((rd (rd_L1 t254 x10_2) x11_4) : Int) := of_decide_eq_true (by first | (with_reducible assumption) | assumption)
            have q272 : (rd (rd_L1 t254 x10_2) x11_4) < (x7_4.length : Int) := of_decide_eq_true (by first | (with_reducible assumption) | assumption)
            obtain ⟨ad272, e272, hx272_0⟩ := Kd.at_int (Kd.R_reads' HO_7.out).2.2 (rd (rd_L1 t254 x10_2) x11_4) p272 q272
            cases e272
            replace p272 := eq_true p272
            replace q272 := eq_true q272
            have p273 : 0 ≤ (x10_2 : Int) := of_decide_eq_true (by first | (with_reducible assumption) | assumption)
            have q273 : x10_2 < (t254.length : Int) := of_decide_eq_true (by first | (with_reducible assumption) | assumption)
            obtain ⟨ad273, A273_0, c273_0, e273, hx273_0, hl273_0, hi273_0⟩ := at_L1 (Kd.S_reads' HO_6.out).2.2 x10_2 p273 q273
            obtain rfl : ad269 = ad273 := (by injection e273)
            obtain ⟨ce273, hce273, hMe273, hcc273⟩ := Kd.S_get HO_6.out [] x10_2 p273 (by first | exact q273 | exact of_decide_eq_true (by first | (with_reducible assumption) | assumption) | (have e_ := (Kd.S_reads' HO_6.out).1; omega))
            obtain ⟨ve273_0, rfl, ge273_0⟩ := hMe273
            have hv273_0 := hcc273 0 _ rfl
            rw [Nat.add_zero, show ((Kd.slice 3 (Kd.int .i64))).sz = 1 from rfl, Nat.mul_one] at hv273_0
            replace hv273_0 := Option.some.inj (hv273_0.symm.trans hx273_0)
            rw [hv273_0] at ge273_0
            have HL273_0 := Aside0.mk (show Kd.R (Kd.int .i64) 3 _ _ _ _ (rd_L1 t254 x10_2) from ge273_0)
            clear hv273_0 ge273_0
            clear hcc273 hce273
            have HR273_0 := Aside0.mk hi273_0
            have HC273_0 := Aside0.mk hl273_0
            clear hi273_0 hl273_0
            replace p273 := eq_true p273
            replace q273 := eq_true q273
            have ea_ := Option.some.inj (hx269_0.symm.trans hx273_0)
            injection ea_ with ea_ en_ ec_
            subst ea_
            subst ec_
            clear en_
            have p274 : 0 ≤ (x11_4 : Int) := of_decide_eq_true (by first | (with_reducible assumption) | assumption)
            have q274 : x11_4 < ((rd_L1 t254 x10_2).length : Int) := of_decide_eq_true (by first | (with_reducible assumption) | assumption)
            obtain ⟨ad274, e274, hx274_0⟩ := Kd.at_int (by repeat (first | (with_reducible exact HR273_0.out) | (with_reducible refine Kd.C_alloc ?_ _) | (with_reducible refine Kd.C_drewN ?_ _) | (with_reducible refine Kd.C_drew ?_) | exact HR273_0.out)) x11_4 p274 q274
            cases e274
            replace p274 := eq_true p274
            replace q274 := eq_true q274
            have p56 : 0 ≤ ((rd (rd_L1 t254 x10_2) x11_4) : Int) := of_decide_eq_true (by first | (with_reducible assumption) | assumption)
            have q56 : ((rd (rd_L1 t254 x10_2) x11_4) : Int) < ((x7_4.length : Int) : Int) := of_decide_eq_true (by first | (with_reducible assumption) | assumption)
            obtain ⟨go56, co56, eo56, gb56, gl56, cl56, HG56⟩ := Kd.R_form HO_7.out (by omega)
            (first | cases eo56 | (injection eo56 with ea_ en_ ec_; (first | subst ea_ | (injection ea_ with ea_; subst ea_)); subst ec_; clear en_))
            have GB56 := Aside0.mk gb56
            have GG56 := Aside0.mk HG56
            clear gb56 gl56 HG56
            (first | simp only [add_plain] at hx272_0 | skip)
            obtain ⟨hx56_0, hf56_0⟩ := Kd.R_celln 0 HO_7.out ((rd (rd_L1 t254 x10_2) x11_4) : Int) p56 q56
            replace p56 := eq_true p56
            replace q56 := eq_true q56
            have HP58 := Kd.R_putg HO_7.out ((rd (rd_L1 t254 x10_2) x11_4) : Int) x10_2
            go_wp2_with (first | ((with_reducible refine gate_store (t := 3) (p := 118) rfl ?_); refine store_event (t := 3) (p := 118) (v := ?vo_w59) (w1 := (wr.setCell ⟨go56, ((rd (rd_L1 t254 x10_2) x11_4) : Int).toNat, none⟩ (.int .i64 x10_2))) ?hg ?ho ?hn ?hr ?_; (case ho => rfl); (case hg => rfl); (case hn => rfl); (case hr => first | (go_simp; done) | (go_simp; rfl)); intro w59 hw; have hg : wr.grownBy w59 (some go56) := (by rw [hw]; exact HP58.2); have hp_ : Kd.R (Kd.int .i64) 3 w59 w.heap.size (fun _ => True) (.slice (some ⟨go56, 0, none⟩) x7_4.length co57) y275 := (by rw [hw, Ny275.out]; exact HP58.1); clear HP58; have n0_ := Aside0.mk (Kd.S_after (v := (.slice (some ⟨go56, 0, none⟩) x7_4.length co57)) (v1 := (.slice (some ⟨go56, 0, none⟩) x7_4.length co57)) (ok := (fun _ => True)) (by (with_reducible repeat (first | apply Kd.S_alloc | apply Kd.S_drewN | apply Kd.S_drew)); exact Kd.S_mono HO_6.out (fun _ hk => ⟨trivial, hk⟩)) hg (.inl rfl)); have n1_ := Aside0.mk (hp_); have n2_ := Aside0.mk (blk_grown (g := gb251) (o := .cells #[.int .i64 a0_0, .slice A0_1 l0_1.length c0_1, .slice A0_2 l0_2.length c0_2] 33 (0, 0)) (by (with_reducible repeat (first | refine blk_drewN ?_ _ | refine blk_drew ?_ | refine blk_alloc ?_ _)); exact BK251.out) hg (Kd.R_ne HO_7.out BK251.out (by decide))); have n3_ := Aside0.mk (Kd.R_after (v := (.slice (some ⟨go56, 0, none⟩) x7_4.length co57)) (v1 := (.slice (some ⟨go56, 0, none⟩) x7_4.length co57)) (ok := (fun k_ => some k_ ≠ (.slice (some ad269) t254.length co32 : Value).ownBlock)) (by (with_reducible repeat (first | apply Kd.R_alloc | apply Kd.R_drewN | apply Kd.R_drew)); exact Kd.R_mono HL269_0.out (fun _ hk => ⟨hk.2, hk.1⟩)) hg (.inl rfl)); have n4_ := Aside0.mk (Kd.R_after (v := (.slice (some ⟨go56, 0, none⟩) x7_4.length co57)) (v1 := (.slice (some ⟨go56, 0, none⟩) x7_4.length co57)) (ok := (fun k_ => some k_ ≠ (.slice (some ad269) t254.length co32 : Value).ownBlock)) (by (with_reducible repeat (first | apply Kd.R_alloc | apply Kd.R_drewN | apply Kd.R_drew)); exact Kd.R_mono HL270_0.out (fun _ hk => ⟨hk.2, hk.1⟩)) hg (.inl rfl)); have n5_ := Aside0.mk (Kd.R_after (v := (.slice (some ⟨go56, 0, none⟩) x7_4.length co57)) (v1 := (.slice (some ⟨go56, 0, none⟩) x7_4.length co57)) (ok := (fun k_ => some k_ ≠ (.slice (some ad269) t254.length co32 : Value).ownBlock)) (by (with_reducible repeat (first | apply Kd.R_alloc | apply Kd.R_drewN | apply Kd.R_drew)); exact Kd.R_mono HL273_0.out (fun _ hk => ⟨hk.2, hk.1⟩)) hg (.inl rfl)); have n6_ := Aside0.mk ((by rw [hw]; exact below_set (HB.out) GB56.out : Below w.heap.size w w59)); clear HO_6; clear HO_7; clear BK251; clear HL269_0; clear HL270_0; clear HL273_0; clear HB; have HO_6 := n0_; have HO_7 := n1_; have BK251 := n2_; have HL269_0 := n3_; have HL270_0 := n4_; have HL273_0 := n5_; have HB := n6_; clear n0_ n1_ n2_ n3_ n4_ n5_ n6_; clear hg hw hp_))
            go_roundg k4
            case measure => have := HK1.out; have := HK2.out; have := HJ30.out; have := HK4.out; omega
            case rel => exact ⟨(y275), (wrap64 (x9_4 + 1)), (wrap64 (x11_4 + 1)), (by first | rfl | (simp; done) | (simp [*]; done)), (by first | rfl | (simp; done) | (simp [*]; done)), H', ⟨by have := HK1.out; have := HK2.out; have := HJ30.out; have := HK4.out; omega⟩, ⟨by (with_reducible repeat (first | apply Kd.S_alloc | apply Kd.S_drewN | apply Kd.S_drew)); exact Kd.S_mono HO_6.out (fun _ hk => hk.2)⟩, ⟨by (with_reducible repeat (first | apply Kd.R_alloc | apply Kd.R_drewN | apply Kd.R_drew)); exact HO_7.out⟩, ⟨by (with_reducible repeat (first | refine blk_drewN ?_ _ | refine blk_drew ?_ | refine blk_alloc ?_ _)); exact BK251.out⟩, ⟨by repeat (first | (with_reducible first | exact HB.out | apply below_alloc | apply pw_below_drewN | apply below_drew1 | refine below_set ?_ GE251.out) | exact HB.out)⟩⟩
           rw [if_neg c53] at H
           exact absurd H (by simp)
          rw [if_neg c52] at H
          exact absurd H (by simp)
         rw [if_neg c51] at H
         exact absurd H (by simp)
        rw [if_neg c50] at H
        have c50b0 : decide (x11_4 < ((rd_L1 t254 x10_2).length : Int)) = false := decide_eq_false c50
        clear c50
        have H' := Aside0.mk H
        clear H
        have p269 : 0 ≤ (x10_2 : Int) := of_decide_eq_true (by first | (with_reducible assumption) | assumption)
        have q269 : x10_2 < (t254.length : Int) := of_decide_eq_true (by first | (with_reducible assumption) | assumption)
        obtain ⟨ad269, A269_0, c269_0, e269, hx269_0, hl269_0, hi269_0⟩ := at_L1 (Kd.S_reads' HO_6.out).2.2 x10_2 p269 q269
        cases e269
        obtain ⟨ce269, hce269, hMe269, hcc269⟩ := Kd.S_get HO_6.out [] x10_2 p269 (by first | exact q269 | exact of_decide_eq_true (by first | (with_reducible assumption) | assumption) | (have e_ := (Kd.S_reads' HO_6.out).1; omega))
        obtain ⟨ve269_0, rfl, ge269_0⟩ := hMe269
        have hv269_0 := hcc269 0 _ rfl
        rw [Nat.add_zero, show ((Kd.slice 3 (Kd.int .i64))).sz = 1 from rfl, Nat.mul_one] at hv269_0
        replace hv269_0 := Option.some.inj (hv269_0.symm.trans hx269_0)
        rw [hv269_0] at ge269_0
        have HL269_0 := Aside0.mk (show Kd.R (Kd.int .i64) 3 _ _ _ _ (rd_L1 t254 x10_2) from ge269_0)
        clear hv269_0 ge269_0
        clear hcc269 hce269
        have HR269_0 := Aside0.mk hi269_0
        have HC269_0 := Aside0.mk hl269_0
        clear hi269_0 hl269_0
        replace p269 := eq_true p269
        replace q269 := eq_true q269
        go_wp2
        go_roundg k4
        case measure => have := HK1.out; have := HK2.out; have := HJ30.out; have := HK4.out; omega
        case rel => exact ⟨(x7_4), (x9_4), (wrap64 (x10_2 + 1)), (by first | rfl | (simp; done) | (simp [*]; done)), (by first | rfl | (simp; done) | (simp [*]; done)), H', ⟨by have := HK1.out; have := HK2.out; have := HJ30.out; have := HK4.out; omega⟩, ⟨by (with_reducible repeat (first | apply Kd.S_alloc | apply Kd.S_drewN | apply Kd.S_drew)); exact HO_6.out⟩, ⟨by (with_reducible repeat (first | apply Kd.R_alloc | apply Kd.R_drewN | apply Kd.R_drew)); exact HO_7.out⟩, ⟨by (with_reducible repeat (first | refine blk_drewN ?_ _ | refine blk_drew ?_ | refine blk_alloc ?_ _)); exact BK251.out⟩, ⟨by repeat (first | (with_reducible first | exact HB.out | apply below_alloc | apply pw_below_drewN | apply below_drew1 | refine below_set ?_ GE251.out) | exact HB.out)⟩⟩
       rw [if_neg c49] at H
       exact absurd H (by simp)
      rw [if_neg c48] at H
      exact absurd H (by simp)
     rw [if_neg c30] at H
     have c30b0 : decide (x10_2 < (t254.length : Int)) = false := decide_eq_false c30
     clear c30
     by_cases c60 : x9_2 = a0_0
     ·
      rw [if_pos c60] at H
      have c60b0 : (x9_2 == a0_0) = true := beq_iff_eq.mpr c60
      have c60b1 : (x9_2 != a0_0) = false := bne_eq_false_iff_eq.mpr c60
      clear c60
      have H' := Aside0.mk H
      clear H
      obtain ⟨Ao61, co61, eo61⟩ := Kd.S_slice HO_6.out
      subst eo61
      have hcz62_0 : wr.cell? ⟨gb251, 0, none⟩ = some (.int .i64 a0_0) := (blk_cell BK251.out 0).trans rfl
      have hcz62_1 : wr.cell? ⟨gb251, 1, none⟩ = some (.slice A0_1 l0_1.length c0_1) := (blk_cell BK251.out 1).trans rfl
      have hcz62_2 : wr.cell? ⟨gb251, 2, none⟩ = some (.slice A0_2 l0_2.length c0_2) := (blk_cell BK251.out 2).trans rfl
      have hfz62_0 := blk_frozen BK251.out 0
      have hfz62_1 := blk_frozen BK251.out 1
      have hfz62_2 := blk_frozen BK251.out 2
      go_wp2
      go_loopg [12, 13] k2 (fun kq v12 v13 w' => ∃ (x12_3 : Bool) (x13_3 : Int), v12 = .bool x12_3 ∧ v13 = .int .i64 x13_3 ∧ Aside0 (cleanselaw27_HyperComponents.l3 kq l1 t252 t254 x7_2 x12_3 x13_3 a0_0 l0_1 l0_2 = some r) ∧ Aside0 (kq ≤ k2) ∧ Aside0 (Kd.S (Kd.slice 3 (Kd.int .i64)) 27 w' w.heap.size (fun k_ => some k_ ≠ (v259 : Value).ownBlock) (.slice Ao61 t254.length co61) t254) ∧ Aside0 (Kd.R (Kd.int .i64) 3 w' w.heap.size (fun _ => True) v259 x7_2) ∧ Aside0 (w'.heap[gb251]? = some (.cells #[.int .i64 a0_0, (.slice A0_1 l0_1.length c0_1), (.slice A0_2 l0_2.length c0_2)] 33 (0, 0))) ∧ Aside0 (Below w.heap.size w w'))
      case atStart => exact ⟨(decide ((l1.length : Int) ≥ a0_0)), (0), (by first | rfl | (simp; done) | (simp [*]; done)), (by first | rfl | (simp; done) | (simp [*]; done)), H', ⟨Nat.le_refl _⟩, ⟨by (with_reducible repeat (first | apply Kd.S_alloc | apply Kd.S_drewN | apply Kd.S_drew)); exact HO_6.out⟩, ⟨by (with_reducible repeat (first | apply Kd.R_alloc | apply Kd.R_drewN | apply Kd.R_drew)); exact HO_7.out⟩, ⟨by (with_reducible repeat (first | refine blk_drewN ?_ _ | refine blk_drew ?_ | refine blk_alloc ?_ _)); exact BK251.out⟩, ⟨by repeat (first | (with_reducible first | exact HB.out | apply below_alloc | apply pw_below_drewN | apply below_drew1 | refine below_set ?_ GE251.out) | exact HB.out)⟩⟩
      clear H'
      try clear c2
      try clear p2
      try clear q2
      try clear hx2
      try clear c3
      try clear c4
      try clear c5
      try clear p5
      try clear q5
      try clear hx5
      try clear hf5
      try clear c6
      try clear p6
      try clear c23
      try clear c26
      try clear p26
      try clear q26
      try clear hx26
      try clear c27
      try clear p27
      try clear q27
      try clear hx27
      try clear c30
      try clear c30b0
      try clear c33
      try clear c37
      try clear c38
      try clear c38b0
      try clear c47
      try clear c48
      try clear c48b0
      try clear c49
      try clear c49b0
      try clear c50
      try clear c50b0
      try clear c51
      try clear c51b0
      try clear c52
      try clear c52b0
      try clear c53
      try clear c53b0
      try clear c54
      try clear c54b0
      try clear p56
      try clear q56
      try clear hx56
      try clear hf56
      try clear c60
      try clear c60b0
      try clear c60b1
      try clear hcz62_0
      try clear hcz62_1
      try clear hcz62_2
      try clear hfz62_0
      try clear hfz62_1
      try clear hfz62_2
      try clear hx262_0
      try clear hx263_0
      try clear hx269_0
      try clear hx270_0
      try clear hx271_0
      try clear hx272_0
      try clear hx273_0
      try clear hx274_0
      try clear hx56_0
      try clear p2
      try clear p26
      try clear p262
      try clear p263
      try clear p269
      try clear p270
      try clear p271
      try clear p272
      try clear p273
      try clear p274
      try clear p56
      try clear q2
      try clear q26
      try clear q262
      try clear q263
      try clear q269
      try clear q270
      try clear q271
      try clear q272
      try clear q273
      try clear q274
      try clear q56
      obtain ⟨x12_3, x13_3, rfl, rfl, HA, HK3, HO_6, HO_7, BK251, HB⟩ := hrel
      obtain ⟨k3, rfl⟩ : ∃ m, gk = m + 1 := by (cases gk with | zero => exact absurd HA.out (by simp [cleanselaw27_HyperComponents.l3]) | succ m => exact ⟨m, rfl⟩)
      have H := HA.out
      clear HA
      simp only [cleanselaw27_HyperComponents.l3] at H
      by_cases c63 : x13_3 < (l0_2.length : Int)
      ·
       rw [if_pos c63] at H
       have c63b0 : decide (x13_3 < (l0_2.length : Int)) = true := decide_eq_true c63
       clear c63
       have H' := Aside0.mk H
       clear H
       have hcz64_0 : wr.cell? ⟨gb251, 0, none⟩ = some (.int .i64 a0_0) := (blk_cell BK251.out 0).trans rfl
       have hcz64_1 : wr.cell? ⟨gb251, 1, none⟩ = some (.slice A0_1 l0_1.length c0_1) := (blk_cell BK251.out 1).trans rfl
       have hcz64_2 : wr.cell? ⟨gb251, 2, none⟩ = some (.slice A0_2 l0_2.length c0_2) := (blk_cell BK251.out 2).trans rfl
       have hfz64_0 := blk_frozen BK251.out 0
       have hfz64_1 := blk_frozen BK251.out 1
       have hfz64_2 := blk_frozen BK251.out 2
       go_wp2
       go_loopg [12, 14] k3 (fun kq v12 v14 w' => ∃ (x12_4 : Bool) (x14_4 : Int), v12 = .bool x12_4 ∧ v14 = .int .i64 x14_4 ∧ Aside0 (cleanselaw27_HyperComponents.l4 kq l1 t252 t254 x7_2 x12_4 x13_3 x14_4 a0_0 l0_1 l0_2 = some r) ∧ Aside0 (kq ≤ k3) ∧ Aside0 (Kd.S (Kd.slice 3 (Kd.int .i64)) 27 w' w.heap.size (fun k_ => some k_ ≠ (v259 : Value).ownBlock) (.slice Ao61 t254.length co61) t254) ∧ Aside0 (Kd.R (Kd.int .i64) 3 w' w.heap.size (fun _ => True) v259 x7_2) ∧ Aside0 (w'.heap[gb251]? = some (.cells #[.int .i64 a0_0, (.slice A0_1 l0_1.length c0_1), (.slice A0_2 l0_2.length c0_2)] 33 (0, 0))) ∧ Aside0 (Below w.heap.size w w'))
       case atStart => exact ⟨(x12_3), (1), (by first | rfl | (simp; done) | (simp [*]; done)), (by first | rfl | (simp; done) | (simp [*]; done)), H', ⟨Nat.le_refl _⟩, ⟨by (with_reducible repeat (first | apply Kd.S_alloc | apply Kd.S_drewN | apply Kd.S_drew)); exact HO_6.out⟩, ⟨by (with_reducible repeat (first | apply Kd.R_alloc | apply Kd.R_drewN | apply Kd.R_drew)); exact HO_7.out⟩, ⟨by (with_reducible repeat (first | refine blk_drewN ?_ _ | refine blk_drew ?_ | refine blk_alloc ?_ _)); exact BK251.out⟩, ⟨by repeat (first | (with_reducible first | exact HB.out | apply below_alloc | apply pw_below_drewN | apply below_drew1 | refine below_set ?_ GE251.out) | exact HB.out)⟩⟩
       clear H'
       try clear c2
       try clear p2
       try clear q2
       try clear hx2
       try clear c3
       try clear c4
       try clear c5
       try clear p5
       try clear q5
       try clear hx5
       try clear hf5
       try clear c6
       try clear p6
       try clear c23
       try clear c26
       try clear p26
       try clear q26
       try clear hx26
       try clear c27
       try clear p27
       try clear q27
       try clear hx27
       try clear c30
       try clear c30b0
       try clear c33
       try clear c37
       try clear c38
       try clear c38b0
       try clear c47
       try clear c48
       try clear c48b0
       try clear c49
       try clear c49b0
       try clear c50
       try clear c50b0
       try clear c51
       try clear c51b0
       try clear c52
       try clear c52b0
       try clear c53
       try clear c53b0
       try clear c54
       try clear c54b0
       try clear p56
       try clear q56
       try clear hx56
       try clear hf56
       try clear c60
       try clear c60b0
       try clear c60b1
       try clear c63
       try clear c63b0
       try clear p64
       try clear hcz62_0
       try clear hcz62_1
       try clear hcz62_2
       try clear hcz64_0
       try clear hcz64_1
       try clear hcz64_2
       try clear hfz62_0
       try clear hfz62_1
       try clear hfz62_2
       try clear hfz64_0
       try clear hfz64_1
       try clear hfz64_2
       try clear hx262_0
       try clear hx263_0
       try clear hx269_0
       try clear hx270_0
       try clear hx271_0
       try clear hx272_0
       try clear hx273_0
       try clear hx274_0
       try clear hx56_0
       try clear p2
       try clear p26
       try clear p262
       try clear p263
       try clear p269
       try clear p27
       try clear p270
       try clear p271
       try clear p272
       try clear p273
       try clear p274
       try clear p5
       try clear p56
       try clear p6
       try clear q2
       try clear q26
       try clear q262
       try clear q263
       try clear q269
       try clear q27
       try clear q270
       try clear q271
       try clear q272
       try clear q273
       try clear q274
       try clear q5
       try clear q56
       obtain ⟨x12_4, x14_4, rfl, rfl, HA, HK4, HO_6, HO_7, BK251, HB⟩ := hrel
       obtain ⟨k4, rfl⟩ : ∃ m, gk = m + 1 := by (cases gk with | zero => exact absurd HA.out (by simp [cleanselaw27_HyperComponents.l4]) | succ m => exact ⟨m, rfl⟩)
       have H := HA.out
       clear HA
       simp only [cleanselaw27_HyperComponents.l4] at H
       by_cases c65 : 0 ≤ x13_3
       ·
        rw [if_pos c65] at H
        have c65b0 : decide (0 ≤ x13_3) = true := decide_eq_true c65
        clear c65
        by_cases c66 : x13_3 < (l0_2.length : Int)
        ·
         rw [if_pos c66] at H
         have c66b0 : decide (x13_3 < (l0_2.length : Int)) = true := decide_eq_true c66
         clear c66
         by_cases c67 : x14_4 < ((rd_L1 l0_2 x13_3).length : Int)
         ·
          rw [if_pos c67] at H
          have c67b0 : decide (x14_4 < ((rd_L1 l0_2 x13_3).length : Int)) = true := decide_eq_true c67
          clear c67
          obtain ⟨ji68, hji68⟩ : ∃ j_ : Int, (wrap64 (x14_4 - 1)) = j_ := ⟨_, rfl⟩
          replace H : (if 0 ≤ (ji68) then (if (ji68) < ((rd_L1 l0_2 x13_3).length : Int) then (if 0 ≤ x14_4 then (if 0 ≤ (rd (rd_L1 l0_2 x13_3) (ji68)) then (if (rd (rd_L1 l0_2 x13_3) (ji68)) < (x7_2.length : Int) then (if 0 ≤ (rd (rd_L1 l0_2 x13_3) x14_4) then (if (rd (rd_L1 l0_2 x13_3) x14_4) < (x7_2.length : Int) then (if (rd x7_2 (rd (rd_L1 l0_2 x13_3) (ji68))) = (rd x7_2 (rd (rd_L1 l0_2 x13_3) x14_4)) then (if x12_4 = true then (if (rd (rd_L1 l0_2 x13_3) (ji68)) < (l1.length : Int) then (if (rd (rd_L1 l0_2 x13_3) x14_4) < (l1.length : Int) then (cleanselaw27_HyperComponents.l4 k4 l1 t252 t254 x7_2 ((rd l1 (rd (rd_L1 l0_2 x13_3) (ji68))) == (rd l1 (rd (rd_L1 l0_2 x13_3) x14_4))) x13_3 (wrap64 (x14_4 + 1)) a0_0 l0_1 l0_2) else (none)) else (none)) else (cleanselaw27_HyperComponents.l4 k4 l1 t252 t254 x7_2 false x13_3 (wrap64 (x14_4 + 1)) a0_0 l0_1 l0_2)) else (some false)) else (none)) else (none)) else (none)) else (none)) else (none)) else (none)) else (none)) = some r := by first | (rw [hji68] at H; exact H) | (simp only [hji68] at H ⊢; exact H)
          have hji68w : (IntKind.i64.wrap (x14_4 - 1)) = ji68 := (i64_w _).trans hji68
          by_cases c69 : 0 ≤ (ji68)
          ·
           rw [if_pos c69] at H
           have c69b0 : decide (0 ≤ (ji68)) = true := decide_eq_true c69
           clear c69
           by_cases c70 : (ji68) < ((rd_L1 l0_2 x13_3).length : Int)
           ·
            rw [if_pos c70] at H
            have c70b0 : decide ((ji68) < ((rd_L1 l0_2 x13_3).length : Int)) = true := decide_eq_true c70
            clear c70
            by_cases c71 : 0 ≤ x14_4
            ·
             rw [if_pos c71] at H
             have c71b0 : decide (0 ≤ x14_4) = true := decide_eq_true c71
             clear c71
             by_cases c72 : 0 ≤ (rd (rd_L1 l0_2 x13_3) (ji68))
             ·
              rw [if_pos c72] at H
              have c72b0 : decide (0 ≤ (rd (rd_L1 l0_2 x13_3) (ji68))) = true := decide_eq_true c72
              clear c72
              by_cases c73 : (rd (rd_L1 l0_2 x13_3) (ji68)) < (x7_2.length : Int)
              ·
               rw [if_pos c73] at H
               have c73b0 : decide ((rd (rd_L1 l0_2 x13_3) (ji68)) < (x7_2.length : Int)) = true := decide_eq_true c73
               clear c73
               by_cases c74 : 0 ≤ (rd (rd_L1 l0_2 x13_3) x14_4)
               ·
                rw [if_pos c74] at H
                have c74b0 : decide (0 ≤ (rd (rd_L1 l0_2 x13_3) x14_4)) = true := decide_eq_true c74
                clear c74
                by_cases c75 : (rd (rd_L1 l0_2 x13_3) x14_4) < (x7_2.length : Int)
                ·
                 rw [if_pos c75] at H
                 have c75b0 : decide ((rd (rd_L1 l0_2 x13_3) x14_4) < (x7_2.length : Int)) = true := decide_eq_true c75
                 clear c75
                 by_cases c76 : (rd x7_2 (rd (rd_L1 l0_2 x13_3) (ji68))) = (rd x7_2 (rd (rd_L1 l0_2 x13_3) x14_4))
                 ·
                  rw [if_pos c76] at H
                  have c76b0 : ((rd x7_2 (rd (rd_L1 l0_2 x13_3) (ji68))) == (rd x7_2 (rd (rd_L1 l0_2 x13_3) x14_4))) = true := beq_iff_eq.mpr c76
                  have c76b1 : ((rd x7_2 (rd (rd_L1 l0_2 x13_3) (ji68))) != (rd x7_2 (rd (rd_L1 l0_2 x13_3) x14_4))) = false := bne_eq_false_iff_eq.mpr c76
                  clear c76
                  by_cases c77 : x12_4 = true
                  ·
                   subst c77
                   have H1 : (if (rd (rd_L1 l0_2 x13_3) (ji68)) < (l1.length : Int) then (if (rd (rd_L1 l0_2 x13_3) x14_4) < (l1.length : Int) then (cleanselaw27_HyperComponents.l4 k4 l1 t252 t254 x7_2 ((rd l1 (rd (rd_L1 l0_2 x13_3) (ji68))) == (rd l1 (rd (rd_L1 l0_2 x13_3) x14_4))) x13_3 (wrap64 (x14_4 + 1)) a0_0 l0_1 l0_2) else (none)) else (none)) = some r := by rw [if_pos rfl] at H; exact H
                   clear H
                   have H := H1
                   clear H1
                   by_cases c78 : (rd (rd_L1 l0_2 x13_3) (ji68)) < (l1.length : Int)
                   ·
                    rw [if_pos c78] at H
                    have c78b0 : decide ((rd (rd_L1 l0_2 x13_3) (ji68)) < (l1.length : Int)) = true := decide_eq_true c78
                    clear c78
                    by_cases c79 : (rd (rd_L1 l0_2 x13_3) x14_4) < (l1.length : Int)
                    ·
                     rw [if_pos c79] at H
                     have c79b0 : decide ((rd (rd_L1 l0_2 x13_3) x14_4) < (l1.length : Int)) = true := decide_eq_true c79
                     clear c79
                     have H' := Aside0.mk H
                     clear H
                     have hcz80_0 : wr.cell? ⟨gb251, 0, none⟩ = some (.int .i64 a0_0) := (blk_cell BK251.out 0).trans rfl
                     have hcz80_1 : wr.cell? ⟨gb251, 1, none⟩ = some (.slice A0_1 l0_1.length c0_1) := (blk_cell BK251.out 1).trans rfl
                     have hcz80_2 : wr.cell? ⟨gb251, 2, none⟩ = some (.slice A0_2 l0_2.length c0_2) := (blk_cell BK251.out 2).trans rfl
                     have hfz80_0 := blk_frozen BK251.out 0
                     have hfz80_1 := blk_frozen BK251.out 1
                     have hfz80_2 := blk_frozen BK251.out 2
                     have p276 : 0 ≤ (x13_3 : Int) := of_decide_eq_true (by first | (with_reducible assumption) | assumption)
                     have q276 : x13_3 < (l0_2.length : Int) := of_decide_eq_true (by first | (with_reducible assumption) | assumption)
                     obtain ⟨ad276, A276_0, c276_0, e276, hx276_0, hl276_0, hi276_0⟩ := at_L1 HR0_2.out x13_3 p276 q276
                     cases e276
                     replace hx276_0 := (HB.out.cell (World.block_lt_of_cell? w _ hx276_0)).trans hx276_0
                     have HR276_0 := Aside0.mk hi276_0
                     have HC276_0 := Aside0.mk hl276_0
                     clear hi276_0 hl276_0
                     replace p276 := eq_true p276
                     replace q276 := eq_true q276
                     try go_wp2
                     have p277 : 0 ≤ (x13_3 : Int) := of_decide_eq_true (by first | (with_reducible assumption) | assumption)
                     have q277 : x13_3 < (l0_2.length : Int) := of_decide_eq_true (by first | (with_reducible assumption) | assumption)
                     obtain ⟨ad277, A277_0, c277_0, e277, hx277_0, hl277_0, hi277_0⟩ := at_L1 HR0_2.out x13_3 p277 q277
                     have hw277_0 := hx277_0
                     obtain rfl : ad276 = ad277 := (by injection e277)
                     replace hx277_0 := (HB.out.cell (World.block_lt_of_cell? w _ hx277_0)).trans hx277_0
                     have HR277_0 := Aside0.mk hi277_0
                     have HC277_0 := Aside0.mk hl277_0
                     clear hi277_0 hl277_0
                     replace p277 := eq_true p277
                     replace q277 := eq_true q277
                     have p278 : 0 ≤ ((ji68) : Int) := of_decide_eq_true (by first | (with_reducible assumption) | assumption)
                     have q278 : (ji68) < ((rd_L1 l0_2 x13_3).length : Int) := of_decide_eq_true (by first | (with_reducible assumption) | assumption)
                     obtain ⟨ad278, e278, hx278_0⟩ := Kd.at_int HR277_0.out (ji68) p278 q278
                     have hw278_0 := hx278_0
                     cases e278
                     replace hx278_0 := (HB.out.cell (World.block_lt_of_cell? w _ hx278_0)).trans hx278_0
                     replace p278 := eq_true p278
                     replace q278 := eq_true q278
                     have p279 : 0 ≤ (x13_3 : Int) := of_decide_eq_true (by first | (with_reducible assumption) | assumption)
                     have q279 : x13_3 < (l0_2.length : Int) := of_decide_eq_true (by first | (with_reducible assumption) | assumption)
                     obtain ⟨ad279, A279_0, c279_0, e279, hx279_0, hl279_0, hi279_0⟩ := at_L1 HR0_2.out x13_3 p279 q279
                     have hw279_0 := hx279_0
                     obtain rfl : ad276 = ad279 := (by injection e279)
                     replace hx279_0 := (HB.out.cell (World.block_lt_of_cell? w _ hx279_0)).trans hx279_0
                     have HR279_0 := Aside0.mk hi279_0
                     have HC279_0 := Aside0.mk hl279_0
                     clear hi279_0 hl279_0
                     replace p279 := eq_true p279
                     replace q279 := eq_true q279
                     have ea_ := Option.some.inj (hx277_0.symm.trans hx279_0)
                     injection ea_ with ea_ en_ ec_
                     subst ea_
                     subst ec_
                     clear en_
                     have p280 : 0 ≤ (x14_4 : Int) := of_decide_eq_true (by first | (with_reducible assumption) | assumption)
                     have q280 : x14_4 < ((rd_L1 l0_2 x13_3).length : Int) := of_decide_eq_true (by first | (with_reducible assumption) | assumption)
                     obtain ⟨ad280, e280, hx280_0⟩ := Kd.at_int HR279_0.out x14_4 p280 q280
                     have hw280_0 := hx280_0
                     cases e280
                     replace hx280_0 := (HB.out.cell (World.block_lt_of_cell? w _ hx280_0)).trans hx280_0
                     replace p280 := eq_true p280
                     replace q280 := eq_true q280
                     have hq1_ : ∀ n_ : Nat, (wr.drewN n_).cell? ⟨gb251, 0, none⟩ = some (.int .i64 a0_0) := fun n_ => (blk_cell BK251.out 0).trans rfl
                     have hq2_ : ∀ n_ : Nat, (wr.drewN n_).cell? ⟨gb251, 1, none⟩ = some (.slice A0_1 l0_1.length c0_1) := fun n_ => (blk_cell BK251.out 1).trans rfl
                     have hq3_ : ∀ n_ : Nat, (wr.drewN n_).cell? ⟨gb251, 2, none⟩ = some (.slice (some ad276) l0_2.length c0_2) := fun n_ => (blk_cell BK251.out 2).trans rfl
                     have hq4_ := fun n_ : Nat => (show (wr.drewN n_).cell? _ = _ from ((HB.out.cell (World.block_lt_of_cell? w _ hw277_0)).trans hw277_0))
                     have hq5_ := fun n_ : Nat => (show (wr.drewN n_).cell? _ = _ from ((HB.out.cell (World.block_lt_of_cell? w _ hw278_0)).trans hw278_0))
                     have hq6_ := fun n_ : Nat => (show (wr.drewN n_).cell? _ = _ from ((HB.out.cell (World.block_lt_of_cell? w _ hw279_0)).trans hw279_0))
                     have hq7_ := fun n_ : Nat => (show (wr.drewN n_).cell? _ = _ from ((HB.out.cell (World.block_lt_of_cell? w _ hw280_0)).trans hw280_0))
                     go_quiet (fail)
                     try go_wp2
                     obtain ⟨Ao83, co83, eo83⟩ := Kd.R_slice HO_7.out
                     (first | subst eo83 | (injection eo83 with f1_ f2_ f3_; have f4_ := f1_.symm; have f5_ := f3_.symm; clear f1_ f2_ f3_; subst f4_; subst f5_))
                     have p281 : 0 ≤ ((rd (rd_L1 l0_2 x13_3) (ji68)) : Int) := of_decide_eq_true (by first | (with_reducible assumption) | assumption)
                     have q281 : (rd (rd_L1 l0_2 x13_3) (ji68)) < (x7_2.length : Int) := of_decide_eq_true (by first | (with_reducible assumption) | assumption)
                     obtain ⟨ad281, e281, hx281_0⟩ := Kd.at_int (Kd.R_reads' HO_7.out).2.2 (rd (rd_L1 l0_2 x13_3) (ji68)) p281 q281
                     cases e281
                     replace p281 := eq_true p281
                     replace q281 := eq_true q281
                     have p282 : 0 ≤ ((rd (rd_L1 l0_2 x13_3) x14_4) : Int) := of_decide_eq_true (by first | (with_reducible assumption) | assumption)
                     have q282 : (rd (rd_L1 l0_2 x13_3) x14_4) < (x7_2.length : Int) := of_decide_eq_true (by first | (with_reducible assumption) | assumption)
                     obtain ⟨ad282, e282, hx282_0⟩ := Kd.at_int (Kd.R_reads' HO_7.out).2.2 (rd (rd_L1 l0_2 x13_3) x14_4) p282 q282
                     obtain rfl : ad281 = ad282 := (by injection e282)
                     replace p282 := eq_true p282
                     replace q282 := eq_true q282
                     have hq1_ := fun n_ : Nat => (show (wr.drewN n_).cell? _ = _ from hx281_0)
                     have hq2_ := fun n_ : Nat => (show (wr.drewN n_).cell? _ = _ from hx282_0)
                     go_quiet (fail)
                     try go_wp2
                     have p283 : 0 ≤ ((rd (rd_L1 l0_2 x13_3) (ji68)) : Int) := of_decide_eq_true (by first | (with_reducible assumption) | assumption)
                     have q283 : (rd (rd_L1 l0_2 x13_3) (ji68)) < (l1.length : Int) := of_decide_eq_true (by first | (with_reducible assumption) | assumption)
                     obtain ⟨ad283, e283, hx283_0⟩ := Kd.at_int HR1.out (rd (rd_L1 l0_2 x13_3) (ji68)) p283 q283
                     have hw283_0 := hx283_0
                     cases e283
                     replace hx283_0 := (HB.out.cell (World.block_lt_of_cell? w _ hx283_0)).trans hx283_0
                     replace p283 := eq_true p283
                     replace q283 := eq_true q283
                     have p284 : 0 ≤ ((rd (rd_L1 l0_2 x13_3) x14_4) : Int) := of_decide_eq_true (by first | (with_reducible assumption) | assumption)
                     have q284 : (rd (rd_L1 l0_2 x13_3) x14_4) < (l1.length : Int) := of_decide_eq_true (by first | (with_reducible assumption) | assumption)
                     obtain ⟨ad284, e284, hx284_0⟩ := Kd.at_int HR1.out (rd (rd_L1 l0_2 x13_3) x14_4) p284 q284
                     have hw284_0 := hx284_0
                     obtain rfl : ad283 = ad284 := (by injection e284)
                     replace hx284_0 := (HB.out.cell (World.block_lt_of_cell? w _ hx284_0)).trans hx284_0
                     replace p284 := eq_true p284
                     replace q284 := eq_true q284
                     have hq1_ := fun n_ : Nat => (show (wr.drewN n_).cell? _ = _ from ((HB.out.cell (World.block_lt_of_cell? w _ hw283_0)).trans hw283_0))
                     have hq2_ := fun n_ : Nat => (show (wr.drewN n_).cell? _ = _ from ((HB.out.cell (World.block_lt_of_cell? w _ hw284_0)).trans hw284_0))
                     go_quiet (fail)
                     try go_wp2
                     go_roundg k4
                     case measure => have := HK1.out; have := HK2.out; have := HK3.out; have := HK4.out; omega
                     case rel => exact ⟨(((rd l1 (rd (rd_L1 l0_2 x13_3) (ji68))) == (rd l1 (rd (rd_L1 l0_2 x13_3) x14_4)))), (wrap64 (x14_4 + 1)), (by first | rfl | (simp; done) | (simp only [← hji68] <;> (first | rfl | simp)) | (simp [*]; done)), (by first | rfl | (simp; done) | (simp [*]; done)), H', ⟨by have := HK1.out; have := HK2.out; have := HK3.out; have := HK4.out; omega⟩, ⟨by (with_reducible repeat (first | apply Kd.S_alloc | apply Kd.S_drewN | apply Kd.S_drew)); exact HO_6.out⟩, ⟨by (with_reducible repeat (first | apply Kd.R_alloc | apply Kd.R_drewN | apply Kd.R_drew)); exact HO_7.out⟩, ⟨by (with_reducible repeat (first | refine blk_drewN ?_ _ | refine blk_drew ?_ | refine blk_alloc ?_ _)); exact BK251.out⟩, ⟨by repeat (first | (with_reducible first | exact HB.out | apply below_alloc | apply pw_below_drewN | apply below_drew1 | refine below_set ?_ GE251.out) | exact HB.out)⟩⟩
                    rw [if_neg c79] at H
                    exact absurd H (by simp)
                   rw [if_neg c78] at H
                   exact absurd H (by simp)
                  replace c77 := Bool.eq_false_iff.mpr c77
                  subst c77
                  have H1 : (cleanselaw27_HyperComponents.l4 k4 l1 t252 t254 x7_2 false x13_3 (wrap64 (x14_4 + 1)) a0_0 l0_1 l0_2) = some r := by rw [if_neg (show ¬ (false = true) by decide)] at H; exact H
                  clear H
                  have H := H1
                  clear H1
                  have H' := Aside0.mk H
                  clear H
                  have hcz85_0 : wr.cell? ⟨gb251, 0, none⟩ = some (.int .i64 a0_0) := (blk_cell BK251.out 0).trans rfl
                  have hcz85_1 : wr.cell? ⟨gb251, 1, none⟩ = some (.slice A0_1 l0_1.length c0_1) := (blk_cell BK251.out 1).trans rfl
                  have hcz85_2 : wr.cell? ⟨gb251, 2, none⟩ = some (.slice A0_2 l0_2.length c0_2) := (blk_cell BK251.out 2).trans rfl
                  have hfz85_0 := blk_frozen BK251.out 0
                  have hfz85_1 := blk_frozen BK251.out 1
                  have hfz85_2 := blk_frozen BK251.out 2
                  have p276 : 0 ≤ (x13_3 : Int) := of_decide_eq_true (by first | (with_reducible assumption) | assumption)
                  have q276 : x13_3 < (l0_2.length : Int) := of_decide_eq_true (by first | (with_reducible assumption) | assumption)
                  obtain ⟨ad276, A276_0, c276_0, e276, hx276_0, hl276_0, hi276_0⟩ := at_L1 HR0_2.out x13_3 p276 q276
                  cases e276
                  replace hx276_0 := (HB.out.cell (World.block_lt_of_cell? w _ hx276_0)).trans hx276_0
                  have HR276_0 := Aside0.mk hi276_0
                  have HC276_0 := Aside0.mk hl276_0
                  clear hi276_0 hl276_0
                  replace p276 := eq_true p276
                  replace q276 := eq_true q276
                  try go_wp2
                  have p277 : 0 ≤ (x13_3 : Int) := of_decide_eq_true (by first | (with_reducible assumption) | assumption)
                  have q277 : x13_3 < (l0_2.length : Int) := of_decide_eq_true (by first | (with_reducible assumption) | assumption)
                  obtain ⟨ad277, A277_0, c277_0, e277, hx277_0, hl277_0, hi277_0⟩ := at_L1 HR0_2.out x13_3 p277 q277
                  have hw277_0 := hx277_0
                  obtain rfl : ad276 = ad277 := (by injection e277)
                  replace hx277_0 := (HB.out.cell (World.block_lt_of_cell? w _ hx277_0)).trans hx277_0
                  have HR277_0 := Aside0.mk hi277_0
                  have HC277_0 := Aside0.mk hl277_0
                  clear hi277_0 hl277_0
                  replace p277 := eq_true p277
                  replace q277 := eq_true q277
                  have p278 : 0 ≤ ((ji68) : Int) := of_decide_eq_true (by first | (with_reducible assumption) | assumption)
                  have q278 : (ji68) < ((rd_L1 l0_2 x13_3).length : Int) := of_decide_eq_true (by first | (with_reducible assumption) | assumption)
                  obtain ⟨ad278, e278, hx278_0⟩ := Kd.at_int HR277_0.out (ji68) p278 q278
                  have hw278_0 := hx278_0
                  cases e278
                  replace hx278_0 := (HB.out.cell (World.block_lt_of_cell? w _ hx278_0)).trans hx278_0
                  replace p278 := eq_true p278
                  replace q278 := eq_true q278
                  have p279 : 0 ≤ (x13_3 : Int) := of_decide_eq_true (by first | (with_reducible assumption) | assumption)
                  have q279 : x13_3 < (l0_2.length : Int) := of_decide_eq_true (by first | (with_reducible assumption) | assumption)
                  obtain ⟨ad279, A279_0, c279_0, e279, hx279_0, hl279_0, hi279_0⟩ := at_L1 HR0_2.out x13_3 p279 q279
                  have hw279_0 := hx279_0
                  obtain rfl : ad276 = ad279 := (by injection e279)
                  replace hx279_0 := (HB.out.cell (World.block_lt_of_cell? w _ hx279_0)).trans hx279_0
                  have HR279_0 := Aside0.mk hi279_0
                  have HC279_0 := Aside0.mk hl279_0
                  clear hi279_0 hl279_0
                  replace p279 := eq_true p279
                  replace q279 := eq_true q279
                  have ea_ := Option.some.inj (hx277_0.symm.trans hx279_0)
                  injection ea_ with ea_ en_ ec_
                  subst ea_
                  subst ec_
                  clear en_
                  have p280 : 0 ≤ (x14_4 : Int) := of_decide_eq_true (by first | (with_reducible assumption) | assumption)
                  have q280 : x14_4 < ((rd_L1 l0_2 x13_3).length : Int) := of_decide_eq_true (by first | (with_reducible assumption) | assumption)
                  obtain ⟨ad280, e280, hx280_0⟩ := Kd.at_int HR279_0.out x14_4 p280 q280
                  have hw280_0 := hx280_0
                  cases e280
                  replace hx280_0 := (HB.out.cell (World.block_lt_of_cell? w _ hx280_0)).trans hx280_0
                  replace p280 := eq_true p280
                  replace q280 := eq_true q280
                  have hq1_ : ∀ n_ : Nat, (wr.drewN n_).cell? ⟨gb251, 0, none⟩ = some (.int .i64 a0_0) := fun n_ => (blk_cell BK251.out 0).trans rfl
                  have hq2_ : ∀ n_ : Nat, (wr.drewN n_).cell? ⟨gb251, 1, none⟩ = some (.slice A0_1 l0_1.length c0_1) := fun n_ => (blk_cell BK251.out 1).trans rfl
                  have hq3_ : ∀ n_ : Nat, (wr.drewN n_).cell? ⟨gb251, 2, none⟩ = some (.slice (some ad276) l0_2.length c0_2) := fun n_ => (blk_cell BK251.out 2).trans rfl
                  have hq4_ := fun n_ : Nat => (show (wr.drewN n_).cell? _ = _ from ((HB.out.cell (World.block_lt_of_cell? w _ hw277_0)).trans hw277_0))
                  have hq5_ := fun n_ : Nat => (show (wr.drewN n_).cell? _ = _ from ((HB.out.cell (World.block_lt_of_cell? w _ hw278_0)).trans hw278_0))
                  have hq6_ := fun n_ : Nat => (show (wr.drewN n_).cell? _ = _ from ((HB.out.cell (World.block_lt_of_cell? w _ hw279_0)).trans hw279_0))
                  have hq7_ := fun n_ : Nat => (show (wr.drewN n_).cell? _ = _ from ((HB.out.cell (World.block_lt_of_cell? w _ hw280_0)).trans hw280_0))
                  go_quiet (fail)
                  try go_wp2
                  obtain ⟨Ao88, co88, eo88⟩ := Kd.R_slice HO_7.out
                  (first | subst eo88 | (injection eo88 with f1_ f2_ f3_; have f4_ := f1_.symm; have f5_ := f3_.symm; clear f1_ f2_ f3_; subst f4_; subst f5_))
                  have p281 : 0 ≤ ((rd (rd_L1 l0_2 x13_3) (ji68)) : Int) := of_decide_eq_true (by first | (with_reducible assumption) | assumption)
                  have q281 : (rd (rd_L1 l0_2 x13_3) (ji68)) < (x7_2.length : Int) := of_decide_eq_true (by first | (with_reducible assumption) | assumption)
                  obtain ⟨ad281, e281, hx281_0⟩ := Kd.at_int (Kd.R_reads' HO_7.out).2.2 (rd (rd_L1 l0_2 x13_3) (ji68)) p281 q281
                  cases e281
                  replace p281 := eq_true p281
                  replace q281 := eq_true q281
                  have p282 : 0 ≤ ((rd (rd_L1 l0_2 x13_3) x14_4) : Int) := of_decide_eq_true (by first | (with_reducible assumption) | assumption)
                  have q282 : (rd (rd_L1 l0_2 x13_3) x14_4) < (x7_2.length : Int) := of_decide_eq_true (by first | (with_reducible assumption) | assumption)
                  obtain ⟨ad282, e282, hx282_0⟩ := Kd.at_int (Kd.R_reads' HO_7.out).2.2 (rd (rd_L1 l0_2 x13_3) x14_4) p282 q282
                  obtain rfl : ad281 = ad282 := (by injection e282)
                  replace p282 := eq_true p282
                  replace q282 := eq_true q282
                  have hq1_ := fun n_ : Nat => (show (wr.drewN n_).cell? _ = _ from hx281_0)
                  have hq2_ := fun n_ : Nat => (show (wr.drewN n_).cell? _ = _ from hx282_0)
                  go_quiet (fail)
                  try go_wp2
                  go_quiet (fail)
                  try go_wp2
                  go_roundg k4
                  case measure => have := HK1.out; have := HK2.out; have := HK3.out; have := HK4.out; omega
                  case rel => exact ⟨(false), (wrap64 (x14_4 + 1)), (by first | rfl | (simp; done) | (simp [*]; done)), (by first | rfl | (simp; done) | (simp [*]; done)), H', ⟨by have := HK1.out; have := HK2.out; have := HK3.out; have := HK4.out; omega⟩, ⟨by (with_reducible repeat (first | apply Kd.S_alloc | apply Kd.S_drewN | apply Kd.S_drew)); exact HO_6.out⟩, ⟨by (with_reducible repeat (first | apply Kd.R_alloc | apply Kd.R_drewN | apply Kd.R_drew)); exact HO_7.out⟩, ⟨by (with_reducible repeat (first | refine blk_drewN ?_ _ | refine blk_drew ?_ | refine blk_alloc ?_ _)); exact BK251.out⟩, ⟨by repeat (first | (with_reducible first | exact HB.out | apply below_alloc | apply pw_below_drewN | apply below_drew1 | refine below_set ?_ GE251.out) | exact HB.out)⟩⟩
                 rw [if_neg c76] at H
                 have c76b0 : ((rd x7_2 (rd (rd_L1 l0_2 x13_3) (ji68))) == (rd x7_2 (rd (rd_L1 l0_2 x13_3) x14_4))) = false := beq_eq_false_iff_ne.mpr c76
                 have c76b1 : ((rd x7_2 (rd (rd_L1 l0_2 x13_3) (ji68))) != (rd x7_2 (rd (rd_L1 l0_2 x13_3) x14_4))) = true := bne_iff_ne.mpr c76
                 obtain rfl := Option.some.inj H
                 have hcz90_0 : wr.cell? ⟨gb251, 0, none⟩ = some (.int .i64 a0_0) := (blk_cell BK251.out 0).trans rfl
                 have hcz90_1 : wr.cell? ⟨gb251, 1, none⟩ = some (.slice A0_1 l0_1.length c0_1) := (blk_cell BK251.out 1).trans rfl
                 have hcz90_2 : wr.cell? ⟨gb251, 2, none⟩ = some (.slice A0_2 l0_2.length c0_2) := (blk_cell BK251.out 2).trans rfl
                 have hfz90_0 := blk_frozen BK251.out 0
                 have hfz90_1 := blk_frozen BK251.out 1
                 have hfz90_2 := blk_frozen BK251.out 2
                 have p276 : 0 ≤ (x13_3 : Int) := of_decide_eq_true (by first | (with_reducible assumption) | assumption)
                 have q276 : x13_3 < (l0_2.length : Int) := of_decide_eq_true (by first | (with_reducible assumption) | assumption)
                 obtain ⟨ad276, A276_0, c276_0, e276, hx276_0, hl276_0, hi276_0⟩ := at_L1 HR0_2.out x13_3 p276 q276
                 cases e276
                 replace hx276_0 := (HB.out.cell (World.block_lt_of_cell? w _ hx276_0)).trans hx276_0
                 have HR276_0 := Aside0.mk hi276_0
                 have HC276_0 := Aside0.mk hl276_0
                 clear hi276_0 hl276_0
                 replace p276 := eq_true p276
                 replace q276 := eq_true q276
                 try go_wp2
                 have p277 : 0 ≤ (x13_3 : Int) := of_decide_eq_true (by first | (with_reducible assumption) | assumption)
                 have q277 : x13_3 < (l0_2.length : Int) := of_decide_eq_true (by first | (with_reducible assumption) | assumption)
                 obtain ⟨ad277, A277_0, c277_0, e277, hx277_0, hl277_0, hi277_0⟩ := at_L1 HR0_2.out x13_3 p277 q277
                 have hw277_0 := hx277_0
                 obtain rfl : ad276 = ad277 := (by injection e277)
                 replace hx277_0 := (HB.out.cell (World.block_lt_of_cell? w _ hx277_0)).trans hx277_0
                 have HR277_0 := Aside0.mk hi277_0
                 have HC277_0 := Aside0.mk hl277_0
                 clear hi277_0 hl277_0
                 replace p277 := eq_true p277
                 replace q277 := eq_true q277
                 have p278 : 0 ≤ ((ji68) : Int) := of_decide_eq_true (by first | (with_reducible assumption) | assumption)
                 have q278 : (ji68) < ((rd_L1 l0_2 x13_3).length : Int) := of_decide_eq_true (by first | (with_reducible assumption) | assumption)
                 obtain ⟨ad278, e278, hx278_0⟩ := Kd.at_int HR277_0.out (ji68) p278 q278
                 have hw278_0 := hx278_0
                 cases e278
                 replace hx278_0 := (HB.out.cell (World.block_lt_of_cell? w _ hx278_0)).trans hx278_0
                 replace p278 := eq_true p278
                 replace q278 := eq_true q278
                 have p279 : 0 ≤ (x13_3 : Int) := of_decide_eq_true (by first | (with_reducible assumption) | assumption)
                 have q279 : x13_3 < (l0_2.length : Int) := of_decide_eq_true (by first | (with_reducible assumption) | assumption)
                 obtain ⟨ad279, A279_0, c279_0, e279, hx279_0, hl279_0, hi279_0⟩ := at_L1 HR0_2.out x13_3 p279 q279
                 have hw279_0 := hx279_0
                 obtain rfl : ad276 = ad279 := (by injection e279)
                 replace hx279_0 := (HB.out.cell (World.block_lt_of_cell? w _ hx279_0)).trans hx279_0
                 have HR279_0 := Aside0.mk hi279_0
                 have HC279_0 := Aside0.mk hl279_0
                 clear hi279_0 hl279_0
                 replace p279 := eq_true p279
                 replace q279 := eq_true q279
                 have ea_ := Option.some.inj (hx277_0.symm.trans hx279_0)
                 injection ea_ with ea_ en_ ec_
                 subst ea_
                 subst ec_
                 clear en_
                 have p280 : 0 ≤ (x14_4 : Int) := of_decide_eq_true (by first | (with_reducible assumption) | assumption)
                 have q280 : x14_4 < ((rd_L1 l0_2 x13_3).length : Int) := of_decide_eq_true (by first | (with_reducible assumption) | assumption)
                 obtain ⟨ad280, e280, hx280_0⟩ := Kd.at_int HR279_0.out x14_4 p280 q280
                 have hw280_0 := hx280_0
                 cases e280
                 replace hx280_0 := (HB.out.cell (World.block_lt_of_cell? w _ hx280_0)).trans hx280_0
                 replace p280 := eq_true p280
                 replace q280 := eq_true q280
                 have hq1_ : ∀ n_ : Nat, (wr.drewN n_).cell? ⟨gb251, 0, none⟩ = some (.int .i64 a0_0) := fun n_ => (blk_cell BK251.out 0).trans rfl
                 have hq2_ : ∀ n_ : Nat, (wr.drewN n_).cell? ⟨gb251, 1, none⟩ = some (.slice A0_1 l0_1.length c0_1) := fun n_ => (blk_cell BK251.out 1).trans rfl
                 have hq3_ : ∀ n_ : Nat, (wr.drewN n_).cell? ⟨gb251, 2, none⟩ = some (.slice (some ad276) l0_2.length c0_2) := fun n_ => (blk_cell BK251.out 2).trans rfl
                 have hq4_ := fun n_ : Nat => (show (wr.drewN n_).cell? _ = _ from ((HB.out.cell (World.block_lt_of_cell? w _ hw277_0)).trans hw277_0))
                 have hq5_ := fun n_ : Nat => (show (wr.drewN n_).cell? _ = _ from ((HB.out.cell (World.block_lt_of_cell? w _ hw278_0)).trans hw278_0))
                 have hq6_ := fun n_ : Nat => (show (wr.drewN n_).cell? _ = _ from ((HB.out.cell (World.block_lt_of_cell? w _ hw279_0)).trans hw279_0))
                 have hq7_ := fun n_ : Nat => (show (wr.drewN n_).cell? _ = _ from ((HB.out.cell (World.block_lt_of_cell? w _ hw280_0)).trans hw280_0))
                 go_quiet (fail)
                 try go_wp2
                 obtain ⟨Ao93, co93, eo93⟩ := Kd.R_slice HO_7.out
                 (first | subst eo93 | (injection eo93 with f1_ f2_ f3_; have f4_ := f1_.symm; have f5_ := f3_.symm; clear f1_ f2_ f3_; subst f4_; subst f5_))
                 have p281 : 0 ≤ ((rd (rd_L1 l0_2 x13_3) (ji68)) : Int) := of_decide_eq_true (by first | (with_reducible assumption) | assumption)
                 have q281 : (rd (rd_L1 l0_2 x13_3) (ji68)) < (x7_2.length : Int) := of_decide_eq_true (by first | (with_reducible assumption) | assumption)
                 obtain ⟨ad281, e281, hx281_0⟩ := Kd.at_int (Kd.R_reads' HO_7.out).2.2 (rd (rd_L1 l0_2 x13_3) (ji68)) p281 q281
                 cases e281
                 replace p281 := eq_true p281
                 replace q281 := eq_true q281
                 have p282 : 0 ≤ ((rd (rd_L1 l0_2 x13_3) x14_4) : Int) := of_decide_eq_true (by first | (with_reducible assumption) | assumption)
                 have q282 : (rd (rd_L1 l0_2 x13_3) x14_4) < (x7_2.length : Int) := of_decide_eq_true (by first | (with_reducible assumption) | assumption)
                 obtain ⟨ad282, e282, hx282_0⟩ := Kd.at_int (Kd.R_reads' HO_7.out).2.2 (rd (rd_L1 l0_2 x13_3) x14_4) p282 q282
                 obtain rfl : ad281 = ad282 := (by injection e282)
                 replace p282 := eq_true p282
                 replace q282 := eq_true q282
                 have hq1_ := fun n_ : Nat => (show (wr.drewN n_).cell? _ = _ from hx281_0)
                 have hq2_ := fun n_ : Nat => (show (wr.drewN n_).cell? _ = _ from hx282_0)
                 go_quiet (fail)
                 try go_wp2
                 go_ret
                 exact ⟨by first | rfl | (simp [errW_none, errW_some] <;> rfl) | (simp only [← hji68]; first | rfl | (simp [errW_none, errW_some] <;> rfl)) | (simp [*, errW_none, errW_some] <;> rfl), by repeat (first | (with_reducible first | exact HB.out | apply below_alloc | apply pw_below_drewN | apply below_drew1 | refine below_set ?_ GE251.out) | exact HB.out)⟩
                rw [if_neg c75] at H
                exact absurd H (by simp)
               rw [if_neg c74] at H
               exact absurd H (by simp)
              rw [if_neg c73] at H
              exact absurd H (by simp)
             rw [if_neg c72] at H
             exact absurd H (by simp)
            rw [if_neg c71] at H
            exact absurd H (by simp)
           rw [if_neg c70] at H
           exact absurd H (by simp)
          rw [if_neg c69] at H
          exact absurd H (by simp)
         rw [if_neg c67] at H
         have c67b0 : decide (x14_4 < ((rd_L1 l0_2 x13_3).length : Int)) = false := decide_eq_false c67
         clear c67
         have H' := Aside0.mk H
         clear H
         have hcz94_0 : wr.cell? ⟨gb251, 0, none⟩ = some (.int .i64 a0_0) := (blk_cell BK251.out 0).trans rfl
         have hcz94_1 : wr.cell? ⟨gb251, 1, none⟩ = some (.slice A0_1 l0_1.length c0_1) := (blk_cell BK251.out 1).trans rfl
         have hcz94_2 : wr.cell? ⟨gb251, 2, none⟩ = some (.slice A0_2 l0_2.length c0_2) := (blk_cell BK251.out 2).trans rfl
         have hfz94_0 := blk_frozen BK251.out 0
         have hfz94_1 := blk_frozen BK251.out 1
         have hfz94_2 := blk_frozen BK251.out 2
         have p276 : 0 ≤ (x13_3 : Int) := of_decide_eq_true (by first | (with_reducible assumption) | assumption)
         have q276 : x13_3 < (l0_2.length : Int) := of_decide_eq_true (by first | (with_reducible assumption) | assumption)
         obtain ⟨ad276, A276_0, c276_0, e276, hx276_0, hl276_0, hi276_0⟩ := at_L1 HR0_2.out x13_3 p276 q276
         cases e276
         replace hx276_0 := (HB.out.cell (World.block_lt_of_cell? w _ hx276_0)).trans hx276_0
         have HR276_0 := Aside0.mk hi276_0
         have HC276_0 := Aside0.mk hl276_0
         clear hi276_0 hl276_0
         replace p276 := eq_true p276
         replace q276 := eq_true q276
         go_wp2
         go_roundg k4
         case measure => have := HK1.out; have := HK2.out; have := HK3.out; have := HK4.out; omega
         case rel => exact ⟨(x12_4), (wrap64 (x13_3 + 1)), (by first | rfl | (simp; done) | (simp [*]; done)), (by first | rfl | (simp; done) | (simp [*]; done)), H', ⟨by have := HK1.out; have := HK2.out; have := HK3.out; have := HK4.out; omega⟩, ⟨by (with_reducible repeat (first | apply Kd.S_alloc | apply Kd.S_drewN | apply Kd.S_drew)); exact HO_6.out⟩, ⟨by (with_reducible repeat (first | apply Kd.R_alloc | apply Kd.R_drewN | apply Kd.R_drew)); exact HO_7.out⟩, ⟨by (with_reducible repeat (first | refine blk_drewN ?_ _ | refine blk_drew ?_ | refine blk_alloc ?_ _)); exact BK251.out⟩, ⟨by repeat (first | (with_reducible first | exact HB.out | apply below_alloc | apply pw_below_drewN | apply below_drew1 | refine below_set ?_ GE251.out) | exact HB.out)⟩⟩
        rw [if_neg c66] at H
        exact absurd H (by simp)
       rw [if_neg c65] at H
       exact absurd H (by simp)
      rw [if_neg c63] at H
      have c63b0 : decide (x13_3 < (l0_2.length : Int)) = false := decide_eq_false c63
      clear c63
      have H' := Aside0.mk H
      clear H
      have hcz95_0 : wr.cell? ⟨gb251, 0, none⟩ = some (.int .i64 a0_0) := (blk_cell BK251.out 0).trans rfl
      have hcz95_1 : wr.cell? ⟨gb251, 1, none⟩ = some (.slice A0_1 l0_1.length c0_1) := (blk_cell BK251.out 1).trans rfl
      have hcz95_2 : wr.cell? ⟨gb251, 2, none⟩ = some (.slice A0_2 l0_2.length c0_2) := (blk_cell BK251.out 2).trans rfl
      have hfz95_0 := blk_frozen BK251.out 0
      have hfz95_1 := blk_frozen BK251.out 1
      have hfz95_2 := blk_frozen BK251.out 2
      go_wp2
      go_loopg [17] k3 (fun kq v17 w' => ∃ (x17_4 : Int), v17 = .int .i64 x17_4 ∧ Aside0 (cleanselaw27_HyperComponents.l5 kq l1 t252 t254 x12_3 x17_4 = some r) ∧ Aside0 (kq ≤ k3) ∧ Aside0 (Kd.S (Kd.slice 3 (Kd.int .i64)) 27 w' w.heap.size (fun _ => True) (.slice Ao61 t254.length co61) t254) ∧ Aside0 (w'.heap[gb251]? = some (.cells #[.int .i64 a0_0, (.slice A0_1 l0_1.length c0_1), (.slice A0_2 l0_2.length c0_2)] 33 (0, 0))) ∧ Aside0 (Below w.heap.size w w'))
      case atStart => exact ⟨(0), (by first | rfl | (simp; done) | (simp [*]; done)), H', ⟨Nat.le_refl _⟩, ⟨by (with_reducible repeat (first | apply Kd.S_alloc | apply Kd.S_drewN | apply Kd.S_drew)); exact Kd.S_mono HO_6.out (fun _ hk => trivial)⟩, ⟨by (with_reducible repeat (first | refine blk_drewN ?_ _ | refine blk_drew ?_ | refine blk_alloc ?_ _)); exact BK251.out⟩, ⟨by repeat (first | (with_reducible first | exact HB.out | apply below_alloc | apply pw_below_drewN | apply below_drew1 | refine below_set ?_ GE251.out) | exact HB.out)⟩⟩
      clear H'
      try clear c2
      try clear p2
      try clear q2
      try clear hx2
      try clear c6
      try clear p6
      try clear c7
      try clear c27
      try clear p27
      try clear q27
      try clear hx27
      try clear p28
      try clear q28
      try clear hx28
      try clear c63
      try clear c63b0
      try clear p64
      try clear c65
      try clear c66
      try clear c67
      try clear c67b0
      try clear c69
      try clear c70
      try clear c71
      try clear c72
      try clear c73
      try clear c74
      try clear c75
      try clear c76
      try clear c76b0
      try clear c76b1
      try clear hcz90_0
      try clear hcz90_1
      try clear hcz90_2
      try clear hcz94_0
      try clear hcz94_1
      try clear hcz94_2
      try clear hcz95_0
      try clear hcz95_1
      try clear hcz95_2
      try clear hfz90_0
      try clear hfz90_1
      try clear hfz90_2
      try clear hfz94_0
      try clear hfz94_1
      try clear hfz94_2
      try clear hfz95_0
      try clear hfz95_1
      try clear hfz95_2
      try clear hx276_0
      try clear hx277_0
      try clear hx278_0
      try clear hx279_0
      try clear hx280_0
      try clear hx281_0
      try clear hx282_0
      try clear p276
      try clear p277
      try clear p278
      try clear p279
      try clear p280
      try clear p281
      try clear p282
      try clear q276
      try clear q277
      try clear q278
      try clear q279
      try clear q280
      try clear q281
      try clear q282
      obtain ⟨x17_4, rfl, HA, HK4, HO_6, BK251, HB⟩ := hrel
      obtain ⟨k4, rfl⟩ : ∃ m, gk = m + 1 := by (cases gk with | zero => exact absurd HA.out (by simp [cleanselaw27_HyperComponents.l5]) | succ m => exact ⟨m, rfl⟩)
      have H := HA.out
      clear HA
      simp only [cleanselaw27_HyperComponents.l5] at H
      have HC96 := Aside0.mk H
      clear H
      go_upto_region 39 with (fail)
      go_cut [191] (fun v191 wc => ∃ (kq : Nat) (x191_95 : Bool), v191 = .bool x191_95 ∧ Aside0 (cleanselaw27_HyperComponents.j7 kq l1 t252 t254 x12_3 x17_4 x191_95 = some r) ∧ Aside0 (kq ≤ k4) ∧ Aside0 (Kd.S (Kd.slice 3 (Kd.int .i64)) 27 wc w.heap.size (fun _ => True) (.slice Ao61 t254.length co61) t254) ∧ Aside0 (wc.heap[gb251]? = some (.cells #[.int .i64 a0_0, (.slice A0_1 l0_1.length c0_1), (.slice A0_2 l0_2.length c0_2)] 33 (0, 0))) ∧ Aside0 (Below w.heap.size w wc))
      case first =>
       have H := HC96.out
       clear HC96
       by_cases c97 : x17_4 < (t254.length : Int)
       ·
        rw [if_pos c97] at H
        have c97b0 : decide (x17_4 < (t254.length : Int)) = true := decide_eq_true c97
        clear c97
        (first | rw [c97b0] | (simp only [i64_w, i32_w]; rw [c97b0]) | skip)
        have H' := Aside0.mk H
        clear H
        go_wp2
        go_meet
        case rel => exact ⟨_, (x12_3), (by first | rfl | (simp; done) | (simp [*]; done)), H', ⟨by have := HK1.out; have := HK2.out; have := HK3.out; have := HK4.out; first | omega | exact Nat.le_refl _⟩, ⟨by (with_reducible repeat (first | apply Kd.S_alloc | apply Kd.S_drewN | apply Kd.S_drew)); exact HO_6.out⟩, ⟨by (with_reducible repeat (first | refine blk_drewN ?_ _ | refine blk_drew ?_ | refine blk_alloc ?_ _)); exact BK251.out⟩, ⟨by repeat (first | (with_reducible first | exact HB.out | apply below_alloc | apply pw_below_drewN | apply below_drew1 | refine below_set ?_ GE251.out) | exact HB.out)⟩⟩
       rw [if_neg c97] at H
       have c97b0 : decide (x17_4 < (t254.length : Int)) = false := decide_eq_false c97
       clear c97
       (first | rw [c97b0] | (simp only [i64_w, i32_w]; rw [c97b0]) | skip)
       have H' := Aside0.mk H
       clear H
       go_wp2
       go_meet
       case rel => exact ⟨_, (false), (by first | rfl | (simp; done) | (simp [*]; done)), H', ⟨by have := HK1.out; have := HK2.out; have := HK3.out; have := HK4.out; first | omega | exact Nat.le_refl _⟩, ⟨by (with_reducible repeat (first | apply Kd.S_alloc | apply Kd.S_drewN | apply Kd.S_drew)); exact HO_6.out⟩, ⟨by (with_reducible repeat (first | refine blk_drewN ?_ _ | refine blk_drew ?_ | refine blk_alloc ?_ _)); exact BK251.out⟩, ⟨by repeat (first | (with_reducible first | exact HB.out | apply below_alloc | apply pw_below_drewN | apply below_drew1 | refine below_set ?_ GE251.out) | exact HB.out)⟩⟩
      clear HC96
      try clear c2
      try clear p2
      try clear q2
      try clear hx2
      try clear c6
      try clear p6
      try clear c7
      try clear c9
      try clear c27
      try clear p27
      try clear q27
      try clear hx27
      try clear p28
      try clear q28
      try clear hx28
      try clear c63
      try clear c63b0
      try clear p64
      try clear c65
      try clear c66
      try clear c67
      try clear c67b0
      try clear c69
      try clear c70
      try clear c71
      try clear c72
      try clear c73
      try clear c74
      try clear c75
      try clear c76
      try clear c76b0
      try clear c76b1
      try clear c97
      try clear c97b0
      try clear hcz90_0
      try clear hcz90_1
      try clear hcz90_2
      try clear hcz94_0
      try clear hcz94_1
      try clear hcz94_2
      try clear hcz95_0
      try clear hcz95_1
      try clear hcz95_2
      try clear hfz90_0
      try clear hfz90_1
      try clear hfz90_2
      try clear hfz94_0
      try clear hfz94_1
      try clear hfz94_2
      try clear hfz95_0
      try clear hfz95_1
      try clear hfz95_2
      try clear hx276_0
      try clear hx277_0
      try clear hx278_0
      try clear hx279_0
      try clear hx280_0
      try clear hx281_0
      try clear hx282_0
      try clear p2
      try clear p27
      try clear p276
      try clear p277
      try clear p278
      try clear p279
      try clear p28
      try clear p280
      try clear p281
      try clear p282
      try clear p6
      try clear p64
      try clear q2
      try clear q27
      try clear q276
      try clear q277
      try clear q278
      try clear q279
      try clear q28
      try clear q280
      try clear q281
      try clear q282
      obtain ⟨kq, x191_95, rfl, HA, HJ95, HO_6, BK251, HB⟩ := hcut
      obtain ⟨kj95, rfl⟩ : ∃ m, kq = m + 1 := by (cases kq with | zero => exact absurd HA.out (by simp [cleanselaw27_HyperComponents.j7]) | succ m => exact ⟨m, rfl⟩)
      have H := HA.out
      clear HA
      simp only [cleanselaw27_HyperComponents.j7] at H
      by_cases c98 : x191_95 = true
      ·
       subst c98
       have H1 : (cleanselaw27_HyperComponents.l6 kj95 l1 t252 t254 x12_3 x17_4 0) = some r := by rw [if_pos rfl] at H; exact H
       clear H
       have H := H1
       clear H1
       have H' := Aside0.mk H
       clear H
       go_wp2
       go_loopg [18] kj95 (fun kq v18 w' => ∃ (x18_6 : Int), v18 = .int .i64 x18_6 ∧ Aside0 (cleanselaw27_HyperComponents.l6 kq l1 t252 t254 x12_3 x17_4 x18_6 = some r) ∧ Aside0 (kq ≤ kj95) ∧ Aside0 (Kd.S (Kd.slice 3 (Kd.int .i64)) 27 w' w.heap.size (fun _ => True) (.slice Ao61 t254.length co61) t254) ∧ Aside0 (w'.heap[gb251]? = some (.cells #[.int .i64 a0_0, (.slice A0_1 l0_1.length c0_1), (.slice A0_2 l0_2.length c0_2)] 33 (0, 0))) ∧ Aside0 (Below w.heap.size w w'))
       case atStart => exact ⟨(0), (by first | rfl | (simp; done) | (simp [*]; done)), H', ⟨Nat.le_refl _⟩, ⟨by (with_reducible repeat (first | apply Kd.S_alloc | apply Kd.S_drewN | apply Kd.S_drew)); exact HO_6.out⟩, ⟨by (with_reducible repeat (first | refine blk_drewN ?_ _ | refine blk_drew ?_ | refine blk_alloc ?_ _)); exact BK251.out⟩, ⟨by repeat (first | (with_reducible first | exact HB.out | apply below_alloc | apply pw_below_drewN | apply below_drew1 | refine below_set ?_ GE251.out) | exact HB.out)⟩⟩
       clear H'
       try clear c2
       try clear p2
       try clear q2
       try clear hx2
       try clear c6
       try clear p6
       try clear c7
       try clear c9
       try clear c27
       try clear p27
       try clear q27
       try clear hx27
       try clear p28
       try clear q28
       try clear hx28
       try clear c63
       try clear c63b0
       try clear p64
       try clear c65
       try clear c66
       try clear c67
       try clear c67b0
       try clear c69
       try clear c70
       try clear c71
       try clear c72
       try clear c73
       try clear c74
       try clear c75
       try clear c76
       try clear c76b0
       try clear c76b1
       try clear c97
       try clear c97b0
       try clear c98
       try clear hcz90_0
       try clear hcz90_1
       try clear hcz90_2
       try clear hcz94_0
       try clear hcz94_1
       try clear hcz94_2
       try clear hcz95_0
       try clear hcz95_1
       try clear hcz95_2
       try clear hfz90_0
       try clear hfz90_1
       try clear hfz90_2
       try clear hfz94_0
       try clear hfz94_1
       try clear hfz94_2
       try clear hfz95_0
       try clear hfz95_1
       try clear hfz95_2
       try clear hx276_0
       try clear hx277_0
       try clear hx278_0
       try clear hx279_0
       try clear hx280_0
       try clear hx281_0
       try clear hx282_0
       try clear p2
       try clear p27
       try clear p276
       try clear p277
       try clear p278
       try clear p279
       try clear p28
       try clear p280
       try clear p281
       try clear p282
       try clear p6
       try clear p64
       try clear q2
       try clear q27
       try clear q276
       try clear q277
       try clear q278
       try clear q279
       try clear q28
       try clear q280
       try clear q281
       try clear q282
       obtain ⟨x18_6, rfl, HA, HK6, HO_6, BK251, HB⟩ := hrel
       obtain ⟨k6, rfl⟩ : ∃ m, gk = m + 1 := by (cases gk with | zero => exact absurd HA.out (by simp [cleanselaw27_HyperComponents.l6]) | succ m => exact ⟨m, rfl⟩)
       have H := HA.out
       clear HA
       simp only [cleanselaw27_HyperComponents.l6] at H
       by_cases c99 : 0 ≤ x17_4
       ·
        rw [if_pos c99] at H
        have c99b0 : decide (0 ≤ x17_4) = true := decide_eq_true c99
        clear c99
        by_cases c100 : x17_4 < (t254.length : Int)
        ·
         rw [if_pos c100] at H
         have c100b0 : decide (x17_4 < (t254.length : Int)) = true := decide_eq_true c100
         clear c100
         by_cases c101 : x18_6 < ((rd_L1 t254 x17_4).length : Int)
         ·
          rw [if_pos c101] at H
          have c101b0 : decide (x18_6 < ((rd_L1 t254 x17_4).length : Int)) = true := decide_eq_true c101
          clear c101
          by_cases c102 : 0 ≤ x18_6
          ·
           rw [if_pos c102] at H
           have c102b0 : decide (0 ≤ x18_6) = true := decide_eq_true c102
           clear c102
           by_cases c103 : 0 ≤ (rd (rd_L1 t254 x17_4) x18_6)
           ·
            rw [if_pos c103] at H
            have c103b0 : decide (0 ≤ (rd (rd_L1 t254 x17_4) x18_6)) = true := decide_eq_true c103
            clear c103
            by_cases c104 : (rd (rd_L1 t254 x17_4) x18_6) < (l1.length : Int)
            ·
             rw [if_pos c104] at H
             have c104b0 : decide ((rd (rd_L1 t254 x17_4) x18_6) < (l1.length : Int)) = true := decide_eq_true c104
             clear c104
             by_cases c105 : 0 < ((rd_L1 t254 x17_4).length : Int)
             ·
              rw [if_pos c105] at H
              have c105b0 : decide (0 < ((rd_L1 t254 x17_4).length : Int)) = true := decide_eq_true c105
              have c105b1 : decide (0 < (rd_L1 t254 x17_4).length) = true := decide_eq_true (by omega)
              clear c105
              by_cases c106 : 0 ≤ (rd (rd_L1 t254 x17_4) 0)
              ·
               rw [if_pos c106] at H
               have c106b0 : decide (0 ≤ (rd (rd_L1 t254 x17_4) 0)) = true := decide_eq_true c106
               clear c106
               by_cases c107 : (rd (rd_L1 t254 x17_4) 0) < (l1.length : Int)
               ·
                rw [if_pos c107] at H
                have c107b0 : decide ((rd (rd_L1 t254 x17_4) 0) < (l1.length : Int)) = true := decide_eq_true c107
                clear c107
                by_cases c108 : (rd l1 (rd (rd_L1 t254 x17_4) x18_6)) = (rd l1 (rd (rd_L1 t254 x17_4) 0))
                ·
                 rw [if_pos c108] at H
                 have c108b0 : ((rd l1 (rd (rd_L1 t254 x17_4) x18_6)) == (rd l1 (rd (rd_L1 t254 x17_4) 0))) = true := beq_iff_eq.mpr c108
                 have c108b1 : ((rd l1 (rd (rd_L1 t254 x17_4) x18_6)) != (rd l1 (rd (rd_L1 t254 x17_4) 0))) = false := bne_eq_false_iff_eq.mpr c108
                 clear c108
                 have H' := Aside0.mk H
                 clear H
                 have p285 : 0 ≤ (x17_4 : Int) := of_decide_eq_true (by first | (with_reducible assumption) | assumption)
                 have q285 : x17_4 < (t254.length : Int) := of_decide_eq_true (by first | (with_reducible assumption) | assumption)
                 obtain ⟨ad285, A285_0, c285_0, e285, hx285_0, hl285_0, hi285_0⟩ := at_L1 (Kd.S_reads' HO_6.out).2.2 x17_4 p285 q285
                 cases e285
                 obtain ⟨ce285, hce285, hMe285, hcc285⟩ := Kd.S_get HO_6.out [] x17_4 p285 (by first | exact q285 | exact of_decide_eq_true (by first | (with_reducible assumption) | assumption) | (have e_ := (Kd.S_reads' HO_6.out).1; omega))
                 obtain ⟨ve285_0, rfl, ge285_0⟩ := hMe285
                 have hv285_0 := hcc285 0 _ rfl
                 rw [Nat.add_zero, show ((Kd.slice 3 (Kd.int .i64))).sz = 1 from rfl, Nat.mul_one] at hv285_0
                 replace hv285_0 := Option.some.inj (hv285_0.symm.trans hx285_0)
                 rw [hv285_0] at ge285_0
                 have HL285_0 := Aside0.mk (show Kd.R (Kd.int .i64) 3 _ _ _ _ (rd_L1 t254 x17_4) from ge285_0)
                 clear hv285_0 ge285_0
                 clear hcc285 hce285
                 have HR285_0 := Aside0.mk hi285_0
                 have HC285_0 := Aside0.mk hl285_0
                 clear hi285_0 hl285_0
                 replace p285 := eq_true p285
                 replace q285 := eq_true q285
                 try go_wp2
                 have p286 : 0 ≤ (x17_4 : Int) := of_decide_eq_true (by first | (with_reducible assumption) | assumption)
                 have q286 : x17_4 < (t254.length : Int) := of_decide_eq_true (by first | (with_reducible assumption) | assumption)
                 obtain ⟨ad286, A286_0, c286_0, e286, hx286_0, hl286_0, hi286_0⟩ := at_L1 (Kd.S_reads' HO_6.out).2.2 x17_4 p286 q286
                 obtain rfl : ad285 = ad286 := (by injection e286)
                 obtain ⟨ce286, hce286, hMe286, hcc286⟩ := Kd.S_get HO_6.out [] x17_4 p286 (by first | exact q286 | exact of_decide_eq_true (by first | (with_reducible assumption) | assumption) | (have e_ := (Kd.S_reads' HO_6.out).1; omega))
                 obtain ⟨ve286_0, rfl, ge286_0⟩ := hMe286
                 have hv286_0 := hcc286 0 _ rfl
                 rw [Nat.add_zero, show ((Kd.slice 3 (Kd.int .i64))).sz = 1 from rfl, Nat.mul_one] at hv286_0
                 replace hv286_0 := Option.some.inj (hv286_0.symm.trans hx286_0)
                 rw [hv286_0] at ge286_0
                 have HL286_0 := Aside0.mk (show Kd.R (Kd.int .i64) 3 _ _ _ _ (rd_L1 t254 x17_4) from ge286_0)
                 clear hv286_0 ge286_0
                 clear hcc286 hce286
                 have HR286_0 := Aside0.mk hi286_0
                 have HC286_0 := Aside0.mk hl286_0
                 clear hi286_0 hl286_0
                 replace p286 := eq_true p286
                 replace q286 := eq_true q286
                 have p287 : 0 ≤ (x18_6 : Int) := of_decide_eq_true (by first | (with_reducible assumption) | assumption)
                 have q287 : x18_6 < ((rd_L1 t254 x17_4).length : Int) := of_decide_eq_true (by first | (with_reducible assumption) | assumption)
                 obtain ⟨ad287, e287, hx287_0⟩ := Kd.at_int (by repeat (first | (with_reducible exact HR286_0.out) | (with_reducible refine Kd.C_alloc ?_ _) | (with_reducible refine Kd.C_drewN ?_ _) | (with_reducible refine Kd.C_drew ?_) | exact HR286_0.out)) x18_6 p287 q287
                 cases e287
                 replace p287 := eq_true p287
                 replace q287 := eq_true q287
                 have p288 : 0 ≤ ((rd (rd_L1 t254 x17_4) x18_6) : Int) := of_decide_eq_true (by first | (with_reducible assumption) | assumption)
                 have q288 : (rd (rd_L1 t254 x17_4) x18_6) < (l1.length : Int) := of_decide_eq_true (by first | (with_reducible assumption) | assumption)
                 obtain ⟨ad288, e288, hx288_0⟩ := Kd.at_int HR1.out (rd (rd_L1 t254 x17_4) x18_6) p288 q288
                 have hw288_0 := hx288_0
                 cases e288
                 replace hx288_0 := (HB.out.cell (World.block_lt_of_cell? w _ hx288_0)).trans hx288_0
                 replace p288 := eq_true p288
                 replace q288 := eq_true q288
                 have p289 : 0 ≤ (x17_4 : Int) := of_decide_eq_true (by first | (with_reducible assumption) | assumption)
                 have q289 : x17_4 < (t254.length : Int) := of_decide_eq_true (by first | (with_reducible assumption) | assumption)
                 obtain ⟨ad289, A289_0, c289_0, e289, hx289_0, hl289_0, hi289_0⟩ := at_L1 (Kd.S_reads' HO_6.out).2.2 x17_4 p289 q289
                 obtain rfl : ad285 = ad289 := (by injection e289)
                 obtain ⟨ce289, hce289, hMe289, hcc289⟩ := Kd.S_get HO_6.out [] x17_4 p289 (by first | exact q289 | exact of_decide_eq_true (by first | (with_reducible assumption) | assumption) | (have e_ := (Kd.S_reads' HO_6.out).1; omega))
                 obtain ⟨ve289_0, rfl, ge289_0⟩ := hMe289
                 have hv289_0 := hcc289 0 _ rfl
                 rw [Nat.add_zero, show ((Kd.slice 3 (Kd.int .i64))).sz = 1 from rfl, Nat.mul_one] at hv289_0
                 replace hv289_0 := Option.some.inj (hv289_0.symm.trans hx289_0)
                 rw [hv289_0] at ge289_0
                 have HL289_0 := Aside0.mk (show Kd.R (Kd.int .i64) 3 _ _ _ _ (rd_L1 t254 x17_4) from ge289_0)
                 clear hv289_0 ge289_0
                 clear hcc289 hce289
                 have HR289_0 := Aside0.mk hi289_0
                 have HC289_0 := Aside0.mk hl289_0
                 clear hi289_0 hl289_0
                 replace p289 := eq_true p289
                 replace q289 := eq_true q289
                 have ea_ := Option.some.inj (hx286_0.symm.trans hx289_0)
                 injection ea_ with ea_ en_ ec_
                 subst ea_
                 subst ec_
                 clear en_
                 have p290 : 0 ≤ (0 : Int) := (by omega)
                 have q290 : 0 < ((rd_L1 t254 x17_4).length : Int) := of_decide_eq_true (by first | (with_reducible assumption) | assumption)
                 obtain ⟨ad290, e290, hx290_0⟩ := Kd.at_int (by repeat (first | (with_reducible exact HR289_0.out) | (with_reducible refine Kd.C_alloc ?_ _) | (with_reducible refine Kd.C_drewN ?_ _) | (with_reducible refine Kd.C_drew ?_) | exact HR289_0.out)) 0 p290 q290
                 cases e290
                 have qi290 : (0 < (rd_L1 t254 x17_4).length) = True := eq_true (by omega)
                 (try rw [show ((0 : Int)).toNat = 0 from rfl] at hx290_0)
                 (try rw [Addr.add_zero'] at hx290_0)
                 replace p290 := eq_true p290
                 replace q290 := eq_true q290
                 have p291 : 0 ≤ ((rd (rd_L1 t254 x17_4) 0) : Int) := of_decide_eq_true (by first | (with_reducible assumption) | assumption)
                 have q291 : (rd (rd_L1 t254 x17_4) 0) < (l1.length : Int) := of_decide_eq_true (by first | (with_reducible assumption) | assumption)
                 obtain ⟨ad291, e291, hx291_0⟩ := Kd.at_int HR1.out (rd (rd_L1 t254 x17_4) 0) p291 q291
                 have hw291_0 := hx291_0
                 obtain rfl : ad288 = ad291 := (by injection e291)
                 replace hx291_0 := (HB.out.cell (World.block_lt_of_cell? w _ hx291_0)).trans hx291_0
                 replace p291 := eq_true p291
                 replace q291 := eq_true q291
                 have hq1_ := fun n_ : Nat => (show (wr.drewN n_).cell? _ = _ from hx286_0)
                 have hq2_ := fun n_ : Nat => (show (wr.drewN n_).cell? _ = _ from hx287_0)
                 have hq3_ := fun n_ : Nat => (show (wr.drewN n_).cell? _ = _ from ((HB.out.cell (World.block_lt_of_cell? w _ hw288_0)).trans hw288_0))
                 have hq4_ := fun n_ : Nat => (show (wr.drewN n_).cell? _ = _ from hx289_0)
                 have hq5_ := fun n_ : Nat => (show (wr.drewN n_).cell? _ = _ from hx290_0)
                 have hq6_ := fun n_ : Nat => (show (wr.drewN n_).cell? _ = _ from ((HB.out.cell (World.block_lt_of_cell? w _ hw291_0)).trans hw291_0))
                 go_quiet (fail)
                 try go_wp2
                 go_roundg k6
                 case measure => have := HK1.out; have := HK2.out; have := HK3.out; have := HK4.out; have := HJ95.out; have := HK6.out; omega
                 case rel => exact ⟨(wrap64 (x18_6 + 1)), (by first | rfl | (simp; done) | (simp [*]; done)), H', ⟨by have := HK1.out; have := HK2.out; have := HK3.out; have := HK4.out; have := HJ95.out; have := HK6.out; omega⟩, ⟨by (with_reducible repeat (first | apply Kd.S_alloc | apply Kd.S_drewN | apply Kd.S_drew)); exact HO_6.out⟩, ⟨by (with_reducible repeat (first | refine blk_drewN ?_ _ | refine blk_drew ?_ | refine blk_alloc ?_ _)); exact BK251.out⟩, ⟨by repeat (first | (with_reducible first | exact HB.out | apply below_alloc | apply pw_below_drewN | apply below_drew1 | refine below_set ?_ GE251.out) | exact HB.out)⟩⟩
                rw [if_neg c108] at H
                have c108b0 : ((rd l1 (rd (rd_L1 t254 x17_4) x18_6)) == (rd l1 (rd (rd_L1 t254 x17_4) 0))) = false := beq_eq_false_iff_ne.mpr c108
                have c108b1 : ((rd l1 (rd (rd_L1 t254 x17_4) x18_6)) != (rd l1 (rd (rd_L1 t254 x17_4) 0))) = true := bne_iff_ne.mpr c108
                obtain rfl := Option.some.inj H
                have p285 : 0 ≤ (x17_4 : Int) := of_decide_eq_true (by first | (with_reducible assumption) | assumption)
                have q285 : x17_4 < (t254.length : Int) := of_decide_eq_true (by first | (with_reducible assumption) | assumption)
                obtain ⟨ad285, A285_0, c285_0, e285, hx285_0, hl285_0, hi285_0⟩ := at_L1 (Kd.S_reads' HO_6.out).2.2 x17_4 p285 q285
                cases e285
                obtain ⟨ce285, hce285, hMe285, hcc285⟩ := Kd.S_get HO_6.out [] x17_4 p285 (by first | exact q285 | exact of_decide_eq_true (by first | (with_reducible assumption) | assumption) | (have e_ := (Kd.S_reads' HO_6.out).1; omega))
                obtain ⟨ve285_0, rfl, ge285_0⟩ := hMe285
                have hv285_0 := hcc285 0 _ rfl
                rw [Nat.add_zero, show ((Kd.slice 3 (Kd.int .i64))).sz = 1 from rfl, Nat.mul_one] at hv285_0
                replace hv285_0 := Option.some.inj (hv285_0.symm.trans hx285_0)
                rw [hv285_0] at ge285_0
                have HL285_0 := Aside0.mk (show Kd.R (Kd.int .i64) 3 _ _ _ _ (rd_L1 t254 x17_4) from ge285_0)
                clear hv285_0 ge285_0
                clear hcc285 hce285
                have HR285_0 := Aside0.mk hi285_0
                have HC285_0 := Aside0.mk hl285_0
                clear hi285_0 hl285_0
                replace p285 := eq_true p285
                replace q285 := eq_true q285
                try go_wp2
                have p286 : 0 ≤ (x17_4 : Int) := of_decide_eq_true (by first | (with_reducible assumption) | assumption)
                have q286 : x17_4 < (t254.length : Int) := of_decide_eq_true (by first | (with_reducible assumption) | assumption)
                obtain ⟨ad286, A286_0, c286_0, e286, hx286_0, hl286_0, hi286_0⟩ := at_L1 (Kd.S_reads' HO_6.out).2.2 x17_4 p286 q286
                obtain rfl : ad285 = ad286 := (by injection e286)
                obtain ⟨ce286, hce286, hMe286, hcc286⟩ := Kd.S_get HO_6.out [] x17_4 p286 (by first | exact q286 | exact of_decide_eq_true (by first | (with_reducible assumption) | assumption) | (have e_ := (Kd.S_reads' HO_6.out).1; omega))
                obtain ⟨ve286_0, rfl, ge286_0⟩ := hMe286
                have hv286_0 := hcc286 0 _ rfl
                rw [Nat.add_zero, show ((Kd.slice 3 (Kd.int .i64))).sz = 1 from rfl, Nat.mul_one] at hv286_0
                replace hv286_0 := Option.some.inj (hv286_0.symm.trans hx286_0)
                rw [hv286_0] at ge286_0
                have HL286_0 := Aside0.mk (show Kd.R (Kd.int .i64) 3 _ _ _ _ (rd_L1 t254 x17_4) from ge286_0)
                clear hv286_0 ge286_0
                clear hcc286 hce286
                have HR286_0 := Aside0.mk hi286_0
                have HC286_0 := Aside0.mk hl286_0
                clear hi286_0 hl286_0
                replace p286 := eq_true p286
                replace q286 := eq_true q286
                have p287 : 0 ≤ (x18_6 : Int) := of_decide_eq_true (by first | (with_reducible assumption) | assumption)
                have q287 : x18_6 < ((rd_L1 t254 x17_4).length : Int) := of_decide_eq_true (by first | (with_reducible assumption) | assumption)
                obtain ⟨ad287, e287, hx287_0⟩ := Kd.at_int (by repeat (first | (with_reducible exact HR286_0.out) | (with_reducible refine Kd.C_alloc ?_ _) | (with_reducible refine Kd.C_drewN ?_ _) | (with_reducible refine Kd.C_drew ?_) | exact HR286_0.out)) x18_6 p287 q287
                cases e287
                replace p287 := eq_true p287
                replace q287 := eq_true q287
                have p288 : 0 ≤ ((rd (rd_L1 t254 x17_4) x18_6) : Int) := of_decide_eq_true (by first | (with_reducible assumption) | assumption)
                have q288 : (rd (rd_L1 t254 x17_4) x18_6) < (l1.length : Int) := of_decide_eq_true (by first | (with_reducible assumption) | assumption)
                obtain ⟨ad288, e288, hx288_0⟩ := Kd.at_int HR1.out (rd (rd_L1 t254 x17_4) x18_6) p288 q288
                have hw288_0 := hx288_0
                cases e288
                replace hx288_0 := (HB.out.cell (World.block_lt_of_cell? w _ hx288_0)).trans hx288_0
                replace p288 := eq_true p288
                replace q288 := eq_true q288
                have p289 : 0 ≤ (x17_4 : Int) := of_decide_eq_true (by first | (with_reducible assumption) | assumption)
                have q289 : x17_4 < (t254.length : Int) := of_decide_eq_true (by first | (with_reducible assumption) | assumption)
                obtain ⟨ad289, A289_0, c289_0, e289, hx289_0, hl289_0, hi289_0⟩ := at_L1 (Kd.S_reads' HO_6.out).2.2 x17_4 p289 q289
                obtain rfl : ad285 = ad289 := (by injection e289)
                obtain ⟨ce289, hce289, hMe289, hcc289⟩ := Kd.S_get HO_6.out [] x17_4 p289 (by first | exact q289 | exact of_decide_eq_true (by first | (with_reducible assumption) | assumption) | (have e_ := (Kd.S_reads' HO_6.out).1; omega))
                obtain ⟨ve289_0, rfl, ge289_0⟩ := hMe289
                have hv289_0 := hcc289 0 _ rfl
                rw [Nat.add_zero, show ((Kd.slice 3 (Kd.int .i64))).sz = 1 from rfl, Nat.mul_one] at hv289_0
                replace hv289_0 := Option.some.inj (hv289_0.symm.trans hx289_0)
                rw [hv289_0] at ge289_0
                have HL289_0 := Aside0.mk (show Kd.R (Kd.int .i64) 3 _ _ _ _ (rd_L1 t254 x17_4) from ge289_0)
                clear hv289_0 ge289_0
                clear hcc289 hce289
                have HR289_0 := Aside0.mk hi289_0
                have HC289_0 := Aside0.mk hl289_0
                clear hi289_0 hl289_0
                replace p289 := eq_true p289
                replace q289 := eq_true q289
                have ea_ := Option.some.inj (hx286_0.symm.trans hx289_0)
                injection ea_ with ea_ en_ ec_
                subst ea_
                subst ec_
                clear en_
                have p290 : 0 ≤ (0 : Int) := (by omega)
                have q290 : 0 < ((rd_L1 t254 x17_4).length : Int) := of_decide_eq_true (by first | (with_reducible assumption) | assumption)
                obtain ⟨ad290, e290, hx290_0⟩ := Kd.at_int (by repeat (first | (with_reducible exact HR289_0.out) | (with_reducible refine Kd.C_alloc ?_ _) | (with_reducible refine Kd.C_drewN ?_ _) | (with_reducible refine Kd.C_drew ?_) | exact HR289_0.out)) 0 p290 q290
                cases e290
                have qi290 : (0 < (rd_L1 t254 x17_4).length) = True := eq_true (by omega)
                (try rw [show ((0 : Int)).toNat = 0 from rfl] at hx290_0)
                (try rw [Addr.add_zero'] at hx290_0)
                replace p290 := eq_true p290
                replace q290 := eq_true q290
                have p291 : 0 ≤ ((rd (rd_L1 t254 x17_4) 0) : Int) := of_decide_eq_true (by first | (with_reducible assumption) | assumption)
                have q291 : (rd (rd_L1 t254 x17_4) 0) < (l1.length : Int) := of_decide_eq_true (by first | (with_reducible assumption) | assumption)
                obtain ⟨ad291, e291, hx291_0⟩ := Kd.at_int HR1.out (rd (rd_L1 t254 x17_4) 0) p291 q291
                have hw291_0 := hx291_0
                obtain rfl : ad288 = ad291 := (by injection e291)
                replace hx291_0 := (HB.out.cell (World.block_lt_of_cell? w _ hx291_0)).trans hx291_0
                replace p291 := eq_true p291
                replace q291 := eq_true q291
                have hq1_ := fun n_ : Nat => (show (wr.drewN n_).cell? _ = _ from hx286_0)
                have hq2_ := fun n_ : Nat => (show (wr.drewN n_).cell? _ = _ from hx287_0)
                have hq3_ := fun n_ : Nat => (show (wr.drewN n_).cell? _ = _ from ((HB.out.cell (World.block_lt_of_cell? w _ hw288_0)).trans hw288_0))
                have hq4_ := fun n_ : Nat => (show (wr.drewN n_).cell? _ = _ from hx289_0)
                have hq5_ := fun n_ : Nat => (show (wr.drewN n_).cell? _ = _ from hx290_0)
                have hq6_ := fun n_ : Nat => (show (wr.drewN n_).cell? _ = _ from ((HB.out.cell (World.block_lt_of_cell? w _ hw291_0)).trans hw291_0))
                go_quiet (fail)
                try go_wp2
                go_ret
                exact ⟨by first | rfl | (simp [errW_none, errW_some] <;> rfl) | (simp [*, errW_none, errW_some] <;> rfl), by repeat (first | (with_reducible first | exact HB.out | apply below_alloc | apply pw_below_drewN | apply below_drew1 | refine below_set ?_ GE251.out) | exact HB.out)⟩
               rw [if_neg c107] at H
               exact absurd H (by simp)
              rw [if_neg c106] at H
              exact absurd H (by simp)
             rw [if_neg c105] at H
             exact absurd H (by simp)
            rw [if_neg c104] at H
            exact absurd H (by simp)
           rw [if_neg c103] at H
           exact absurd H (by simp)
          rw [if_neg c102] at H
          exact absurd H (by simp)
         rw [if_neg c101] at H
         have c101b0 : decide (x18_6 < ((rd_L1 t254 x17_4).length : Int)) = false := decide_eq_false c101
         clear c101
         have H' := Aside0.mk H
         clear H
         have p285 : 0 ≤ (x17_4 : Int) := of_decide_eq_true (by first | (with_reducible assumption) | assumption)
         have q285 : x17_4 < (t254.length : Int) := of_decide_eq_true (by first | (with_reducible assumption) | assumption)
         obtain ⟨ad285, A285_0, c285_0, e285, hx285_0, hl285_0, hi285_0⟩ := at_L1 (Kd.S_reads' HO_6.out).2.2 x17_4 p285 q285
         cases e285
         obtain ⟨ce285, hce285, hMe285, hcc285⟩ := Kd.S_get HO_6.out [] x17_4 p285 (by first | exact q285 | exact of_decide_eq_true (by first | (with_reducible assumption) | assumption) | (have e_ := (Kd.S_reads' HO_6.out).1; omega))
         obtain ⟨ve285_0, rfl, ge285_0⟩ := hMe285
         have hv285_0 := hcc285 0 _ rfl
         rw [Nat.add_zero, show ((Kd.slice 3 (Kd.int .i64))).sz = 1 from rfl, Nat.mul_one] at hv285_0
         replace hv285_0 := Option.some.inj (hv285_0.symm.trans hx285_0)
         rw [hv285_0] at ge285_0
         have HL285_0 := Aside0.mk (show Kd.R (Kd.int .i64) 3 _ _ _ _ (rd_L1 t254 x17_4) from ge285_0)
         clear hv285_0 ge285_0
         clear hcc285 hce285
         have HR285_0 := Aside0.mk hi285_0
         have HC285_0 := Aside0.mk hl285_0
         clear hi285_0 hl285_0
         replace p285 := eq_true p285
         replace q285 := eq_true q285
         go_wp2
         go_roundg k6
         case measure => have := HK1.out; have := HK2.out; have := HK3.out; have := HK4.out; have := HJ95.out; have := HK6.out; omega
         case rel => exact ⟨(wrap64 (x17_4 + 1)), (by first | rfl | (simp; done) | (simp [*]; done)), H', ⟨by have := HK1.out; have := HK2.out; have := HK3.out; have := HK4.out; have := HJ95.out; have := HK6.out; omega⟩, ⟨by (with_reducible repeat (first | apply Kd.S_alloc | apply Kd.S_drewN | apply Kd.S_drew)); exact HO_6.out⟩, ⟨by (with_reducible repeat (first | refine blk_drewN ?_ _ | refine blk_drew ?_ | refine blk_alloc ?_ _)); exact BK251.out⟩, ⟨by repeat (first | (with_reducible first | exact HB.out | apply below_alloc | apply pw_below_drewN | apply below_drew1 | refine below_set ?_ GE251.out) | exact HB.out)⟩⟩
        rw [if_neg c100] at H
        exact absurd H (by simp)
       rw [if_neg c99] at H
       exact absurd H (by simp)
      replace c98 := Bool.eq_false_iff.mpr c98
      subst c98
      have H1 : (some t252) = some r := by rw [if_neg (show ¬ (false = true) by decide)] at H; exact H
      clear H
      have H := H1
      clear H1
      obtain rfl := Option.some.inj H
      go_wp2
      go_ret
      exact ⟨by first | rfl | (simp [errW_none, errW_some] <;> rfl) | (simp [*, errW_none, errW_some] <;> rfl), by repeat (first | (with_reducible first | exact HB.out | apply below_alloc | apply pw_below_drewN | apply below_drew1 | refine below_set ?_ GE251.out) | exact HB.out)⟩
     rw [if_neg c60] at H
     have c60b0 : (x9_2 == a0_0) = false := beq_eq_false_iff_ne.mpr c60
     have c60b1 : (x9_2 != a0_0) = true := bne_iff_ne.mpr c60
     obtain rfl := Option.some.inj H
     obtain ⟨Ao111, co111, eo111⟩ := Kd.S_slice HO_6.out
     subst eo111
     have hcz112_0 : wr.cell? ⟨gb251, 0, none⟩ = some (.int .i64 a0_0) := (blk_cell BK251.out 0).trans rfl
     have hcz112_1 : wr.cell? ⟨gb251, 1, none⟩ = some (.slice A0_1 l0_1.length c0_1) := (blk_cell BK251.out 1).trans rfl
     have hcz112_2 : wr.cell? ⟨gb251, 2, none⟩ = some (.slice A0_2 l0_2.length c0_2) := (blk_cell BK251.out 2).trans rfl
     have hfz112_0 := blk_frozen BK251.out 0
     have hfz112_1 := blk_frozen BK251.out 1
     have hfz112_2 := blk_frozen BK251.out 2
     go_wp2
     go_ret
     exact ⟨by first | rfl | (simp [errW_none, errW_some] <;> rfl) | (simp [*, errW_none, errW_some] <;> rfl), by repeat (first | (with_reducible first | exact HB.out | apply below_alloc | apply pw_below_drewN | apply below_drew1 | refine below_set ?_ GE251.out) | exact HB.out)⟩
    rw [if_neg c10] at H
    exact absurd H (by simp)
   rw [if_neg c9] at H
   exact absurd H (by simp)
  replace c8 := Bool.eq_false_iff.mpr c8
  subst c8
  have H1 : (if t252 = true then (some ((t254.length : Int) == 0)) else (some false)) = some r := by rw [if_neg (show ¬ (false = true) by decide)] at H; exact H
  clear H
  have H := H1
  clear H1
  by_cases c113 : t252 = true
  ·
   subst c113
   have H1 : (some ((t254.length : Int) == 0)) = some r := by rw [if_pos rfl] at H; exact H
   clear H
   have H := H1
   clear H1
   obtain rfl := Option.some.inj H
   go_enter Tryd.func6, Tryd.ntmps6
   go_wp2_with (first | ((with_reducible refine gate_dst (N := 2) rfl ?_); (try (refine gate_guard (by rfl) ?_; dsimp only)); refine box_event ?hg (N := 2) ?hd (cs := #[.int .i64 a0_0, .slice A0_1 l0_1.length c0_1, .slice A0_2 l0_2.length c0_2]) (t := 33) ?hr ?_; (case hd => rfl); (case hg => rfl); (case hr => first | (go_simp; done) | (go_simp; rfl)); intro gb251 hg w114 hbox hb; have n0_ := Aside0.mk (below_step (by repeat with_reducible first | exact HB.out | apply below_alloc | apply pw_below_drewN | apply below_drew1) hb); have n1_ := Aside0.mk (hbox); have n2_ := Aside0.mk ((by rw [hg]; exact (below_size (by repeat with_reducible first | exact HB.out | apply below_alloc | apply pw_below_drewN | apply below_drew1)) : w.heap.size ≤ gb251)); have n3_ := Aside0.mk ((by rw [hg]; exact (below_size (by repeat with_reducible first | exact HB.out | apply below_alloc | apply pw_below_drewN | apply below_drew1)) : w.heap.size ≤ gb251)); clear HB; have HB := n0_; have BK251 := n1_; have GW251 := n2_; have GE251 := n3_; clear n0_ n1_ n2_ n3_; clear hb hbox hg) | ((with_reducible refine gate_callee (f := 9) rfl ?_); refine goesL_ (some 19) rfl rfl Tryd.func9 (by kernel_rfl) rfl #[] rfl (by (try simp only [List.map_toArray, List.map_cons, List.map_nil]); first | done | rfl | (simp only [List.length_drop, List.length_take]; rfl)) ?_; (with_reducible refine (cleanselaw27_head.calls  true _ A3.out).mono ?_); rintro e w115 ⟨rfl, hb⟩; refine ⟨_, rfl, ?_⟩; have n0_ := Aside0.mk (blk_below (g := gb251) (o := .cells #[.int .i64 a0_0, .slice A0_1 l0_1.length c0_1, .slice A0_2 l0_2.length c0_2] 33 (0, 0)) (by (with_reducible repeat (first | refine blk_drewN ?_ _ | refine blk_drew ?_ | refine blk_alloc ?_ _)); exact BK251.out) hb); have n1_ := Aside0.mk (below_step (by repeat (first | (with_reducible first | exact HB.out | apply below_alloc | apply pw_below_drewN | apply below_drew1 | refine below_set ?_ GE251.out) | exact HB.out)) hb); clear BK251; clear HB; have BK251 := n0_; have HB := n1_; clear n0_ n1_; (try clear hb); (try clear hb2); (try clear hk); (try clear hi); have hcz116_0 : w115.cell? ⟨gb251, 0, none⟩ = some (.int .i64 a0_0) := (blk_cell BK251.out 0).trans rfl; have hcz116_1 : w115.cell? ⟨gb251, 1, none⟩ = some (.slice A0_1 l0_1.length c0_1) := (blk_cell BK251.out 1).trans rfl; have hcz116_2 : w115.cell? ⟨gb251, 2, none⟩ = some (.slice A0_2 l0_2.length c0_2) := (blk_cell BK251.out 2).trans rfl; have hfz116_0 := blk_frozen BK251.out 0; have hfz116_1 := blk_frozen BK251.out 1; have hfz116_2 := blk_frozen BK251.out 2) | ((with_reducible refine gate_callee (f := 21) rfl ?_); refine goesL_ (some 21) rfl rfl Tryd.func21 (by kernel_rfl) rfl #[.agg #[.int .i64 a0_0, .slice A0_1 l0_1.length c0_1, .slice A0_2 l0_2.length c0_2], .int .i64 100, .int .i64 80] rfl (by (try simp only [List.map_toArray, List.map_cons, List.map_nil]); first | done | rfl | (simp only [List.length_drop, List.length_take]; rfl)) ?_; (with_reducible refine (cleanseref27_Small.calls k a0_0 _ _ l0_1 _ _ l0_2 100 80 true _ ?side1 ?side2 ?side3 ?side4 A4.out).mono ?_); (case side1 => repeat (first | exact (Kd.C_below HR0_1.out HB.out) | (with_reducible refine Kd.C_alloc ?_ _) | (with_reducible refine Kd.C_drewN ?_ _) | (with_reducible refine Kd.C_drew ?_))); (case side2 => exact HC0_1.out); (case side3 => repeat (first | exact (Kd.C_below HR0_2.out HB.out) | (with_reducible refine Kd.C_alloc ?_ _) | (with_reducible refine Kd.C_drewN ?_ _) | (with_reducible refine Kd.C_drew ?_))); (case side4 => exact HC0_2.out); rintro e w117 ⟨rfl, hb⟩; refine ⟨_, rfl, ?_⟩; have n0_ := Aside0.mk (blk_below (g := gb251) (o := .cells #[.int .i64 a0_0, .slice A0_1 l0_1.length c0_1, .slice A0_2 l0_2.length c0_2] 33 (0, 0)) (by (with_reducible repeat (first | refine blk_drewN ?_ _ | refine blk_drew ?_ | refine blk_alloc ?_ _)); exact BK251.out) hb); have n1_ := Aside0.mk (below_step (by repeat (first | (with_reducible first | exact HB.out | apply below_alloc | apply pw_below_drewN | apply below_drew1 | refine below_set ?_ GE251.out) | exact HB.out)) hb); clear BK251; clear HB; have BK251 := n0_; have HB := n1_; clear n0_ n1_; (try clear hb); (try clear hb2); (try clear hk); (try clear hi); have hcz118_0 : w117.cell? ⟨gb251, 0, none⟩ = some (.int .i64 a0_0) := (blk_cell BK251.out 0).trans rfl; have hcz118_1 : w117.cell? ⟨gb251, 1, none⟩ = some (.slice A0_1 l0_1.length c0_1) := (blk_cell BK251.out 1).trans rfl; have hcz118_2 : w117.cell? ⟨gb251, 2, none⟩ = some (.slice A0_2 l0_2.length c0_2) := (blk_cell BK251.out 2).trans rfl; have hfz118_0 := blk_frozen BK251.out 0; have hfz118_1 := blk_frozen BK251.out 1; have hfz118_2 := blk_frozen BK251.out 2) | ((with_reducible refine gate_callee (f := 22) rfl ?_); refine goesL_ (some 25) rfl rfl Tryd.func22 (by kernel_rfl) rfl #[.agg #[.int .i64 a0_0, .slice A0_1 l0_1.length c0_1, .slice A0_2 l0_2.length c0_2]] rfl (by (try simp only [List.map_toArray, List.map_cons, List.map_nil]); first | done | rfl | (simp only [List.length_drop, List.length_take]; rfl)) ?_; (with_reducible refine (hyper_Components.calls a0_0 _ _ l0_1 _ _ l0_2 t254 _ ?side1 ?side2 ?side3 ?side4 A6.out).mono ?_); (case side1 => repeat (first | exact (Kd.C_below HR0_1.out HB.out) | (with_reducible refine Kd.C_alloc ?_ _) | (with_reducible refine Kd.C_drewN ?_ _) | (with_reducible refine Kd.C_drew ?_))); (case side2 => exact HC0_1.out); (case side3 => repeat (first | exact (Kd.C_below HR0_2.out HB.out) | (with_reducible refine Kd.C_alloc ?_ _) | (with_reducible refine Kd.C_drewN ?_ _) | (with_reducible refine Kd.C_drew ?_))); (case side4 => exact HC0_2.out); rintro e w119 ⟨v255, rfl, ho0, hb⟩; refine ⟨_, rfl, ?_⟩; have n0_ := Aside0.mk (Kd.S_lower ho0 (below_size (by repeat (first | (with_reducible first | exact HB.out | apply below_alloc | apply pw_below_drewN | apply below_drew1 | refine below_set ?_ GE251.out) | exact HB.out)))); have n1_ := Aside0.mk (blk_below (g := gb251) (o := .cells #[.int .i64 a0_0, .slice A0_1 l0_1.length c0_1, .slice A0_2 l0_2.length c0_2] 33 (0, 0)) (by (with_reducible repeat (first | refine blk_drewN ?_ _ | refine blk_drew ?_ | refine blk_alloc ?_ _)); exact BK251.out) hb); have n2_ := Aside0.mk (below_step (by repeat (first | (with_reducible first | exact HB.out | apply below_alloc | apply pw_below_drewN | apply below_drew1 | refine below_set ?_ GE251.out) | exact HB.out)) hb); clear BK251; clear HB; have HO256 := n0_; have BK251 := n1_; have HB := n2_; clear n0_ n1_ n2_; (try clear hb); (try clear hb2); (try clear hk); (try clear hi); (try clear ho0); have hcz120_0 : w119.cell? ⟨gb251, 0, none⟩ = some (.int .i64 a0_0) := (blk_cell BK251.out 0).trans rfl; have hcz120_1 : w119.cell? ⟨gb251, 1, none⟩ = some (.slice A0_1 l0_1.length c0_1) := (blk_cell BK251.out 1).trans rfl; have hcz120_2 : w119.cell? ⟨gb251, 2, none⟩ = some (.slice A0_2 l0_2.length c0_2) := (blk_cell BK251.out 2).trans rfl; have hfz120_0 := blk_frozen BK251.out 0; have hfz120_1 := blk_frozen BK251.out 1; have hfz120_2 := blk_frozen BK251.out 2) | ((with_reducible refine gate_callee (f := 19) rfl ?_); refine goesL_ (some 27) rfl rfl Tryd.func19 (by kernel_rfl) rfl #[.agg #[.int .i64 a0_0, .slice A0_1 l0_1.length c0_1, .slice A0_2 l0_2.length c0_2]] rfl (by (try simp only [List.map_toArray, List.map_cons, List.map_nil]); first | done | rfl | (simp only [List.length_drop, List.length_take]; rfl)) ?_; (with_reducible refine (hyper_Valid.calls a0_0 _ _ l0_1 _ _ l0_2 false _ ?side1 ?side2 ?side3 ?side4 A7.out).mono ?_); (case side1 => repeat (first | exact (Kd.C_below HR0_1.out HB.out) | (with_reducible refine Kd.C_alloc ?_ _) | (with_reducible refine Kd.C_drewN ?_ _) | (with_reducible refine Kd.C_drew ?_))); (case side2 => exact HC0_1.out); (case side3 => repeat (first | exact (Kd.C_below HR0_2.out HB.out) | (with_reducible refine Kd.C_alloc ?_ _) | (with_reducible refine Kd.C_drewN ?_ _) | (with_reducible refine Kd.C_drew ?_))); (case side4 => exact HC0_2.out); rintro e w121 ⟨rfl, hb⟩; refine ⟨_, rfl, ?_⟩; have n0_ := Aside0.mk (Kd.S_below (by (with_reducible repeat (first | apply Kd.S_alloc | apply Kd.S_drewN | apply Kd.S_drew)); exact HO256.out) hb); have n1_ := Aside0.mk (blk_below (g := gb251) (o := .cells #[.int .i64 a0_0, .slice A0_1 l0_1.length c0_1, .slice A0_2 l0_2.length c0_2] 33 (0, 0)) (by (with_reducible repeat (first | refine blk_drewN ?_ _ | refine blk_drew ?_ | refine blk_alloc ?_ _)); exact BK251.out) hb); have n2_ := Aside0.mk (below_step (by repeat (first | (with_reducible first | exact HB.out | apply below_alloc | apply pw_below_drewN | apply below_drew1 | refine below_set ?_ GE251.out) | exact HB.out)) hb); clear HO256; clear BK251; clear HB; have HO256 := n0_; have BK251 := n1_; have HB := n2_; clear n0_ n1_ n2_; (try clear hb); (try clear hb2); (try clear hk); (try clear hi); obtain ⟨Ao122, co122, eo122⟩ := Kd.S_slice HO256.out; subst eo122))
   go_ret
   exact ⟨by first | rfl | (simp [errW_none, errW_some] <;> rfl) | (simp [*, errW_none, errW_some] <;> rfl), by repeat (first | (with_reducible first | exact HB.out | apply below_alloc | apply pw_below_drewN | apply below_drew1 | refine below_set ?_ GE251.out) | exact HB.out)⟩
  replace c113 := Bool.eq_false_iff.mpr c113
  subst c113
  have H1 : (some false) = some r := by rw [if_neg (show ¬ (false = true) by decide)] at H; exact H
  clear H
  have H := H1
  clear H1
  obtain rfl := Option.some.inj H
  go_enter Tryd.func6, Tryd.ntmps6
  go_wp2_with (first | ((with_reducible refine gate_dst (N := 2) rfl ?_); (try (refine gate_guard (by rfl) ?_; dsimp only)); refine box_event ?hg (N := 2) ?hd (cs := #[.int .i64 a0_0, .slice A0_1 l0_1.length c0_1, .slice A0_2 l0_2.length c0_2]) (t := 33) ?hr ?_; (case hd => rfl); (case hg => rfl); (case hr => first | (go_simp; done) | (go_simp; rfl)); intro gb251 hg w123 hbox hb; have n0_ := Aside0.mk (below_step (by repeat with_reducible first | exact HB.out | apply below_alloc | apply pw_below_drewN | apply below_drew1) hb); have n1_ := Aside0.mk (hbox); have n2_ := Aside0.mk ((by rw [hg]; exact (below_size (by repeat with_reducible first | exact HB.out | apply below_alloc | apply pw_below_drewN | apply below_drew1)) : w.heap.size ≤ gb251)); have n3_ := Aside0.mk ((by rw [hg]; exact (below_size (by repeat with_reducible first | exact HB.out | apply below_alloc | apply pw_below_drewN | apply below_drew1)) : w.heap.size ≤ gb251)); clear HB; have HB := n0_; have BK251 := n1_; have GW251 := n2_; have GE251 := n3_; clear n0_ n1_ n2_ n3_; clear hb hbox hg) | ((with_reducible refine gate_callee (f := 9) rfl ?_); refine goesL_ (some 19) rfl rfl Tryd.func9 (by kernel_rfl) rfl #[] rfl (by (try simp only [List.map_toArray, List.map_cons, List.map_nil]); first | done | rfl | (simp only [List.length_drop, List.length_take]; rfl)) ?_; (with_reducible refine (cleanselaw27_head.calls  false _ A3.out).mono ?_); rintro e w124 ⟨rfl, hb⟩; refine ⟨_, rfl, ?_⟩; have n0_ := Aside0.mk (blk_below (g := gb251) (o := .cells #[.int .i64 a0_0, .slice A0_1 l0_1.length c0_1, .slice A0_2 l0_2.length c0_2] 33 (0, 0)) (by (with_reducible repeat (first | refine blk_drewN ?_ _ | refine blk_drew ?_ | refine blk_alloc ?_ _)); exact BK251.out) hb); have n1_ := Aside0.mk (below_step (by repeat (first | (with_reducible first | exact HB.out | apply below_alloc | apply pw_below_drewN | apply below_drew1 | refine below_set ?_ GE251.out) | exact HB.out)) hb); clear BK251; clear HB; have BK251 := n0_; have HB := n1_; clear n0_ n1_; (try clear hb); (try clear hb2); (try clear hk); (try clear hi); have hcz125_0 : w124.cell? ⟨gb251, 0, none⟩ = some (.int .i64 a0_0) := (blk_cell BK251.out 0).trans rfl; have hcz125_1 : w124.cell? ⟨gb251, 1, none⟩ = some (.slice A0_1 l0_1.length c0_1) := (blk_cell BK251.out 1).trans rfl; have hcz125_2 : w124.cell? ⟨gb251, 2, none⟩ = some (.slice A0_2 l0_2.length c0_2) := (blk_cell BK251.out 2).trans rfl; have hfz125_0 := blk_frozen BK251.out 0; have hfz125_1 := blk_frozen BK251.out 1; have hfz125_2 := blk_frozen BK251.out 2) | ((with_reducible refine gate_callee (f := 21) rfl ?_); refine goesL_ (some 21) rfl rfl Tryd.func21 (by kernel_rfl) rfl #[.agg #[.int .i64 a0_0, .slice A0_1 l0_1.length c0_1, .slice A0_2 l0_2.length c0_2], .int .i64 100, .int .i64 80] rfl (by (try simp only [List.map_toArray, List.map_cons, List.map_nil]); first | done | rfl | (simp only [List.length_drop, List.length_take]; rfl)) ?_; (with_reducible refine (cleanseref27_Small.calls k a0_0 _ _ l0_1 _ _ l0_2 100 80 true _ ?side1 ?side2 ?side3 ?side4 A4.out).mono ?_); (case side1 => repeat (first | exact (Kd.C_below HR0_1.out HB.out) | (with_reducible refine Kd.C_alloc ?_ _) | (with_reducible refine Kd.C_drewN ?_ _) | (with_reducible refine Kd.C_drew ?_))); (case side2 => exact HC0_1.out); (case side3 => repeat (first | exact (Kd.C_below HR0_2.out HB.out) | (with_reducible refine Kd.C_alloc ?_ _) | (with_reducible refine Kd.C_drewN ?_ _) | (with_reducible refine Kd.C_drew ?_))); (case side4 => exact HC0_2.out); rintro e w126 ⟨rfl, hb⟩; refine ⟨_, rfl, ?_⟩; have n0_ := Aside0.mk (blk_below (g := gb251) (o := .cells #[.int .i64 a0_0, .slice A0_1 l0_1.length c0_1, .slice A0_2 l0_2.length c0_2] 33 (0, 0)) (by (with_reducible repeat (first | refine blk_drewN ?_ _ | refine blk_drew ?_ | refine blk_alloc ?_ _)); exact BK251.out) hb); have n1_ := Aside0.mk (below_step (by repeat (first | (with_reducible first | exact HB.out | apply below_alloc | apply pw_below_drewN | apply below_drew1 | refine below_set ?_ GE251.out) | exact HB.out)) hb); clear BK251; clear HB; have BK251 := n0_; have HB := n1_; clear n0_ n1_; (try clear hb); (try clear hb2); (try clear hk); (try clear hi); have hcz127_0 : w126.cell? ⟨gb251, 0, none⟩ = some (.int .i64 a0_0) := (blk_cell BK251.out 0).trans rfl; have hcz127_1 : w126.cell? ⟨gb251, 1, none⟩ = some (.slice A0_1 l0_1.length c0_1) := (blk_cell BK251.out 1).trans rfl; have hcz127_2 : w126.cell? ⟨gb251, 2, none⟩ = some (.slice A0_2 l0_2.length c0_2) := (blk_cell BK251.out 2).trans rfl; have hfz127_0 := blk_frozen BK251.out 0; have hfz127_1 := blk_frozen BK251.out 1; have hfz127_2 := blk_frozen BK251.out 2) | ((with_reducible refine gate_callee (f := 22) rfl ?_); refine goesL_ (some 25) rfl rfl Tryd.func22 (by kernel_rfl) rfl #[.agg #[.int .i64 a0_0, .slice A0_1 l0_1.length c0_1, .slice A0_2 l0_2.length c0_2]] rfl (by (try simp only [List.map_toArray, List.map_cons, List.map_nil]); first | done | rfl | (simp only [List.length_drop, List.length_take]; rfl)) ?_; (with_reducible refine (hyper_Components.calls a0_0 _ _ l0_1 _ _ l0_2 t254 _ ?side1 ?side2 ?side3 ?side4 A6.out).mono ?_); (case side1 => repeat (first | exact (Kd.C_below HR0_1.out HB.out) | (with_reducible refine Kd.C_alloc ?_ _) | (with_reducible refine Kd.C_drewN ?_ _) | (with_reducible refine Kd.C_drew ?_))); (case side2 => exact HC0_1.out); (case side3 => repeat (first | exact (Kd.C_below HR0_2.out HB.out) | (with_reducible refine Kd.C_alloc ?_ _) | (with_reducible refine Kd.C_drewN ?_ _) | (with_reducible refine Kd.C_drew ?_))); (case side4 => exact HC0_2.out); rintro e w128 ⟨v255, rfl, ho0, hb⟩; refine ⟨_, rfl, ?_⟩; have n0_ := Aside0.mk (Kd.S_lower ho0 (below_size (by repeat (first | (with_reducible first | exact HB.out | apply below_alloc | apply pw_below_drewN | apply below_drew1 | refine below_set ?_ GE251.out) | exact HB.out)))); have n1_ := Aside0.mk (blk_below (g := gb251) (o := .cells #[.int .i64 a0_0, .slice A0_1 l0_1.length c0_1, .slice A0_2 l0_2.length c0_2] 33 (0, 0)) (by (with_reducible repeat (first | refine blk_drewN ?_ _ | refine blk_drew ?_ | refine blk_alloc ?_ _)); exact BK251.out) hb); have n2_ := Aside0.mk (below_step (by repeat (first | (with_reducible first | exact HB.out | apply below_alloc | apply pw_below_drewN | apply below_drew1 | refine below_set ?_ GE251.out) | exact HB.out)) hb); clear BK251; clear HB; have HO256 := n0_; have BK251 := n1_; have HB := n2_; clear n0_ n1_ n2_; (try clear hb); (try clear hb2); (try clear hk); (try clear hi); (try clear ho0); have hcz129_0 : w128.cell? ⟨gb251, 0, none⟩ = some (.int .i64 a0_0) := (blk_cell BK251.out 0).trans rfl; have hcz129_1 : w128.cell? ⟨gb251, 1, none⟩ = some (.slice A0_1 l0_1.length c0_1) := (blk_cell BK251.out 1).trans rfl; have hcz129_2 : w128.cell? ⟨gb251, 2, none⟩ = some (.slice A0_2 l0_2.length c0_2) := (blk_cell BK251.out 2).trans rfl; have hfz129_0 := blk_frozen BK251.out 0; have hfz129_1 := blk_frozen BK251.out 1; have hfz129_2 := blk_frozen BK251.out 2) | ((with_reducible refine gate_callee (f := 19) rfl ?_); refine goesL_ (some 27) rfl rfl Tryd.func19 (by kernel_rfl) rfl #[.agg #[.int .i64 a0_0, .slice A0_1 l0_1.length c0_1, .slice A0_2 l0_2.length c0_2]] rfl (by (try simp only [List.map_toArray, List.map_cons, List.map_nil]); first | done | rfl | (simp only [List.length_drop, List.length_take]; rfl)) ?_; (with_reducible refine (hyper_Valid.calls a0_0 _ _ l0_1 _ _ l0_2 false _ ?side1 ?side2 ?side3 ?side4 A7.out).mono ?_); (case side1 => repeat (first | exact (Kd.C_below HR0_1.out HB.out) | (with_reducible refine Kd.C_alloc ?_ _) | (with_reducible refine Kd.C_drewN ?_ _) | (with_reducible refine Kd.C_drew ?_))); (case side2 => exact HC0_1.out); (case side3 => repeat (first | exact (Kd.C_below HR0_2.out HB.out) | (with_reducible refine Kd.C_alloc ?_ _) | (with_reducible refine Kd.C_drewN ?_ _) | (with_reducible refine Kd.C_drew ?_))); (case side4 => exact HC0_2.out); rintro e w130 ⟨rfl, hb⟩; refine ⟨_, rfl, ?_⟩; have n0_ := Aside0.mk (Kd.S_below (by (with_reducible repeat (first | apply Kd.S_alloc | apply Kd.S_drewN | apply Kd.S_drew)); exact HO256.out) hb); have n1_ := Aside0.mk (blk_below (g := gb251) (o := .cells #[.int .i64 a0_0, .slice A0_1 l0_1.length c0_1, .slice A0_2 l0_2.length c0_2] 33 (0, 0)) (by (with_reducible repeat (first | refine blk_drewN ?_ _ | refine blk_drew ?_ | refine blk_alloc ?_ _)); exact BK251.out) hb); have n2_ := Aside0.mk (below_step (by repeat (first | (with_reducible first | exact HB.out | apply below_alloc | apply pw_below_drewN | apply below_drew1 | refine below_set ?_ GE251.out) | exact HB.out)) hb); clear HO256; clear BK251; clear HB; have HO256 := n0_; have BK251 := n1_; have HB := n2_; clear n0_ n1_ n2_; (try clear hb); (try clear hb2); (try clear hk); (try clear hi)))
  go_ret
  exact ⟨by first | rfl | (simp [errW_none, errW_some] <;> rfl) | (simp [*, errW_none, errW_some] <;> rfl), by repeat (first | (with_reducible first | exact HB.out | apply below_alloc | apply pw_below_drewN | apply below_drew1 | refine below_set ?_ GE251.out) | exact HB.out)⟩
 replace c5 := Bool.eq_false_iff.mpr c5
 subst c5
 have H1 : (some t252) = some r := by rw [if_neg (show ¬ (false = true) by decide)] at H; exact H
 clear H
 have H := H1
 clear H1
 obtain rfl := Option.some.inj H
 go_enter Tryd.func6, Tryd.ntmps6
 go_wp2_with (first | ((with_reducible refine gate_dst (N := 2) rfl ?_); (try (refine gate_guard (by rfl) ?_; dsimp only)); refine box_event ?hg (N := 2) ?hd (cs := #[.int .i64 a0_0, .slice A0_1 l0_1.length c0_1, .slice A0_2 l0_2.length c0_2]) (t := 33) ?hr ?_; (case hd => rfl); (case hg => rfl); (case hr => first | (go_simp; done) | (go_simp; rfl)); intro gb251 hg w131 hbox hb; have n0_ := Aside0.mk (below_step (by repeat with_reducible first | exact HB.out | apply below_alloc | apply pw_below_drewN | apply below_drew1) hb); have n1_ := Aside0.mk (hbox); have n2_ := Aside0.mk ((by rw [hg]; exact (below_size (by repeat with_reducible first | exact HB.out | apply below_alloc | apply pw_below_drewN | apply below_drew1)) : w.heap.size ≤ gb251)); have n3_ := Aside0.mk ((by rw [hg]; exact (below_size (by repeat with_reducible first | exact HB.out | apply below_alloc | apply pw_below_drewN | apply below_drew1)) : w.heap.size ≤ gb251)); clear HB; have HB := n0_; have BK251 := n1_; have GW251 := n2_; have GE251 := n3_; clear n0_ n1_ n2_ n3_; clear hb hbox hg) | ((with_reducible refine gate_callee (f := 9) rfl ?_); refine goesL_ (some 19) rfl rfl Tryd.func9 (by kernel_rfl) rfl #[] rfl (by (try simp only [List.map_toArray, List.map_cons, List.map_nil]); first | done | rfl | (simp only [List.length_drop, List.length_take]; rfl)) ?_; (with_reducible refine (cleanselaw27_head.calls  t252 _ A3.out).mono ?_); rintro e w132 ⟨rfl, hb⟩; refine ⟨_, rfl, ?_⟩; have n0_ := Aside0.mk (blk_below (g := gb251) (o := .cells #[.int .i64 a0_0, .slice A0_1 l0_1.length c0_1, .slice A0_2 l0_2.length c0_2] 33 (0, 0)) (by (with_reducible repeat (first | refine blk_drewN ?_ _ | refine blk_drew ?_ | refine blk_alloc ?_ _)); exact BK251.out) hb); have n1_ := Aside0.mk (below_step (by repeat (first | (with_reducible first | exact HB.out | apply below_alloc | apply pw_below_drewN | apply below_drew1 | refine below_set ?_ GE251.out) | exact HB.out)) hb); clear BK251; clear HB; have BK251 := n0_; have HB := n1_; clear n0_ n1_; (try clear hb); (try clear hb2); (try clear hk); (try clear hi); have hcz133_0 : w132.cell? ⟨gb251, 0, none⟩ = some (.int .i64 a0_0) := (blk_cell BK251.out 0).trans rfl; have hcz133_1 : w132.cell? ⟨gb251, 1, none⟩ = some (.slice A0_1 l0_1.length c0_1) := (blk_cell BK251.out 1).trans rfl; have hcz133_2 : w132.cell? ⟨gb251, 2, none⟩ = some (.slice A0_2 l0_2.length c0_2) := (blk_cell BK251.out 2).trans rfl; have hfz133_0 := blk_frozen BK251.out 0; have hfz133_1 := blk_frozen BK251.out 1; have hfz133_2 := blk_frozen BK251.out 2) | ((with_reducible refine gate_callee (f := 21) rfl ?_); refine goesL_ (some 21) rfl rfl Tryd.func21 (by kernel_rfl) rfl #[.agg #[.int .i64 a0_0, .slice A0_1 l0_1.length c0_1, .slice A0_2 l0_2.length c0_2], .int .i64 100, .int .i64 80] rfl (by (try simp only [List.map_toArray, List.map_cons, List.map_nil]); first | done | rfl | (simp only [List.length_drop, List.length_take]; rfl)) ?_; (with_reducible refine (cleanseref27_Small.calls k a0_0 _ _ l0_1 _ _ l0_2 100 80 false _ ?side1 ?side2 ?side3 ?side4 A4.out).mono ?_); (case side1 => repeat (first | exact (Kd.C_below HR0_1.out HB.out) | (with_reducible refine Kd.C_alloc ?_ _) | (with_reducible refine Kd.C_drewN ?_ _) | (with_reducible refine Kd.C_drew ?_))); (case side2 => exact HC0_1.out); (case side3 => repeat (first | exact (Kd.C_below HR0_2.out HB.out) | (with_reducible refine Kd.C_alloc ?_ _) | (with_reducible refine Kd.C_drewN ?_ _) | (with_reducible refine Kd.C_drew ?_))); (case side4 => exact HC0_2.out); rintro e w134 ⟨rfl, hb⟩; refine ⟨_, rfl, ?_⟩; have n0_ := Aside0.mk (blk_below (g := gb251) (o := .cells #[.int .i64 a0_0, .slice A0_1 l0_1.length c0_1, .slice A0_2 l0_2.length c0_2] 33 (0, 0)) (by (with_reducible repeat (first | refine blk_drewN ?_ _ | refine blk_drew ?_ | refine blk_alloc ?_ _)); exact BK251.out) hb); have n1_ := Aside0.mk (below_step (by repeat (first | (with_reducible first | exact HB.out | apply below_alloc | apply pw_below_drewN | apply below_drew1 | refine below_set ?_ GE251.out) | exact HB.out)) hb); clear BK251; clear HB; have BK251 := n0_; have HB := n1_; clear n0_ n1_; (try clear hb); (try clear hb2); (try clear hk); (try clear hi)))
 go_ret
 exact ⟨by first | rfl | (simp [errW_none, errW_some] <;> rfl) | (simp [*, errW_none, errW_some] <;> rfl), by repeat (first | (with_reducible first | exact HB.out | apply below_alloc | apply pw_below_drewN | apply below_drew1 | refine below_set ?_ GE251.out) | exact HB.out)⟩
end Go.Proofs.YtgjbnmobhafajaaDoor.Hy
end
end
