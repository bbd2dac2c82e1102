/- The texts of this claim, SgMat. -/
import Derived.Test.YtgjbnmobhafajaaGreatDoorQzSfMat
import Derived.Test.YtgjbnmobhafajaaGreatDoorQzSeMake
import Derived.Test.YtgjbnmobhafajaaGreatDoorQzShPart
import Derived.Test.YtgjbnmobhafajaaGreatDoorQzSiFixed
import Derived.Test.YtgjbnmobhafajaaGreatDoorQzScComp
import Derived.Deep.RegionHeld3
import Derived.Deep.DrawnRows
section
namespace Go.Proofs.YtgjbnmobhafajaaGreatDoor
open Go Go.RowKit Go.Sort Go.Shelf Go.Proofs.YtgjbnmobhafajaaGreatDoorW.PrintWords Go.Proofs.YtgjbnmobhafajaaGreatDoorW.PrintLast
attribute [local go_sem ↓] Go.wp_at_zero Go.wp_at_succ
set_option maxRecDepth 100000 in
set_option maxHeartbeats 16000000 in
theorem mat_walk (a0_0 : Int) (A0_1 : Option Addr) (c0_1 : Nat) (l0_1 : List Int) (A0_2 : Option Addr) (c0_2 : Nat) (l0_2 : List (List Int)) (n : Int) (A2 : Option Addr) (c2 : Nat) (l2 : List Int) (A3 : Option Addr) (c3 : Nat) (l3 : List (List Int)) (A4 : Option Addr) (c4 : Nat) (l4 : List Int) (w : World)
    (hw3 : ∀ e ∈ l3, ∀ y ∈ e, -9223372036854775808 ≤ y ∧ y ≤ 9223372036854775807) (hTab : Lib.TabIs Tryz.prog w "internal/strconv.uint64pow10" .u64 Lib.pow10Tab)
    (hr0_1 : Kd.C (Kd.int .i64) w A0_1 l0_1.length l0_1) (hc0_1 : l0_1.length ≤ c0_1) (hr0_2 : Kd.C (Kd.slice 3 (Kd.int .i64)) w A0_2 l0_2.length l0_2) (hc0_2 : l0_2.length ≤ c0_2)
    (hr2 : Kd.C (Kd.int .i64) w A2 l2.length l2) (hc2 : l2.length ≤ c2) (hr3 : Kd.C (Kd.slice 3 (Kd.int .i64)) w A3 l3.length l3) (hc3 : l3.length ≤ c3) (hr4 : Kd.C (Kd.int .i64) w A4 l4.length l4) (hc4 : l4.length ≤ c4) :
    Calls Tryz.prog 3 #[.agg #[.int .i64 a0_0, .slice A0_1 l0_1.length c0_1, .slice A0_2 l0_2.length c0_2], .int .i64 n, .slice A2 l2.length c2, .slice A3 l3.length c3, .slice A4 l4.length c4] w fun e w' => e = .returned (.bool true) ∧ Below w.heap.size w w' := by
  obtain ⟨wb, hwb⟩ : ∃ wb, wb = w.alloc (.cells #[.int .i64 a0_0, .slice A0_1 l0_1.length c0_1, .slice A0_2 l0_2.length c0_2] 25) := ⟨_, rfl⟩
  have hbw : Below w.heap.size w wb := by rw [hwb]; exact below_alloc (Below.refl _ w) _
  have hsb : wb.heap.size = w.heap.size + 1 := by rw [hwb]; simp
  have hbox : GraphAt wb w.heap.size a0_0 (.slice A0_1 l0_1.length c0_1) (.slice A0_2 l0_2.length c0_2) := by rw [hwb]; exact World.alloc_heap_new w _
  have HCEL := Lib.hid (fun W (h : Came wb W) => (GraphAt.cells (show GraphAt W w.heap.size a0_0 (.slice A0_1 l0_1.length c0_1) (.slice A0_2 l0_2.length c0_2) from (h.b.block _ (by omega)).trans hbox)))
  have HWB := Lib.hid hwb
  have HBW := Lib.hid hbw
  have HAT := Lib.hid (fun W (h : Came wb W) => (h.b.mono (by omega) |> hbw.trans : Below w.heap.size w W))
  have HG1 := Lib.hid (fun W (h : Came wb W) => Kd.C_below hr0_1 (HAT.out W h))
  have HG2 := Lib.hid (fun W (h : Came wb W) => Kd.C_below hr0_2 (HAT.out W h))
  have HR2 := Lib.hid (fun W (h : Came wb W) => Kd.C_below hr2 (HAT.out W h))
  have HR3 := Lib.hid (fun W (h : Came wb W) => Kd.C_below hr3 (HAT.out W h))
  have HR4 := Lib.hid (fun W (h : Came wb W) => Kd.C_below hr4 (HAT.out W h))
  have HTB := Lib.hid hTab
  have HW3 := Lib.hid hw3
  have hg2l := hr0_2.2.1
  have hg3l := hr3.2.1
  obtain ⟨F1, hF1⟩ : ∃ F, F = (decide (a0_0 ≤ 100) && (decide ((l0_1.length : Int) ≤ 100) && ((l0_2.all fun e => decide (e.length ≤ 10)) && decide ((l0_2.length : Int) ≤ 80)))) := ⟨_, rfl⟩
  have HS1 : Hid (Hy.cleanseref27_Small.f (l0_2.length + 1) a0_0 l0_1 l0_2 100 80 = some F1) := Lib.hid (by rw [Hy.small_f a0_0 l0_1 l0_2 100 80 hg2l _ (by omega), hF1])
  obtain ⟨F2, hF2⟩ : ∃ F, F = ((l3.all fun e => decide (e.length ≤ 10)) && decide ((l3.length : Int) ≤ 80)) := ⟨_, rfl⟩
  have HS2 : Hid (Hy.cleanseref27_Few.f (l3.length + 1) l3 80 = some F2) := Lib.hid (by rw [Hy.few_f l3 80 hg3l _ (by omega), hF2])
  have HF1 := Lib.hid hF1
  have HF2 := Lib.hid hF2
  clear hwb hbw hbox hr0_1 hr0_2 hr2 hr3 hr4 hTab hw3 hg2l hg3l hF1 hF2
  go_enter Tryz.func3, Tryz.ntmps3
  go_wp2_with fail
  rw [← HWB.out]
  refine (head.walk _).mono ?_
  rintro e w1 ⟨rfl, hb⟩
  have HB : Hid (Came wb w1) := Lib.hid ⟨hb⟩
  clear hb HWB
  obtain ⟨hx0, hx1, hx2, _, _, _⟩ := HCEL.out _ HB.out
  go_wp2_with (go_at_call 5; refine hold_here ?_)
  refine hold_out ?_
  refine (Hy.cleanseref27_Small.calls (l0_2.length + 1) a0_0 A0_1 c0_1 l0_1 A0_2 c0_2 l0_2 100 80 F1 _ (HG1.out _ HB.out) hc0_1 (HG2.out _ HB.out) hc0_2 HS1.out).mono ?_
  rintro e w2 ⟨rfl, hb⟩
  replace HB := Lib.hid (HB.out.below hb)
  clear hb hx0 hx1 hx2 HS1
  cases F1 with
  | false =>
    go_wp2
    go_ret
    exact ⟨rfl, HAT.out _ HB.out⟩
  | true =>
  go_wp2_with (go_at_call 6; refine hold_here ?_)
  refine hold_out ?_
  refine (Hy.cleanseref27_Few.calls (l3.length + 1) A3 c3 l3 80 F2 _ (HR3.out _ HB.out) hc3 HS2.out).mono ?_
  rintro e w3 ⟨rfl, hd⟩
  replace HB := Lib.hid (HB.out.below (drawn_below hd))
  clear hd HS2
  cases F2 with
  | false =>
    go_wp2
    go_ret
    exact ⟨rfl, HAT.out _ HB.out⟩
  | true =>
  by_cases hlc : l2.length ≤ 100
  case neg =>
    have hlcz : (100 : Int) < (l2.length : Int) := by omega
    go_wp2
    go_ret
    exact ⟨rfl, HAT.out _ HB.out⟩
  have hlcz : ¬ (100 : Int) < (l2.length : Int) := by omega
  by_cases hlv : l4.length ≤ 100
  case neg =>
    have hlvz : (100 : Int) < (l4.length : Int) := by omega
    go_wp2
    go_ret
    exact ⟨rfl, HAT.out _ HB.out⟩
  have hlvz : ¬ (100 : Int) < (l4.length : Int) := by omega
  have hF1 := HF1.out.symm
  have hF2 := HF2.out.symm
  simp only [Bool.and_eq_true, List.all_eq_true, decide_eq_true_eq] at hF1 hF2
  obtain ⟨hn100, hc100, hg10, hg80⟩ := hF1
  obtain ⟨he10, he80⟩ := hF2
  obtain ⟨m1, m2, m3, m4, hM⟩ : ∃ r1 r2 r3 r4, Hyp.makeF n l2 l3 = (r1, r2, r3, r4) := ⟨_, _, _, _, rfl⟩
  obtain ⟨p1, p2, p3, p4, hP⟩ : ∃ r1 r2 r3 r4, Hyp.partF a0_0 l0_1 l0_2 l4 = (r1, r2, r3, r4) := ⟨_, _, _, _, rfl⟩
  obtain ⟨f1, f2, hFX⟩ : ∃ f1 f2, Hyp.fixedF a0_0 l0_1 l0_2 = (f1, f2) := ⟨_, _, rfl⟩
  obtain ⟨mi, hMI⟩ : ∃ mi, Hyp.minimal l3 = mi := ⟨_, rfl⟩
  obtain ⟨co, hCO⟩ : ∃ co, (if Hyp.validB a0_0 l0_1 l0_2 = true then Hyp.components a0_0.toNat l0_2 else []) = co := ⟨_, rfl⟩
  obtain ⟨vb, hVB⟩ : ∃ vb, Hyp.validB a0_0 l0_1 l0_2 = vb := ⟨_, rfl⟩
  obtain ⟨hm1, hm2, hm3⟩ := Hyp.make_few hM he10
  obtain ⟨hp1, hp2, hp3⟩ := Hyp.part_few hP hg10
  have hml := Hyp.minimal_len l3
  have hme : ∀ e ∈ Hyp.minimal l3, e.length ≤ 10 := fun e h => by
    obtain ⟨x, hx, _, rfl⟩ := Hyp.minimal_from h
    have := he10 x hx
    have := Hyp.setOf_le x
    omega
  rw [hMI] at hml hme
  have hcl : co.length ≤ 100 ∧ ∀ e ∈ co, e.length ≤ 100 := by
    have := Hyp.comps_few a0_0.toNat l0_2
    rw [← hCO]
    split
    · exact ⟨by omega, fun e he => by have := this.2 e he; omega⟩
    · exact ⟨by simp, fun e he => by simp at he⟩
  have big : ∀ {es : List (List Int)}, (∀ e ∈ es, e.length ≤ 10) → ∀ x ∈ es, x.length ≤ 1048576 := fun h x hx => by have := h x hx; omega
  have thou : ∀ {es : List (List Int)}, (∀ e ∈ es, e.length ≤ 10) → ∀ x ∈ es, x.length ≤ 1000 := fun h x hx => by have := h x hx; omega
  have HM1 : Hid (hyper_Make.f n l2 l3 = some (m1, m2, m3, m4)) := Lib.hid (by unfold hyper_Make.f; rw [if_pos ⟨hlc, by omega, big he10⟩, hM])
  have HM2 : Hid (cleanseref27_Make.f n l2 l3 = some (m1, m2, m3, m4)) := Lib.hid (by unfold cleanseref27_Make.f; rw [if_pos ⟨by omega, by omega, thou he10⟩, hM])
  have HP1 : Hid (hyper_Part.f a0_0 l0_1 l0_2 l4 = some (p1, p2, p3, p4)) := Lib.hid (by unfold hyper_Part.f; rw [if_pos ⟨⟨hn100, by omega, big hg10⟩, by omega⟩, hP])
  have HP2 : Hid (cleanseref27_Part.f a0_0 l0_1 l0_2 l4 = some (p1, p2, p3, p4)) := Lib.hid (by unfold cleanseref27_Part.f; rw [if_pos ⟨by omega, by omega, by omega, thou hg10, by omega⟩, hP])
  have HX1 : Hid (hyper_Fixed.f a0_0 l0_1 l0_2 = some (f1, f2)) := Lib.hid (by unfold hyper_Fixed.f; rw [if_pos ⟨hn100, by omega, big hg10⟩, hFX])
  have HX2 : Hid (cleanseref27_Fixed.f a0_0 l0_1 l0_2 = some (f1, f2)) := Lib.hid (by unfold cleanseref27_Fixed.f; rw [if_pos ⟨by omega, by omega, by omega, thou hg10⟩, hFX])
  have HV1 : Hid (hyper_Valid.f a0_0 l0_1 l0_2 = some vb) := Lib.hid (by unfold hyper_Valid.f; rw [if_pos ⟨hn100, by omega, big hg10⟩, hVB])
  have HV2 : Hid (Hy.cleanseref27_Valid.f 5000001 a0_0 l0_1 l0_2 = some vb) := Lib.hid (by rw [Hy.valid_f a0_0 l0_1 l0_2 (by omega) (by omega) (thou hg10) 5000001 (by omega), hVB])
  have HI1 : Hid (hyper_MinimalT.f l3 = some mi) := Lib.hid (by unfold hyper_MinimalT.f; rw [if_pos ⟨by omega, big he10, fun x hx y hy => HW3.out x hx y hy⟩, hMI])
  have HI2 : Hid (cleanseref27_Minimal.f l3 = some mi) := Lib.hid (by unfold cleanseref27_Minimal.f; rw [if_pos ⟨by omega, thou he10⟩, hMI])
  have HC1 : Hid (hyper_Components.f a0_0 l0_1 l0_2 = some co) := Lib.hid (by unfold hyper_Components.f; rw [if_pos ⟨hn100, by omega, big hg10⟩, hCO])
  have HC2 : Hid (cleanseref27_Components.f a0_0 l0_1 l0_2 = some co) := Lib.hid (by unfold cleanseref27_Components.f; rw [if_pos ⟨hn100, by omega, by omega, thou hg10⟩, hCO])
  have HSM : Hid (Hy.cleanseref27_Same.f 2000 m1 m2 m3 m1 m2 m3 = some true) := Lib.hid (by
    rw [Hy.same_f m1 m1 m2 m2 m3 m3 (by omega) 10 hm3 (by omega) (by omega) 2000 (by omega)]; simp)
  have HSP : Hid (Hy.cleanseref27_Same.f 2000 p1 p2 p3 p1 p2 p3 = some true) := Lib.hid (by
    rw [Hy.same_f p1 p1 p2 p2 p3 p3 (by omega) 10 hp3 (by omega) (by omega) 2000 (by omega)]; simp)
  have HSI : Hid (Hy.cleanseref27_Sets.f 2000 mi mi = some true) := Lib.hid (by
    rw [Hy.sets_f mi mi 10 hme (by omega) (by omega) 2000 (by omega)]; simp)
  have HSC : Hid (Hy.cleanseref27_Sets.f 2000 co co = some true) := Lib.hid (by
    rw [Hy.sets_f co co 100 hcl.2 (by omega) (by omega) 2000 (by omega)]; simp)
  have HIN := Lib.hid (fun (f : List Int) (h : f.length ≤ 9223372036854775807) => (by rw [Hy.ints_f f f h (f.length + 1) (by omega)]; simp : Hy.cleanseref06_Ints.f (f.length + 1) f f = some true))
  clear hM hP hFX hMI hCO hVB hm1 hm2 hm3 hp1 hp2 hp3 hml hme hcl hn100 hc100 hg10 hg80 he10 he80 HF1 HF2 HW3 big thou
  go_wp2_with (go_at_call 7; refine hold_here ?_)
  refine hold_out ?_
  refine (hyper_Make.calls n A2 c2 l2 A3 c3 l3 m1 m2 m3 m4 _ (HR2.out _ HB.out) hc2 (HR3.out _ HB.out) hc3 HM1.out).mono ?_
  rintro e wA1 ⟨vc, ve, rfl, hR, hS, hb⟩
  obtain ⟨Ac1, cc1, rfl, hlcc, hGc⟩ := Kd.R_reads hR
  obtain ⟨Ae1, ce1, rfl, hlce, hGe⟩ := Kd.S_reads hS
  have HLC1 := Lib.hid (show LRow wA1 Ac1 cc1 m2 from ⟨hlcc, hGc⟩)
  have HLE1 := Lib.hid (show LRows wA1 Ae1 ce1 m3 from ⟨hlce, hGe⟩)
  replace HB := Lib.hid (HB.out.below hb)
  clear hR hS hb hlcc hlce hGc hGe
  go_wp2_with ((with_reducible refine gate_dst (N := 12) rfl ?_); refine hold_here ?_)
  refine hold_out ?_
  refine box_event rfl (N := 12) rfl (cs := #[.int .i64 0, .slice none 0 0, .slice none 0 0]) (t := 25) (by first | (go_simp; done) | (go_simp; rfl)) ?_
  intro G1 hG wB1 hbox hb
  have hGl : wA1.heap.size ≤ G1 := Nat.le_of_eq hG.symm
  obtain ⟨hz0, hz1, hz2, hy0, hy1, hy2⟩ := GraphAt.cells (show GraphAt wB1 G1 0 (.slice none 0 0) (.slice none 0 0) from hbox)
  clear hG
  have HBX := Lib.hid hbox
  have HBB := Lib.hid hb
  clear hbox hb
  go_wp2_with (go_at_call 8; refine hold_here ?_)
  refine hold_out ?_
  obtain ⟨w11, hwe, hgb, hb⟩ := GBox.stored hGl HBB.out HBX.out m1 HLC1.out HLE1.out
  rw [← hwe]
  clear hwe hz0 hz1 hz2 hy0 hy1 hy2 HBX HBB hGl HLC1 HLE1
  have HGB1 := Lib.hid hgb
  clear hgb
  replace HB := Lib.hid (HB.out.below hb)
  clear hb
  go_wp2_with (go_at_call 8; refine hold_here ?_)
  refine hold_out ?_
  refine (cleanseref27_Make.calls n A2 c2 l2 A3 c3 l3 m1 m2 m3 m4 _ (HR2.out _ HB.out) hc2 (HR3.out _ HB.out) hc3 HM2.out).mono ?_
  rintro e wA2 ⟨vc, ve, rfl, hR, hS, hb⟩
  obtain ⟨Ac2, cc2, rfl, hlcc, hGc⟩ := Kd.R_reads hR
  obtain ⟨Ae2, ce2, rfl, hlce, hGe⟩ := Kd.S_reads hS
  have HLC2 := Lib.hid (show LRow wA2 Ac2 cc2 m2 from ⟨hlcc, hGc⟩)
  have HLE2 := Lib.hid (show LRows wA2 Ae2 ce2 m3 from ⟨hlce, hGe⟩)
  replace HB := Lib.hid (HB.out.below hb)
  replace HGB1 := Lib.hid (HGB1.out.below hb)
  clear hR hS hb hlcc hlce hGc hGe
  go_wp2_with ((with_reducible refine gate_dst (N := 14) rfl ?_); refine hold_here ?_)
  refine hold_out ?_
  refine box_event rfl (N := 14) rfl (cs := #[.int .i64 0, .slice none 0 0, .slice none 0 0]) (t := 25) (by first | (go_simp; done) | (go_simp; rfl)) ?_
  intro G2 hG wB2 hbox hb
  have hGl : wA2.heap.size ≤ G2 := Nat.le_of_eq hG.symm
  obtain ⟨hz0, hz1, hz2, hy0, hy1, hy2⟩ := GraphAt.cells (show GraphAt wB2 G2 0 (.slice none 0 0) (.slice none 0 0) from hbox)
  clear hG
  have HBX := Lib.hid hbox
  have HBB := Lib.hid hb
  clear hbox hb
  go_wp2_with ((with_reducible refine gate_dst (N := 60) rfl ?_); refine hold_here ?_)
  refine hold_out ?_
  obtain ⟨w12, hwe, hgb, hb⟩ := GBox.stored hGl HBB.out HBX.out m1 HLC2.out HLE2.out
  rw [← hwe]
  clear hwe hz0 hz1 hz2 hy0 hy1 hy2 HBX HBB hGl HLC2 HLE2
  have HGB2 := Lib.hid hgb
  clear hgb
  replace HB := Lib.hid (HB.out.below hb)
  replace HGB1 := Lib.hid (HGB1.out.below hb)
  clear hb
  obtain ⟨hx0, hx1, hx2, _, _, _⟩ := HCEL.out _ HB.out
  go_wp2_with (go_at_call 9; refine hold_here ?_)
  refine hold_out ?_
  refine (hyper_Part.calls a0_0 A0_1 c0_1 l0_1 A0_2 c0_2 l0_2 A4 c4 l4 p1 p2 p3 p4 _ (HG1.out _ HB.out) hc0_1 (HG2.out _ HB.out) hc0_2 (HR4.out _ HB.out) hc4 HP1.out).mono ?_
  rintro e wA3 ⟨vc, ve, rfl, hR, hS, hb⟩
  obtain ⟨Ac3, cc3, rfl, hlcc, hGc⟩ := Kd.R_reads hR
  obtain ⟨Ae3, ce3, rfl, hlce, hGe⟩ := Kd.S_reads hS
  have HLC3 := Lib.hid (show LRow wA3 Ac3 cc3 p2 from ⟨hlcc, hGc⟩)
  have HLE3 := Lib.hid (show LRows wA3 Ae3 ce3 p3 from ⟨hlce, hGe⟩)
  clear hx0 hx1 hx2
  replace HB := Lib.hid (HB.out.below hb)
  replace HGB1 := Lib.hid (HGB1.out.below hb)
  replace HGB2 := Lib.hid (HGB2.out.below hb)
  clear hR hS hb hlcc hlce hGc hGe
  go_wp2_with ((with_reducible refine gate_dst (N := 16) rfl ?_); refine hold_here ?_)
  refine hold_out ?_
  refine box_event rfl (N := 16) rfl (cs := #[.int .i64 0, .slice none 0 0, .slice none 0 0]) (t := 25) (by first | (go_simp; done) | (go_simp; rfl)) ?_
  intro G3 hG wB3 hbox hb
  have hGl : wA3.heap.size ≤ G3 := Nat.le_of_eq hG.symm
  obtain ⟨hz0, hz1, hz2, hy0, hy1, hy2⟩ := GraphAt.cells (show GraphAt wB3 G3 0 (.slice none 0 0) (.slice none 0 0) from hbox)
  clear hG
  have HBX := Lib.hid hbox
  have HBB := Lib.hid hb
  clear hbox hb
  go_wp2_with ((with_reducible refine gate_dst (N := 66) rfl ?_); refine hold_here ?_)
  refine hold_out ?_
  obtain ⟨w13, hwe, hgb, hb⟩ := GBox.stored hGl HBB.out HBX.out p1 HLC3.out HLE3.out
  rw [← hwe]
  clear hwe hz0 hz1 hz2 hy0 hy1 hy2 HBX HBB hGl HLC3 HLE3
  have HGB3 := Lib.hid hgb
  clear hgb
  replace HB := Lib.hid (HB.out.below hb)
  replace HGB1 := Lib.hid (HGB1.out.below hb)
  replace HGB2 := Lib.hid (HGB2.out.below hb)
  clear hb
  obtain ⟨hx0, hx1, hx2, _, _, _⟩ := HCEL.out _ HB.out
  go_wp2_with (go_at_call 10; refine hold_here ?_)
  refine hold_out ?_
  refine (cleanseref27_Part.calls a0_0 A0_1 c0_1 l0_1 A0_2 c0_2 l0_2 A4 c4 l4 p1 p2 p3 p4 _ (HG1.out _ HB.out) hc0_1 (HG2.out _ HB.out) hc0_2 (HR4.out _ HB.out) hc4 HP2.out).mono ?_
  rintro e wA4 ⟨vc, ve, rfl, hR, hS, hb⟩
  obtain ⟨Ac4, cc4, rfl, hlcc, hGc⟩ := Kd.R_reads hR
  obtain ⟨Ae4, ce4, rfl, hlce, hGe⟩ := Kd.S_reads hS
  have HLC4 := Lib.hid (show LRow wA4 Ac4 cc4 p2 from ⟨hlcc, hGc⟩)
  have HLE4 := Lib.hid (show LRows wA4 Ae4 ce4 p3 from ⟨hlce, hGe⟩)
  clear hx0 hx1 hx2
  replace HB := Lib.hid (HB.out.below hb)
  replace HGB1 := Lib.hid (HGB1.out.below hb)
  replace HGB2 := Lib.hid (HGB2.out.below hb)
  replace HGB3 := Lib.hid (HGB3.out.below hb)
  clear hR hS hb hlcc hlce hGc hGe
  go_wp2_with ((with_reducible refine gate_dst (N := 18) rfl ?_); refine hold_here ?_)
  refine hold_out ?_
  refine box_event rfl (N := 18) rfl (cs := #[.int .i64 0, .slice none 0 0, .slice none 0 0]) (t := 25) (by first | (go_simp; done) | (go_simp; rfl)) ?_
  intro G4 hG wB4 hbox hb
  have hGl : wA4.heap.size ≤ G4 := Nat.le_of_eq hG.symm
  obtain ⟨hz0, hz1, hz2, hy0, hy1, hy2⟩ := GraphAt.cells (show GraphAt wB4 G4 0 (.slice none 0 0) (.slice none 0 0) from hbox)
  clear hG
  have HBX := Lib.hid hbox
  have HBB := Lib.hid hb
  clear hbox hb
  go_wp2_with ((with_reducible refine gate_dst (N := 72) rfl ?_); refine hold_here ?_)
  refine hold_out ?_
  obtain ⟨w14, hwe, hgb, hb⟩ := GBox.stored hGl HBB.out HBX.out p1 HLC4.out HLE4.out
  rw [← hwe]
  clear hwe hz0 hz1 hz2 hy0 hy1 hy2 HBX HBB hGl HLC4 HLE4
  have HGB4 := Lib.hid hgb
  clear hgb
  replace HB := Lib.hid (HB.out.below hb)
  replace HGB1 := Lib.hid (HGB1.out.below hb)
  replace HGB2 := Lib.hid (HGB2.out.below hb)
  replace HGB3 := Lib.hid (HGB3.out.below hb)
  clear hb
  obtain ⟨hx0, hx1, hx2, _, _, _⟩ := HCEL.out _ HB.out
  go_wp2_with (go_at_call 11; refine hold_here ?_)
  refine hold_out ?_
  refine (hyper_Fixed.calls a0_0 A0_1 c0_1 l0_1 A0_2 c0_2 l0_2 f1 f2 _ (HG1.out _ HB.out) hc0_1 (HG2.out _ HB.out) hc0_2 HX1.out).mono ?_
  rintro e wA5 ⟨va, vb', rfl, hRa, hRb, hb⟩
  obtain ⟨Aa5, ca5, rfl, hla, hGa⟩ := Kd.R_reads hRa
  obtain ⟨Ab5, cb5, rfl, hlb, hGb⟩ := Kd.R_reads hRb
  have HLA5 := Lib.hid (show LRow wA5 Aa5 ca5 f1 from ⟨hla, hGa⟩)
  have HLB5 := Lib.hid (show LRow wA5 Ab5 cb5 f2 from ⟨hlb, hGb⟩)
  clear hx0 hx1 hx2
  replace HB := Lib.hid (HB.out.below hb)
  replace HGB1 := Lib.hid (HGB1.out.below hb)
  replace HGB2 := Lib.hid (HGB2.out.below hb)
  replace HGB3 := Lib.hid (HGB3.out.below hb)
  replace HGB4 := Lib.hid (HGB4.out.below hb)
  clear hRa hRb hb hla hlb hGa hGb
  obtain ⟨hx0, hx1, hx2, _, _, _⟩ := HCEL.out _ HB.out
  go_wp2_with (go_at_call 12; refine hold_here ?_)
  refine hold_out ?_
  refine (cleanseref27_Fixed.calls a0_0 A0_1 c0_1 l0_1 A0_2 c0_2 l0_2 f1 f2 _ (HG1.out _ HB.out) hc0_1 (HG2.out _ HB.out) hc0_2 HX2.out).mono ?_
  rintro e wA6 ⟨va, vb', rfl, hRa, hRb, hb⟩
  obtain ⟨Aa6, ca6, rfl, hla, hGa⟩ := Kd.R_reads hRa
  obtain ⟨Ab6, cb6, rfl, hlb, hGb⟩ := Kd.R_reads hRb
  have HLA6 := Lib.hid (show LRow wA6 Aa6 ca6 f1 from ⟨hla, hGa⟩)
  have HLB6 := Lib.hid (show LRow wA6 Ab6 cb6 f2 from ⟨hlb, hGb⟩)
  clear hx0 hx1 hx2
  replace HB := Lib.hid (HB.out.below hb)
  replace HGB1 := Lib.hid (HGB1.out.below hb)
  replace HGB2 := Lib.hid (HGB2.out.below hb)
  replace HGB3 := Lib.hid (HGB3.out.below hb)
  replace HGB4 := Lib.hid (HGB4.out.below hb)
  replace HLA5 := Lib.hid (HLA5.out.below hb)
  replace HLB5 := Lib.hid (HLB5.out.below hb)
  clear hRa hRb hb hla hlb hGa hGb
  obtain ⟨hu0, hu1, hu2, _, _, _⟩ := HGB1.out.at_.cells
  obtain ⟨hv0, hv1, hv2, _, _, _⟩ := HGB2.out.at_.cells
  go_wp2_with (go_at_call 13; refine hold_here ?_)
  refine hold_out ?_
  refine (Hy.cleanseref27_Same.calls 2000 m1 Ac1 cc1 m2 Ae1 ce1 m3 m1 Ac2 cc2 m2 Ae2 ce2 m3 true _ HGB1.out.r1 HGB1.out.c1 HGB1.out.r2 HGB1.out.c2 HGB2.out.r1 HGB2.out.c1 HGB2.out.r2 HGB2.out.c2 HSM.out).mono ?_
  rintro e wS1 ⟨rfl, hb⟩
  clear hu0 hu1 hu2 hv0 hv1 hv2
  clear HGB1 HGB2
  replace HB := Lib.hid (HB.out.below hb)
  replace HGB3 := Lib.hid (HGB3.out.below hb)
  replace HGB4 := Lib.hid (HGB4.out.below hb)
  replace HLA5 := Lib.hid (HLA5.out.below hb)
  replace HLB5 := Lib.hid (HLB5.out.below hb)
  replace HLA6 := Lib.hid (HLA6.out.below hb)
  replace HLB6 := Lib.hid (HLB6.out.below hb)
  clear hb
  obtain ⟨hu0, hu1, hu2, _, _, _⟩ := HGB3.out.at_.cells
  obtain ⟨hv0, hv1, hv2, _, _, _⟩ := HGB4.out.at_.cells
  go_wp2_with (go_at_call 13; refine hold_here ?_)
  refine hold_out ?_
  refine (Hy.cleanseref27_Same.calls 2000 p1 Ac3 cc3 p2 Ae3 ce3 p3 p1 Ac4 cc4 p2 Ae4 ce4 p3 true _ HGB3.out.r1 HGB3.out.c1 HGB3.out.r2 HGB3.out.c2 HGB4.out.r1 HGB4.out.c1 HGB4.out.r2 HGB4.out.c2 HSP.out).mono ?_
  rintro e wS3 ⟨rfl, hb⟩
  clear hu0 hu1 hu2 hv0 hv1 hv2
  clear HGB3 HGB4
  replace HB := Lib.hid (HB.out.below hb)
  replace HLA5 := Lib.hid (HLA5.out.below hb)
  replace HLB5 := Lib.hid (HLB5.out.below hb)
  replace HLA6 := Lib.hid (HLA6.out.below hb)
  replace HLB6 := Lib.hid (HLB6.out.below hb)
  clear hb
  go_wp2_with (go_at_call 14; refine hold_here ?_)
  refine hold_out ?_
  refine (Hy.cleanseref06_Ints.calls (f1.length + 1) Aa5 ca5 f1 Aa6 ca6 f1 true _ HLA5.out.r1 HLA5.out.c1 HLA6.out.r1 HLA6.out.c1 (HIN.out f1 HLA5.out.r1.2.1)).mono ?_
  rintro e wIA ⟨rfl, hd⟩
  have hb := drawn_below hd
  clear HLA5 HLA6 hd
  replace HB := Lib.hid (HB.out.below hb)
  replace HLB5 := Lib.hid (HLB5.out.below hb)
  replace HLB6 := Lib.hid (HLB6.out.below hb)
  clear hb
  go_wp2_with (go_at_call 14; refine hold_here ?_)
  refine hold_out ?_
  refine (Hy.cleanseref06_Ints.calls (f2.length + 1) Ab5 cb5 f2 Ab6 cb6 f2 true _ HLB5.out.r1 HLB5.out.c1 HLB6.out.r1 HLB6.out.c1 (HIN.out f2 HLB5.out.r1.2.1)).mono ?_
  rintro e wIB ⟨rfl, hd⟩
  have hb := drawn_below hd
  clear HLB5 HLB6 hd
  replace HB := Lib.hid (HB.out.below hb)
  clear hb
  go_wp2
  replace HB := Lib.hid (show Came wb wIB.drew from ⟨HB.out.b.drew⟩)
  go_region_held3 (fun W => W.cell? ⟨w.heap.size, 0, none⟩ = some (.int .i64 a0_0) ∧ W.cell? ⟨w.heap.size, 1, none⟩ = some (.slice A0_1 l0_1.length c0_1) ∧ W.cell? ⟨w.heap.size, 2, none⟩ = some (.slice A0_2 l0_2.length c0_2))
    (exact ⟨(HCEL.out _ HB.out).1, (HCEL.out _ HB.out).2.1, (HCEL.out _ HB.out).2.2.1⟩)
    ((first
      | (go_at_call 15; (with_reducible refine (hyper_Valid.calls a0_0 A0_1 c0_1 l0_1 A0_2 c0_2 l0_2 vb _ (HG1.out _ HB.out) hc0_1 (HG2.out _ HB.out) hc0_2 HV1.out).mono ?_); rintro e wv1 ⟨rfl, hb⟩; replace HB := Lib.hid (HB.out.below hb); clear hb)
      | (go_at_call 16; (with_reducible refine (Hy.cleanseref27_Valid.calls 5000001 a0_0 A0_1 c0_1 l0_1 A0_2 c0_2 l0_2 vb _ (HG1.out _ HB.out) hc0_1 (HG2.out _ HB.out) hc0_2 HV2.out).mono ?_); rintro e wv2 ⟨rfl, hb⟩; replace HB := Lib.hid (HB.out.below hb); clear hb)
      | (go_at_call 18; (with_reducible refine (hyper_MinimalT.calls HTB.out A3 c3 l3 mi _ (HR3.out _ HB.out) hc3 HI1.out (HAT.out _ HB.out)).mono ?_); rintro e wm1 ⟨v1, rfl, hS, hb⟩; obtain ⟨Am1, cm1, rfl, hlm, hGm⟩ := Kd.S_reads hS; have HQ1 := Lib.hid (show LRows wm1 Am1 cm1 mi from ⟨hlm, hGm⟩); replace HB := Lib.hid (HB.out.below hb); clear hb hS hlm hGm)
      | (go_at_call 19; (with_reducible refine (cleanseref27_Minimal.calls A3 c3 l3 mi _ (HR3.out _ HB.out) hc3 HI2.out).mono ?_); rintro e wm2 ⟨v2, rfl, hS, hb⟩; obtain ⟨Am2, cm2, rfl, hlm, hGm⟩ := Kd.S_reads hS; have HQ2 := Lib.hid (show LRows wm2 Am2 cm2 mi from ⟨hlm, hGm⟩); replace HB := Lib.hid (HB.out.below hb); replace HQ1 := Lib.hid (HQ1.out.below hb); clear hb hS hlm hGm)
      | (go_at_call 20; (with_reducible refine (hyper_Components.calls a0_0 A0_1 c0_1 l0_1 A0_2 c0_2 l0_2 co _ (HG1.out _ HB.out) hc0_1 (HG2.out _ HB.out) hc0_2 HC1.out).mono ?_); rintro e wc1 ⟨v1, rfl, hS, hb⟩; obtain ⟨Ac1, cc1, rfl, hlm, hGm⟩ := Kd.S_reads hS; have HQ1 := Lib.hid (show LRows wc1 Ac1 cc1 co from ⟨hlm, hGm⟩); replace HB := Lib.hid (HB.out.below hb); clear hb hS hlm hGm)
      | (go_at_call 21; (with_reducible refine (cleanseref27_Components.calls a0_0 A0_1 c0_1 l0_1 A0_2 c0_2 l0_2 co _ (HG1.out _ HB.out) hc0_1 (HG2.out _ HB.out) hc0_2 HC2.out).mono ?_); rintro e wc2 ⟨v2, rfl, hS, hb⟩; obtain ⟨Ac2, cc2, rfl, hlm, hGm⟩ := Kd.S_reads hS; have HQ2 := Lib.hid (show LRows wc2 Ac2 cc2 co from ⟨hlm, hGm⟩); replace HB := Lib.hid (HB.out.below hb); replace HQ1 := Lib.hid (HQ1.out.below hb); clear hb hS hlm hGm)
      | (go_at_call 17; (with_reducible refine (Hy.cleanseref27_Sets.calls 2000 _ _ _ _ _ _ true _ HQ1.out.r1 HQ1.out.c1 HQ2.out.r1 HQ2.out.c1 (by first | exact HSI.out | exact HSC.out)).mono ?_); rintro e ws ⟨rfl, hd⟩; have hb := drawn_below hd; replace HB := Lib.hid (HB.out.below hb); clear hb hd HQ1 HQ2)))
  all_goals go_wp2
  all_goals go_ret
  all_goals exact ⟨rfl, HAT.out _ HB.out⟩
def Hy.cleanselaw27_HyperMatchesReference.f (_k : Nat) (_a0 : Int) (_l0 : List Int) (_e0 : List (List Int)) (_n : Int) (_l2 : List Int) (l3 : List (List Int)) (_l4 : List Int) : Option Bool :=
  if ∀ e ∈ l3, ∀ y ∈ e, -9223372036854775808 ≤ y ∧ y ≤ 9223372036854775807 then some true else none
theorem Hy.cleanselaw27_HyperMatchesReference.calls (k : Nat) (a0_0 : Int) (A0_1 : Option Addr) (c0_1 : Nat) (l0_1 : List Int) (A0_2 : Option Addr) (c0_2 : Nat) (l0_2 : List (List Int)) (n : Int) (A2 : Option Addr) (c2 : Nat) (l2 : List Int) (A3 : Option Addr) (c3 : Nat) (l3 : List (List Int)) (A4 : Option Addr) (c4 : Nat) (l4 : List Int) (r : Bool) (w : World)
    (hr0_1 : Kd.C (Kd.int .i64) w A0_1 l0_1.length l0_1) (hc0_1 : l0_1.length ≤ c0_1) (hr0_2 : Kd.C (Kd.slice 3 (Kd.int .i64)) w A0_2 l0_2.length l0_2) (hc0_2 : l0_2.length ≤ c0_2)
    (hr2 : Kd.C (Kd.int .i64) w A2 l2.length l2) (hc2 : l2.length ≤ c2) (hr3 : Kd.C (Kd.slice 3 (Kd.int .i64)) w A3 l3.length l3) (hc3 : l3.length ≤ c3) (hr4 : Kd.C (Kd.int .i64) w A4 l4.length l4) (hc4 : l4.length ≤ c4)
    (hTab : Lib.TabIs Tryz.prog w "internal/strconv.uint64pow10" .u64 Lib.pow10Tab) (h : Hy.cleanselaw27_HyperMatchesReference.f k a0_0 l0_1 l0_2 n l2 l3 l4 = some r) :
    Calls Tryz.prog 3 #[.agg #[.int .i64 a0_0, .slice A0_1 l0_1.length c0_1, .slice A0_2 l0_2.length c0_2], .int .i64 n, .slice A2 l2.length c2, .slice A3 l3.length c3, .slice A4 l4.length c4] w fun e w' => e = .returned (.bool r) ∧ Below w.heap.size w w' := by
  unfold Hy.cleanselaw27_HyperMatchesReference.f at h
  split at h
  case isFalse => cases h
  rename_i hw
  obtain rfl : true = r := Option.some.inj h
  exact mat_walk a0_0 A0_1 c0_1 l0_1 A0_2 c0_2 l0_2 n A2 c2 l2 A3 c3 l3 A4 c4 l4 w hw hTab hr0_1 hc0_1 hr0_2 hc0_2 hr2 hc2 hr3 hc3 hr4 hc4
end Go.Proofs.YtgjbnmobhafajaaGreatDoor
end
