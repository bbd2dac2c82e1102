/- The texts of this claim, SeMake. -/
import Derived.Test.YtgjbnmobhafajaaGreatDoorQzSaValid
import Derived.Test.YtgjbnmobhafajaaGreatDoorQzSbMin
section
namespace Go.Proofs.YtgjbnmobhafajaaGreatDoor
open Go Go.RowKit Go.Sort Go.Shelf Go.Proofs.YtgjbnmobhafajaaGreatDoorW.PrintWords Go.Proofs.YtgjbnmobhafajaaGreatDoorW.PrintLast
def cleanseref27_Make.f (a0 : Int) (l1 : List Int) (l2 : List (List Int)) : Option (Int × List Int × (List (List Int)) × Int) :=
  if l1.length ≤ 1000 ∧ l2.length ≤ 1000 ∧ ∀ x ∈ l2, x.length ≤ 1000 then some (Hyp.makeF a0 l1 l2) else none
theorem Hyp.bad_any {n : Int} {es : List (List Int)} {i : Nat} (hi : i < es.length) (h : Hyp.badEdge n (es.getD i []) = true) : es.any (Hyp.badEdge n) = true := by
  rw [List.getD_eq_getElem?_getD, List.getElem?_eq_getElem hi] at h
  exact List.any_eq_true.2 ⟨_, List.getElem_mem hi, h⟩
theorem Hyp.good_take {n : Int} {es : List (List Int)} {i : Nat} (hi : i < es.length) (h : (es.take i).any (Hyp.badEdge n) = false) (h1 : Hyp.badEdge n (es.getD i []) = false) : (es.take (i + 1)).any (Hyp.badEdge n) = false := by
  rw [List.getD_eq_getElem?_getD, List.getElem?_eq_getElem hi] at h1
  rw [List.take_succ_eq_append_getElem hi, List.any_append, h, List.any_cons, show Hyp.badEdge n es[i] = false from h1]
  rfl
set_option maxRecDepth 100000 in
set_option maxHeartbeats 8000000 in
theorem cleanseref27_Make.calls (a0 : Int) (A1 : Option Addr) (c1 : Nat) (l1 : List Int) (A2 : Option Addr) (c2 : Nat) (l2 : List (List Int)) (r1 : Int) (r2 : List Int) (r3 : List (List Int)) (r4 : Int) (w : World) (hr1 : Kd.C (Kd.int .i64) w A1 l1.length l1) (hc1 : l1.length ≤ c1) (hr2 : Kd.C (Kd.slice 3 (Kd.int .i64)) w A2 l2.length l2) (hc2 : l2.length ≤ c2) (h : cleanseref27_Make.f a0 l1 l2 = some (r1, r2, r3, r4)) :
    Calls Tryz.prog 8 #[.int .i64 a0, .slice A1 l1.length c1, .slice A2 l2.length c2] w fun e w' => ∃ v1_ v2_ : Value, e = .returned (.tuple #[.agg #[.int .i64 r1, v1_, v2_], .int .i64 r4]) ∧ Kd.R (Kd.int .i64) 3 w' w.heap.size (fun _ => True) v1_ r2 ∧ Kd.S (Kd.slice 3 (Kd.int .i64)) 22 w' w.heap.size (fun k_ => some k_ ≠ (v1_ : Value).ownBlock) v2_ r3 ∧ Below w.heap.size w w' := by
  unfold cleanseref27_Make.f at h
  split at h
  case isFalse => cases h
  rename_i hcc
  have hr := (Option.some.inj h).symm
  obtain ⟨hcl, hel, hee⟩ := hcc
  obtain ⟨wb, hwb⟩ : ∃ wb, wb = w.alloc (.cells #[.int .i64 0, .slice none 0 0, .slice none 0 0] 25) := ⟨_, rfl⟩
  have hbw : Below w.heap.size w wb := by rw [hwb]; exact below_alloc (Below.refl _ w) _
  have hsb : wb.heap.size = w.heap.size + 1 := by rw [hwb]; simp
  have hres : GraphAt wb w.heap.size 0 (.slice none 0 0) (.slice none 0 0) := by rw [hwb]; exact World.alloc_heap_new w _
  have HCO := Lib.hid (Hy.cleanseref27_costs.calls (l1.length + 2) a0 A1 c1 l1 _ wb (Kd.C_below hr1 hbw) hc1 (Hy.costs_f a0 l1 (by omega) _ (by omega)))
  have HRC := Lib.hid hr1
  have HRD := Lib.hid hr2
  have HWB := Lib.hid hwb
  have HBW := Lib.hid hbw
  have HEE := Lib.hid hee
  have HR := Lib.hid hr
  have HRES := Lib.hid hres
  have hbad : ∀ (_ : ¬ (Hyp.weighedB a0 l1 = true ∧ l2.any (Hyp.badEdge a0) = false)), r1 = 0 ∧ r2 = [] ∧ r3 = [] ∧ r4 = 1 := fun hn => by
    unfold Hyp.makeF at hr
    rw [if_neg hn] at hr
    simp only [Prod.mk.injEq] at hr
    exact hr
  have HBAD := Lib.hid hbad
  clear h hr hr1 hr2 hwb hbw hee hres hbad
  go_enter Tryz.func8, Tryz.ntmps8
  go_wp2_with fail
  rw [← HWB.out]
  refine HCO.out.mono ?_
  rintro e w1 ⟨rfl, q1, rfl⟩
  have HBQ := Lib.hid (pw_below_drewN (Below.refl wb.heap.size wb) q1)
  have hends : ∀ W, Below wb.heap.size wb W → GraphAt W w.heap.size 0 (.slice none 0 0) (.slice none 0 0) := fun W hb => (hb.block _ (by omega)).trans HRES.out
  have HENDS := Lib.hid hends
  clear hends
  by_cases hw : Hyp.weighedB a0 l1 = true
  · rw [hw]
    have HW := Lib.hid hw
    clear hw
    have S0 : Hid (Below wb.heap.size wb (wb.drewN q1) ∧ (l2.take 0).any (Hyp.badEdge a0) = false) := Lib.hid ⟨HBQ.out, rfl⟩
    clear HCO
    go_wp2
    go_loopg [8] l2.length (fun gg s8 wr => ∃ i : Nat, s8 = .int .i64 (i : Int) ∧ i ≤ l2.length ∧ l2.length - i ≤ gg ∧ Hid (Below wb.heap.size wb wr ∧ (l2.take i).any (Hyp.badEdge a0) = false))
    case atStart => exact ⟨0, rfl, by omega, by omega, S0⟩
    case round =>
      clear S0
      obtain ⟨i, rfl, hi, hgi, S1⟩ := hrel
      obtain ⟨hbel, htake⟩ := S1.out
      have HTK := Lib.hid htake
      have HB := Lib.hid hbel
      have hgr := HENDS.out wr hbel
      obtain ⟨hra0, hra1, hra2, hrf0, hrf1, hrf2⟩ := hgr.cells
      have HGR := Lib.hid hgr
      have HBx := Lib.hid (HBW.out.trans (hbel.mono (by omega)))
      clear S1 hbel htake hgr
      by_cases hlt : i < l2.length
      · have hltz : (i : Int) < (l2.length : Int) := by omega
        obtain ⟨bb, off, rfl, hbb, hcs⟩ := C_rows HRD.out (show 0 < l2.length by omega)
        obtain ⟨Ax, cx, hcell, hlx, hCx⟩ := hcs i hlt
        have hcw := (HBx.out.cell (p := ⟨bb, off + i, none⟩) hbb).trans hcell
        have hmem : l2.getD i [] ∈ l2 := by rw [List.getD_eq_getElem?_getD, List.getElem?_eq_getElem hlt]; exact List.getElem_mem hlt
        have hxl := HEE.out _ hmem
        have hba := Hyp.bad_any (n := a0) hlt
        have hgt := Hyp.good_take hlt HTK.out
        obtain ⟨x, hx⟩ : ∃ x, x = l2.getD i [] := ⟨_, rfl⟩
        rw [← hx] at hcw hlx hCx hxl hba hgt
        have HBA := Lib.hid hba
        have HGT := Lib.hid hgt
        have HCX := Lib.hid (Kd.C_below hCx HBx.out)
        clear hcs hcell hmem hx hCx hba hgt
        by_cases hx0 : x.length = 0
        · have hbx : Hyp.badEdge a0 x = true := by unfold Hyp.badEdge; rw [List.eq_nil_of_length_eq_zero hx0]; rfl
          obtain ⟨rfl, rfl, rfl, rfl⟩ := HBAD.out (fun h => by rw [HBA.out hbx] at h; exact absurd h.2 (by simp))
          have hxz : ((x.length : Nat) : Int) = 0 := by omega
          go_wp2
          refine bodyPost_ret (results_ct rfl _ _ w.heap.size 25 #[.int .i64 0, .slice none 0 0, .slice none 0 0] (0, 0) _ rfl ?_ Tryz.underlying25 rfl (by kernel_rfl)) rfl ?_
          · refine blk_put (cs := #[.int .i64 0, .slice none 0 0, .slice none 0 0]) ?_ 2 _ rfl
            refine blk_put (cs := #[.int .i64 0, .slice none 0 0, .slice none 0 0]) ?_ 1 _ rfl
            refine blk_put (cs := #[.int .i64 0, .slice none 0 0, .slice none 0 0]) ?_ 0 _ rfl
            exact HGR.out
          · exact ⟨_, _, rfl, Kd.R_nil _ _ _ _ _, Kd.S_nil _ _ _ _ _, by repeat first | exact HBx.out | apply pw_below_drewN | refine below_set ?_ (by omega)⟩
        · have hxz : ¬ ((x.length : Nat) : Int) = 0 := by omega
          have hxb : (((x.length : Nat) : Int) == 0) = false := beq_eq_false_iff_ne.mpr hxz
          have hbx : Hyp.badEdge a0 x = !Hyp.isSetB (Hyp.setOf x) a0 := by
            unfold Hyp.badEdge
            have : x.isEmpty = false := by cases h : x <;> simp_all
            rw [this]; rfl
          have HBXE := Lib.hid hbx
          clear hbx
          go_wp2_with (go_at_call 28; refine hold_here ?_)
          refine hold_out ?_
          refine (cleanseref27_Set.calls Ax cx x (Hyp.setOf x) _ HCX.out hlx (by unfold cleanseref27_Set.f; rw [if_pos (by omega)])).mono ?_
          rintro e w2 ⟨v2, rfl, hR2, hb2⟩
          obtain ⟨As, cs, rfl, hls, hCs⟩ := Kd.R_reads hR2
          have hsl := Hyp.setOf_le x
          have HV := Lib.hid (Hy.cleanseref27_Vertices.calls 1001 As cs (Hyp.setOf x) a0 _ w2 hCs hls (Hy.vertices_f (Hyp.setOf x) a0 (by omega) 1001 (by omega)))
          have HB2 := Lib.hid (below_then HB.out (show wb.heap.size ≤ wr.heap.size from HB.out.size) hb2)
          clear hR2 hb2 hCs hra0 hra1 hra2 hrf0 hrf1 hrf2 HGR HBx
          go_wp2_with (go_at_call 27; refine hold_here ?_)
          refine hold_out ?_
          refine HV.out.mono ?_
          rintro e w3 ⟨rfl, q3, rfl⟩
          have HB3 := Lib.hid (pw_below_drewN HB2.out q3)
          have hgr := HENDS.out _ HB3.out
          obtain ⟨hra0, hra1, hra2, hrf0, hrf1, hrf2⟩ := hgr.cells
          have HGR := Lib.hid hgr
          have HBx := Lib.hid (HBW.out.trans (HB3.out.mono (by omega)))
          clear hgr HV HB2 hcw
          by_cases hs : Hyp.isSetB (Hyp.setOf x) a0 = true
          · rw [hs] at HBXE ⊢
            go_wp2
            go_roundg (l2.length - (i + 1))
            case measure => omega
            case rel => exact ⟨i + 1, by go_num, by omega, Nat.le_refl _, Lib.hid ⟨HB3.out, HGT.out HBXE.out⟩⟩
          · have hs' : Hyp.isSetB (Hyp.setOf x) a0 = false := by simpa using hs
            rw [hs'] at HBXE ⊢
            obtain ⟨rfl, rfl, rfl, rfl⟩ := HBAD.out (fun h => by rw [HBA.out HBXE.out] at h; exact absurd h.2 (by simp))
            go_wp2
            refine bodyPost_ret (results_ct rfl _ _ w.heap.size 25 #[.int .i64 0, .slice none 0 0, .slice none 0 0] (0, 0) _ rfl ?_ Tryz.underlying25 rfl (by kernel_rfl)) rfl ?_
            · refine blk_put (cs := #[.int .i64 0, .slice none 0 0, .slice none 0 0]) ?_ 2 _ rfl
              refine blk_put (cs := #[.int .i64 0, .slice none 0 0, .slice none 0 0]) ?_ 1 _ rfl
              refine blk_put (cs := #[.int .i64 0, .slice none 0 0, .slice none 0 0]) ?_ 0 _ rfl
              exact HGR.out
            · exact ⟨_, _, rfl, Kd.R_nil _ _ _ _ _, Kd.S_nil _ _ _ _ _, by repeat first | exact HBx.out | apply pw_below_drewN | refine below_set ?_ (by omega)⟩
      · have hltz : ¬ (i : Int) < (l2.length : Int) := by omega
        obtain rfl : i = l2.length := by omega
        rw [List.take_length] at HTK
        have hml := Hyp.minimal_len l2
        have hres : r1 = a0 ∧ r2 = l1 ∧ r3 = Hyp.minimal l2 ∧ r4 = 0 := by
          have := HR.out
          unfold Hyp.makeF at this
          rw [if_pos ⟨HW.out, HTK.out⟩, if_neg (by omega)] at this
          simp only [Prod.mk.injEq] at this
          exact this
        obtain ⟨rfl, rfl, hr3, rfl⟩ := hres
        rw [← hr3] at hml
        have HM3 : Hid (cleanseref27_Minimal.f l2 = some r3) := Lib.hid (by unfold cleanseref27_Minimal.f; rw [if_pos ⟨hel, HEE.out⟩, hr3])
        clear hr3
        clear HR HBAD hra0 hra1 hra2 hrf0 hrf1 hrf2 HGR
        go_wp2_with fail
        refine (cleanseref27_Minimal.calls A2 c2 l2 r3 wr (Kd.C_below HRD.out HBx.out) hc2 HM3.out).mono ?_
        rintro e w2 ⟨v2, rfl, hS2, hb2⟩
        have HB2 := Lib.hid (below_then HB.out (show wb.heap.size ≤ wr.heap.size from HB.out.size) hb2)
        have hwr := HB.out.size
        have HS2 := Lib.hid (Kd.S_lower hS2 hwr)
        obtain ⟨Am, cm, rfl⟩ := Kd.S_slice hS2
        clear hS2 hb2 HB HBx
        have hm0 : ¬ (20000 : Int) < ((r3.length : Nat) : Int) := by omega
        go_wp2_with ((with_reducible refine gate_dst (N := 45) rfl ?_); refine hold_here ?_)
        refine hold_out ?_
        refine Kd.R_lit (Kd.int .i64) w2.heap.size 3 rfl (N := 45) rfl (xs := ([] : List Int)) (inner := []) (ok := fun _ => True) (okp := fun _ => True) (by first | (go_simp; done) | (go_simp; rfl)) (Reps.none _ _) (fun _ hk => hk) trivial (Below.refl _ _) (Nat.le_refl _) (by simp) ?_
        intro v3 w3 hv3 hb3 _ _
        have hw2 := HB2.out.size
        have HB3 := Lib.hid (HBW.out.trans ((below_then HB2.out hw2 hb3).mono (by omega)))
        have HV3 := Lib.hid hv3
        have HB23 := Lib.hid hb3
        clear hv3 hb3
        go_wp2_with (at_builtin; refine hold_here ?_)
        refine hold_out ?_
        refine Kd.R_append_rows (Kd.int .i64) (w0 := w2) w2.heap.size rfl (.tmp 45) (.tmp 46) 22 3 (.int .i64 0) 8 rfl Tryz.underlying22 infoInt rfl (by decide) (by decide) v3 [] r2 A1 r2.length c1 (fun _ => True) (fun _ => False) rfl rfl HV3.out (Kd.C_below HRC.out HB3.out) (fun _ _ h => h) (fun _ h => h.elim) (fun _ _ => trivial) HB23.out HB23.out.size (by rw [List.length_nil]; omega) ?_
        intro v4 w4 hv4 hb4 _ _
        rw [List.nil_append] at hv4
        have HS4 := Lib.hid (Kd.S_bound (Kd.S_elder' HS2.out (Kd.R_base hv4) hb4))
        have HR4 := Lib.hid (Kd.R_bound hv4)
        have HB4 := Lib.hid (below_then HB2.out hw2 hb4)
        have hgr := HENDS.out _ HB4.out
        obtain ⟨hra0, hra1, hra2, hrf0, hrf1, hrf2⟩ := hgr.cells
        have HGR := Lib.hid hgr
        obtain ⟨A4, c4, rfl⟩ := Kd.R_slice hv4
        clear hv4 hb4 hgr HV3 HB23 HB3
        go_wp2
        refine bodyPost_ret (results_ct rfl _ _ w.heap.size 25 #[.int .i64 r1, .slice A4 r2.length c4, .slice Am r3.length cm] (0, 0) _ rfl ?_ Tryz.underlying25 rfl (by kernel_rfl)) rfl ?_
        · refine blk_put (cs := #[.int .i64 r1, .slice A4 r2.length c4, .slice none 0 0]) ?_ 2 _ rfl
          refine blk_put (cs := #[.int .i64 r1, .slice none 0 0, .slice none 0 0]) ?_ 1 _ rfl
          refine blk_put (cs := #[.int .i64 0, .slice none 0 0, .slice none 0 0]) ?_ 0 _ rfl
          exact HGR.out
        · refine ⟨_, _, rfl, ?_, ?_, ?_⟩
          · refine Kd.R_mono (Kd.R_lower (Kd.R_far (p := ⟨w.heap.size, 2, none⟩) (Kd.R_far (p := ⟨w.heap.size, 1, none⟩) (Kd.R_far (p := ⟨w.heap.size, 0, none⟩) HR4.out (fun q hq => ?_) _) (fun q hq => ?_) _) (fun q hq => ?_) _) (by omega)) (fun _ _ => trivial)
            all_goals (show q ≠ w.heap.size; have := hq.2.1; omega)
          · refine Kd.S_mono (Kd.S_lower (Kd.S_far (p := ⟨w.heap.size, 2, none⟩) (Kd.S_far (p := ⟨w.heap.size, 1, none⟩) (Kd.S_far (p := ⟨w.heap.size, 0, none⟩) HS4.out (fun q hq => ?_) _) (fun q hq => ?_) _) (fun q hq => ?_) _) (show w.heap.size ≤ wb.heap.size by omega)) (fun q hq => ?_)
            all_goals first | exact hq.1.2 | (show q ≠ w.heap.size; have := hq.2.1; omega)
          · exact below_set (below_set (below_set (HBW.out.trans (HB4.out.mono (by omega))) (by omega)) (by omega)) (by omega)
  · have hf : Hyp.weighedB a0 l1 = false := by simpa using hw
    rw [hf]
    obtain ⟨rfl, rfl, rfl, rfl⟩ := HBAD.out (fun h => hw h.1)
    have hgr := HENDS.out _ HBQ.out
    obtain ⟨hra0, hra1, hra2, hrf0, hrf1, hrf2⟩ := hgr.cells
    have HGR := Lib.hid hgr
    clear hgr
    go_wp2
    refine bodyPost_ret (results_ct rfl _ _ w.heap.size 25 #[.int .i64 0, .slice none 0 0, .slice none 0 0] (0, 0) _ rfl ?_ Tryz.underlying25 rfl (by kernel_rfl)) rfl ?_
    · refine blk_put (cs := #[.int .i64 0, .slice none 0 0, .slice none 0 0]) ?_ 2 _ rfl
      refine blk_put (cs := #[.int .i64 0, .slice none 0 0, .slice none 0 0]) ?_ 1 _ rfl
      refine blk_put (cs := #[.int .i64 0, .slice none 0 0, .slice none 0 0]) ?_ 0 _ rfl
      exact HGR.out
    · exact ⟨_, _, rfl, Kd.R_nil _ _ _ _ _, Kd.S_nil _ _ _ _ _, by repeat first | exact HBW.out.trans (HBQ.out.mono (by omega)) | apply pw_below_drewN | refine below_set ?_ (by omega)⟩
end Go.Proofs.YtgjbnmobhafajaaGreatDoor
end
