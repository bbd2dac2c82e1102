/- The texts of this claim, RsSeq. -/
import Derived.Test.YtgjbnmobhafajaaDoorQsRsRows
set_option linter.unusedVariables false
set_option linter.unusedSimpArgs false
section
namespace Go.Proofs.YtgjbnmobhafajaaDoor
open Go Go.RowKit Go.Sort Go.Shelf Go.Proofs.YtgjbnmobhafajaaDoorW.PrintWords Go.Proofs.YtgjbnmobhafajaaDoorW.PrintLast
def SeqAll (w : World) (es : List (List Int)) (d : Nat) (v : Value) (W : World) : Prop :=
  ∃ xs : List Row, xs.map Row.l = Hyp.turnedUp es d ∧ W.ownsRow w.heap.size 27 1 v xs.length (xs.map Row.v) ∧ (∀ x ∈ xs, XRow W w.heap.size x) ∧ Below w.heap.size w W ∧ xs.length = 2 * d
theorem seq_back (z : List Int) (j : Nat) (h : j < z.length) : z.reverse.take (j + 1) = z.reverse.take j ++ [z.getD (z.length - 1 - j) 0] := by
  rw [List.take_succ_eq_append_getElem (by simpa using h), List.getElem_reverse, Hyp.getD_get z _ (by omega)]
theorem two_cells (w : World) (a b : Value) (t : TypeId) : ∀ j u, [a, b][j]? = some u → (w.alloc (.cells #[a, b] t (0, 0))).cell? ((⟨w.heap.size, 0, none⟩ : Addr).add j) = some u := by
  intro j u hj
  rw [add_none]
  unfold World.cell?
  have : (w.alloc (.cells #[a, b] t (0, 0))).heap[w.heap.size]? = some (.cells #[a, b] t (0, 0)) := by
    show (w.heap.push _)[w.heap.size]? = _
    simp
  rw [this]
  rcases j with _ | _ | j
  · simp at hj ⊢; exact hj
  · simp at hj ⊢; exact hj
  · simp at hj
set_option maxRecDepth 100000 in
set_option maxHeartbeats 8000000 in
theorem seq_walk (n : Int) (A1 : Option Addr) (c1 : Nat) (l1 : List Int) (A2 : Option Addr) (c2 : Nat) (l2 : List (List Int)) (w : World) (hr1 : Kd.C (Kd.int .i64) w A1 l1.length l1) (hc1 : l1.length ≤ c1) (hr2 : Kd.C (Kd.slice 3 (Kd.int .i64)) w A2 l2.length l2) (hc2 : l2.length ≤ c2) :
    Calls Tryd.prog 5 #[.int .i64 n, .slice A1 l1.length c1, .slice A2 l2.length c2] w fun e w' => e = .returned (.bool true) ∧ Below w.heap.size w w' := by
  obtain ⟨iI, hiI, hzI0, hzI1, hzI2⟩ := info_parts infoInt
  obtain ⟨iR, hiR, hzR0, hzR1, hzR2⟩ := info_parts infoR
  have hel := hr2.2.1
  have hF := Hy.few_f l2 40 hel (l2.length + 1) (by omega)
  obtain ⟨F, hFe⟩ : ∃ F, F = ((l2.all fun e => decide (e.length ≤ 10)) && decide ((l2.length : Int) ≤ 40)) := ⟨_, rfl⟩
  rw [← hFe] at hF
  have HFe := Lib.hid hFe
  have HR1 := Lib.hid (fun W (hb : Below w.heap.size w W) => Kd.C_below hr1 hb)
  have HR2 := Lib.hid (fun W (hb : Below w.heap.size w W) => Kd.C_below hr2 hb)
  have HF0 := Lib.hid (fun k (hk : k < l2.length) => C_rows hr2 (by omega))
  clear hr1 hr2 hFe
  go_enter Tryd.func5, Tryd.ntmps5
  go_wp2_with fail
  refine (head.walk _).mono ?_
  rintro e w1 ⟨rfl, hb1⟩
  have HB1 := Lib.hid hb1
  clear hb1
  go_wp2_with fail
  refine (Hy.cleanseref27_Few.calls (l2.length + 1) A2 c2 l2 40 F w1 (HR2.out _ HB1.out) hc2 hF).mono ?_
  rintro e w2 ⟨rfl, q2, hq2⟩
  have HB2 : Hid (Below w.heap.size w w2) := Lib.hid (by rw [hq2]; exact pw_below_drewN HB1.out _)
  clear hq2 hF HB1
  cases F with
  | false =>
    go_wp2_with fail
    go_ret
    exact ⟨rfl, HB2.out⟩
  | true =>
    have hfew := HFe.out.symm
    simp only [Bool.and_eq_true, List.all_eq_true, decide_eq_true_eq] at hfew
    obtain ⟨he10, he40⟩ := hfew
    have HE := Lib.hid he10
    clear he10 HFe
    by_cases hl1 : l1.length ≤ 100
    · have hl1z : ¬ (100 : Int) < (l1.length : Int) := by omega
      have S0 : Hid (SeqAll w l2 0 (.slice none 0 0) w2) := Lib.hid ⟨[], rfl, own_nil _ _ _ _, fun x hx => by simp at hx, HB2.out, rfl⟩
      clear HB2
      go_wp2
      go_loopg [8, 9, 10, 11] l2.length (fun g s8 s9 s10 s11 wr => ∃ d : Nat, s9 = .int .i64 ((l2.length : Int) - 1 - (d : Int)) ∧ d ≤ l2.length ∧ l2.length - d ≤ g ∧ Hid (SeqAll w l2 d s8 wr))
      case atStart => exact ⟨0, by simp, by omega, by omega, S0⟩
      case round =>
        clear S0
        obtain ⟨d, rfl, hdle, hg, S1⟩ := hrel
        obtain ⟨xs, hxl, hown, hrows, hbel, hxn⟩ := S1.out
        clear S1
        have HXL := Lib.hid hxl
        have HO := Lib.hid hown
        have HR := Lib.hid hrows
        have HB := Lib.hid hbel
        have HXN := Lib.hid hxn
        have hxm : xs.length ≤ 200 := by omega
        clear hxl hown hrows hbel hxn
        obtain ⟨Ao, co, rfl⟩ := own_slice HO.out
        by_cases hlt : d < l2.length
        · obtain ⟨b, off, rfl, hbl, hcs⟩ := HF0.out d hlt
          obtain ⟨i0, hi0⟩ : ∃ i0, i0 = l2.length - 1 - d := ⟨_, rfl⟩
          have hi0l : i0 < l2.length := by omega
          have hi0z : (l2.length : Int) - 1 - (d : Int) = (i0 : Int) := by omega
          have hi0p : (0 : Int) ≤ (i0 : Int) := by omega
          have hi0q : (i0 : Int) < (l2.length : Int) := by omega
          obtain ⟨Aj, cj, hcell, hlc, hCj⟩ := hcs i0 hi0l
          have hcw := (HB.out.cell (p := ⟨b, off + i0, none⟩) hbl).trans hcell
          have hmem : l2.getD i0 [] ∈ l2 := by rw [List.getD_eq_getElem?_getD, List.getElem?_eq_getElem hi0l]; exact List.getElem_mem hi0l
          have hz10 := HE.out _ hmem
          have hts := Hyp.turned_succ l2 d hlt
          rw [← hi0] at hts
          obtain ⟨z, hz⟩ : ∃ z, z = l2.getD i0 [] := ⟨_, rfl⟩
          rw [← hz] at hcw hlc hCj hz10 hts
          have HTS := Lib.hid hts
          have HCW := Lib.hid hCj
          have HCJ := Lib.hid (Kd.C_below hCj HB.out)
          clear hcs hcell hmem hz hts hCj
          have hsz := HB.out.size
          obtain ⟨wo, hwo⟩ : ∃ wo : World, wo = wr := ⟨_, rfl⟩
          rw [← hwo] at HO HR HB HCJ hcw hsz ⊢
          clear hwo
          rw [hi0z]
          have HI0 := Lib.hid hi0z
          clear hi0 hi0z hi0l
          go_wp2
          go_loopg [10, 11] z.length (fun gg s10 s11 wx => ∃ j : Nat, s11 = .int .i64 ((z.length : Int) - 1 - (j : Int)) ∧ j ≤ z.length ∧ z.length - j ≤ gg ∧ Hid (Below wo.heap.size wo wx) ∧ Hid (Kd.R (Kd.int .i64) 3 wx wo.heap.size (fun _ => True) s10 (z.reverse.take j)))
          case atStart => exact ⟨0, by simp, by omega, by omega, Lib.hid (Below.refl _ _), Lib.hid (Kd.R_nil _ _ _ _ _)⟩
          case round =>
            obtain ⟨j, rfl, hj, hgj, HBF, HRF⟩ := hrel
            have hcx := (HBF.out.cell (p := ⟨b, off + i0, none⟩) (by show b < _; omega)).trans hcw
            have hbs := HBF.out.size
            clear hcw
            by_cases hltj : j < z.length
            · obtain ⟨k0, hk0⟩ : ∃ k0, k0 = z.length - 1 - j := ⟨_, rfl⟩
              have hk0l : k0 < z.length := by omega
              have hk0z : (z.length : Int) - 1 - (j : Int) = (k0 : Int) := by omega
              have hk0p : (0 : Int) ≤ (k0 : Int) := by omega
              have hk0q : (k0 : Int) < (z.length : Int) := by omega
              obtain ⟨bx, ox, rfl, hbx, hcc⟩ := C_int HCJ.out (by omega)
              have hcj := (HBF.out.cell (p := ⟨bx, ox + k0, none⟩) hbx).trans (hcc k0 hk0l)
              have HET := seq_back z j hltj
              rw [← hk0] at HET
              replace HET := Lib.hid HET
              generalize z.getD k0 0 = y at *
              clear hcc
              obtain ⟨Af, cf, rfl⟩ := Kd.R_slice HRF.out
              obtain ⟨f0, hf0⟩ : ∃ f, f = z.reverse.take j := ⟨_, rfl⟩
              have hfl : f0.length = j := by rw [hf0, List.length_take, List.length_reverse]; omega
              rw [← hf0] at HRF HET ⊢
              clear hf0
              rw [hk0z]
              have HK0 := Lib.hid hk0z
              clear hk0 hk0z hk0l
              go_wp2_with (at_builtin; refine hold_here ?_)
              refine hold_out ?_
              refine Kd.R_append (Kd.int .i64) (W := wr) (w0 := wr) wo.heap.size rfl _ _ 27 3 (.int .i64 0) 8 rfl Tryd.underlying27 infoInt rfl (by decide) (by decide) (.slice Af f0.length cf) f0 y [.int .i64 y] (fun _ => True) (fun _ => False) rfl rfl rfl (fun _ h => h.elim) (fun _ _ => trivial) HRF.out (Below.refl _ _) HBF.out.size (by omega) ?_
              intro v2 w3 hr3 hb3 hg3 hat3
              have HB3 := Lib.hid (HBF.out.grown hg3 HBF.out.size (fun q e => own_base (R_int HRF.out) q e))
              have HR3 := Lib.hid hr3
              clear hr3 hb3 hg3 hat3
              rw [← HET.out] at HR3
              obtain ⟨f1, hf1⟩ : ∃ f, f = z.reverse.take (j + 1) := ⟨_, rfl⟩
              rw [← hf1] at HR3
              have HF1 := Lib.hid hf1
              clear hf1 HET HRF
              obtain ⟨A3, c3, rfl⟩ := Kd.R_slice HR3.out
              go_wp2
              go_roundg (z.length - (j + 1))
              case measure => omega
              case rel => exact ⟨j + 1, by have := HK0.out; first | go_num | (congr 1; omega), by omega, Nat.le_refl _, HB3, by rw [← HF1.out]; exact HR3⟩
            · obtain rfl : j = z.length := by omega
              have hneg : ¬ (0 : Int) ≤ (z.length : Int) - 1 - (z.length : Int) := by omega
              rw [show z.reverse.take z.length = z.reverse from List.take_of_length_le (by simp)] at HRF
              obtain ⟨y, hy⟩ : ∃ y, y = z.reverse := ⟨_, rfl⟩
              have hyl : y.length ≤ 10 := by rw [hy, List.length_reverse]; exact hz10
              rw [← hy] at HRF HTS
              clear hy
              obtain ⟨Af, cf, rfl⟩ := Kd.R_slice HRF.out
              have HOx := Lib.hid (own_move HO.out (fun q hq => HBF.out.block q (own_lt HO.out q hq)))
              go_wp2_with (at_builtin; refine hold_here ?_)
              refine hold_out ?_
              refine wpList_append_own _ rfl _ _ 22 rfl w.heap.size 27 iR (.slice none 0 0) 1 24 Tryd.underlying22 hiR hzR0 hzR1 hzR2 rfl (by decide) (.slice Ao xs.length co) xs.length (xs.map Row.v) rfl (HOx.out.alloc _) ⟨wr.heap.size, 0, none⟩ 2 2 [.slice Af y.length cf, .slice Aj z.length cj] rfl rfl (two_cells _ _ _ _) (by simp [Value.oneCell']) (by unfold maxLen; omega) (by omega) (by simp; omega) ?_
              intro v2 w3 ho2 hg2 _
              have hs3 : (wr.alloc (.cells #[.slice Af y.length cf, .slice Aj z.length cj] 27 (0, 0))).heap.size ≤ w3.heap.size := hg2.size
              have S2 : Hid (SeqAll w l2 (d + 1) v2 w3) := by
                refine Lib.hid ⟨xs ++ [⟨.slice Af y.length cf, y⟩, ⟨.slice Aj z.length cj, z⟩], ?_, by simpa using ho2, ?_, ?_, by simp [HXN.out]; omega⟩
                · rw [List.map_append, HXL.out, HTS.out]; rfl
                · intro x hx
                  rcases List.mem_append.1 hx with hx | hx
                  · exact ((HR.out x hx).below HBF.out).push HOx.out hg2 hs3
                  · rcases List.mem_cons.1 hx with rfl | hx
                    · exact (XRow.own (R_int HRF.out)).push HOx.out hg2 hs3
                    · rw [List.mem_singleton.1 hx]
                      refine XRow.push ⟨⟨Aj, cj, rfl, hlc, Kd.C_below HCJ.out HBF.out⟩, fun b' off' c' e hn => ?_⟩ HOx.out hg2 hs3
                      obtain ⟨bx, ox, e2, hbx, _⟩ := C_int HCW.out hn
                      have e3 : (Value.slice Aj z.length cj) = .slice (some ⟨b', off', none⟩) z.length c' := e
                      rw [e2] at e3
                      injection e3 with e4 _ _
                      injection e4 with e4
                      injection e4 with e4 _ _
                      exact ⟨by omega, .inl (by omega)⟩
                · exact ((HB.out.trans (HBF.out.mono hsz)).alloc (by omega) _).grown hg2 (by simp; omega) (fun q e => own_base HOx.out q e)
              clear ho2 hg2 hs3 HOx HRF HBF HR HO HB HCJ HCW HTS HXL HXN hxm
              obtain ⟨xs2, -, hown2, -, -, -⟩ := S2.out
              obtain ⟨A4, c4, rfl⟩ := own_slice hown2
              clear hown2
              go_wp2
              go_roundg (l2.length - (d + 1))
              case measure => omega
              case rel => exact ⟨d + 1, by have := HI0.out; first | go_num | (congr 1; omega), by omega, Nat.le_refl _, S2⟩
        · obtain rfl : d = l2.length := by omega
          have hneg : ¬ (0 : Int) ≤ (l2.length : Int) - 1 - (l2.length : Int) := by omega
          obtain ⟨At, ct, het, hct, hCt⟩ := XRows.toC (fun x hx => (HR.out x hx).is) HO.out (by omega)
          rw [HXL.out] at het hct hCt
          have hTl := Hyp.turned_len l2
          have hTe : ∀ x ∈ Hyp.turnedUp l2 l2.length, x.length ≤ 1048576 := fun x hx => by
            obtain ⟨y, hy, h⟩ := Hyp.mem_turned.1 hx
            have := HE.out y hy
            rcases h with rfl | rfl
            · rw [List.length_reverse]; omega
            · omega
          obtain ⟨r1, r2, r3, r4, hM⟩ : ∃ r1 r2 r3 r4, Hyp.makeF n l1 l2 = (r1, r2, r3, r4) := ⟨_, _, _, _, rfl⟩
          obtain ⟨hb1, hb2, hb3⟩ := Hyp.make_bounds hM
          have HM1 : Hid (hyper_Make.f n l1 l2 = some (r1, r2, r3, r4)) := Lib.hid (by
            unfold hyper_Make.f
            rw [if_pos ⟨hl1, by omega, fun x hx => by have := HE.out x hx; omega⟩, hM])
          have HM2 : Hid (hyper_Make.f n l1 (Hyp.turnedUp l2 l2.length) = some (r1, r2, r3, r4)) := Lib.hid (by
            unfold hyper_Make.f
            rw [if_pos ⟨hl1, by omega, hTe⟩, Hyp.make_turned, hM])
          have HSM : Hid (Hy.cleanseref27_Same.f 2000 r1 r2 r3 r1 r2 r3 = some true) := Lib.hid (by
            rw [Hy.same_f r1 r1 r2 r2 r3 r3 (by omega) 10 (fun e he => by obtain ⟨x, hx, h⟩ := hb3 e he; have := HE.out x hx; omega) (by omega) (by omega) 2000 (by omega)]
            simp)
          have HCT := Lib.hid hCt
          obtain ⟨T, hT⟩ : ∃ T, T = Hyp.turnedUp l2 l2.length := ⟨_, rfl⟩
          rw [← hT] at het hct HCT HM2
          rw [het]
          clear hT hTl hTe hM hb1 hb2 hb3 hCt het HXL HXN HR HO HF0 HE hxm
          go_wp2_with fail
          refine (hyper_Make.calls n A1 c1 l1 A2 c2 l2 r1 r2 r3 r4 _ (HR1.out _ HB.out) hc1 (HR2.out _ HB.out) hc2 HM1.out).mono ?_
          rintro e w3 ⟨vc, ve, rfl, hR3, hS3, hb3⟩
          obtain ⟨Ac, cc, rfl, hlcc, hGc⟩ := Kd.R_reads hR3
          obtain ⟨Ae, ce, rfl, hlce, hGe⟩ := Kd.S_reads hS3
          have HB3 : Hid (Below w.heap.size w w3) := Lib.hid (below2 HB.out hb3)
          have HCT3 := Lib.hid (Kd.C_below HCT.out hb3)
          have HGc := Lib.hid hGc
          have HGe := Lib.hid hGe
          clear hR3 hS3 hb3 hGc hGe HB HCT
          go_wp2_with ((with_reducible refine gate_dst (N := 12) rfl ?_); refine hold_here ?_)
          refine hold_out ?_
          refine box_event rfl (N := 12) rfl (cs := #[.int .i64 0, .slice none 0 0, .slice none 0 0]) (t := 33) (by first | (go_simp; done) | (go_simp; rfl)) ?_
          intro G hG w4 hbox hb4
          have hGl : w3.heap.size ≤ G := Nat.le_of_eq hG.symm
          obtain ⟨hx0, hx1, hx2, hy0, hy1, hy2⟩ := GraphAt.cells (show GraphAt w4 G 0 (.slice none 0 0) (.slice none 0 0) from hbox)
          clear hG
          have HBX := Lib.hid hbox
          have HB4 := Lib.hid hb4
          clear hbox hb4
          go_wp2_with ((with_reducible refine gate_dst (N := 72) rfl ?_); refine hold_here ?_)
          refine hold_out ?_
          obtain ⟨hGA, hbA⟩ := graph_stored hGl HB4.out HBX.out r1 (.slice Ac r2.length cc) (.slice Ae r3.length ce)
          obtain ⟨w5, hw5⟩ : ∃ w5, w5 = ((w4.setCell ⟨G, 0, none⟩ (.int .i64 r1)).setCell ⟨G, 1, none⟩ (.slice Ac r2.length cc)).setCell ⟨G, 2, none⟩ (.slice Ae r3.length ce) := ⟨_, rfl⟩
          rw [← hw5] at hGA hbA ⊢
          clear hw5 hx0 hx1 hx2 hy0 hy1 hy2 HBX HB4 hGl
          have HB5 : Hid (Below w.heap.size w w5) := Lib.hid (below2 HB3.out hbA)
          have HCT5 := Lib.hid (Kd.C_below HCT3.out hbA)
          have HGc5 := Lib.hid (Kd.C_below HGc.out hbA)
          have HGe5 := Lib.hid (Kd.C_below HGe.out hbA)
          have HGA := Lib.hid hGA
          clear hGA hbA HB3 HCT3 HGc HGe
          go_wp2_with (go_at_call 18; refine hold_here ?_)
          refine hold_out ?_
          refine (hyper_Make.calls n A1 c1 l1 At ct T r1 r2 r3 r4 _ (HR1.out _ HB5.out) hc1 HCT5.out hct HM2.out).mono ?_
          rintro e w6 ⟨vc6, ve6, rfl, hR6, hS6, hb6⟩
          obtain ⟨Bc, dc, rfl, hlbc, hHc⟩ := Kd.R_reads hR6
          obtain ⟨Be, de, rfl, hlbe, hHe⟩ := Kd.S_reads hS6
          have HB6 : Hid (Below w.heap.size w w6) := Lib.hid (below2 HB5.out hb6)
          have HGc6 := Lib.hid (Kd.C_below HGc5.out hb6)
          have HGe6 := Lib.hid (Kd.C_below HGe5.out hb6)
          have HGA6 := Lib.hid (HGA.out.below hb6)
          have HHc := Lib.hid hHc
          have HHe := Lib.hid hHe
          clear hR6 hS6 hb6 hHc hHe HB5 HCT5 HGc5 HGe5 HGA HM1 HM2 HR1 HR2
          go_wp2_with ((with_reducible refine gate_dst (N := 14) rfl ?_); refine hold_here ?_)
          refine hold_out ?_
          refine box_event rfl (N := 14) rfl (cs := #[.int .i64 0, .slice none 0 0, .slice none 0 0]) (t := 33) (by first | (go_simp; done) | (go_simp; rfl)) ?_
          intro G2 hG2 w7 hbox hb7
          have hGl2 : w6.heap.size ≤ G2 := Nat.le_of_eq hG2.symm
          obtain ⟨hx0, hx1, hx2, hy0, hy1, hy2⟩ := GraphAt.cells (show GraphAt w7 G2 0 (.slice none 0 0) (.slice none 0 0) from hbox)
          clear hG2
          have HBX := Lib.hid hbox
          have HB7 := Lib.hid hb7
          clear hbox hb7
          go_wp2_with ((with_reducible refine gate_dst (N := 82) rfl ?_); refine hold_here ?_)
          refine hold_out ?_
          obtain ⟨hGA, hbA⟩ := graph_stored hGl2 HB7.out HBX.out r1 (.slice Bc r2.length dc) (.slice Be r3.length de)
          obtain ⟨w8, hw8⟩ : ∃ w8, w8 = ((w7.setCell ⟨G2, 0, none⟩ (.int .i64 r1)).setCell ⟨G2, 1, none⟩ (.slice Bc r2.length dc)).setCell ⟨G2, 2, none⟩ (.slice Be r3.length de) := ⟨_, rfl⟩
          rw [← hw8] at hGA hbA ⊢
          clear hw8 hx0 hx1 hx2 hy0 hy1 hy2 HBX HB7 hGl2
          have HB8 : Hid (Below w.heap.size w w8) := Lib.hid (below2 HB6.out hbA)
          have HGc8 := Lib.hid (Kd.C_below HGc6.out hbA)
          have HGe8 := Lib.hid (Kd.C_below HGe6.out hbA)
          have HHc8 := Lib.hid (Kd.C_below HHc.out hbA)
          have HHe8 := Lib.hid (Kd.C_below HHe.out hbA)
          have HGA8 := HGA6.out.below hbA
          obtain ⟨hg0, hg1, hg2, _, _, _⟩ := HGA8.cells
          obtain ⟨hh0, hh1, hh2, _, _, _⟩ := hGA.cells
          clear hGA HGA8 hbA HB6 HGc6 HGe6 HHc HHe HGA6
          go_wp2_with (go_at_call 20; refine hold_here ?_)
          refine hold_out ?_
          refine (Hy.cleanseref27_Same.calls 2000 r1 Ac cc r2 Ae ce r3 r1 Bc dc r2 Be de r3 true _ HGc8.out hlcc HGe8.out hlce HHc8.out hlbc HHe8.out hlbe HSM.out).mono ?_
          rintro e w9 ⟨rfl, hb9⟩
          have HB9 : Hid (Below w.heap.size w w9) := Lib.hid (below2 HB8.out hb9)
          clear hb9
          go_wp2
          go_ret
          exact ⟨rfl, HB9.out⟩
    · have hl1z : (100 : Int) < (l1.length : Int) := by omega
      go_wp2_with fail
      go_ret
      exact ⟨rfl, HB2.out⟩
def Hy.cleanselaw27_HyperSequence.f (_k : Nat) (_n : Int) (_l1 : List Int) (_l2 : List (List Int)) : Option Bool := some true
theorem Hy.cleanselaw27_HyperSequence.calls (k : Nat) (n : Int) (A1 : Option Addr) (c1 : Nat) (l1 : List Int) (A2 : Option Addr) (c2 : Nat) (l2 : List (List Int)) (r : Bool) (w : World) (hr1 : Kd.C (Kd.int .i64) w A1 l1.length l1) (hc1 : l1.length ≤ c1) (hr2 : Kd.C (Kd.slice 3 (Kd.int .i64)) w A2 l2.length l2) (hc2 : l2.length ≤ c2) (h : Hy.cleanselaw27_HyperSequence.f k n l1 l2 = some r) :
    Calls Tryd.prog 5 #[.int .i64 n, .slice A1 l1.length c1, .slice A2 l2.length c2] w fun e w' => e = .returned (.bool r) ∧ Below w.heap.size w w' := by
  obtain rfl : true = r := Option.some.inj h
  exact seq_walk n A1 c1 l1 A2 c2 l2 w hr1 hc1 hr2 hc2
end Go.Proofs.YtgjbnmobhafajaaDoor
end
