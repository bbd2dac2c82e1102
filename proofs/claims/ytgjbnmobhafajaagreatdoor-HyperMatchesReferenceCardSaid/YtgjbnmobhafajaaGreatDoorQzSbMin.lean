/- The texts of this claim, SbMin. -/
import Derived.Test.YtgjbnmobhafajaaGreatDoorQzRaRefs
import Derived.Test.YtgjbnmobhafajaaGreatDoorQzSdSet
import Derived.Test.YtgjbnmobhafajaaGreatDoorQzSbMinPure
set_option linter.unusedVariables false
set_option linter.unusedSimpArgs false
section
namespace Go.Proofs.YtgjbnmobhafajaaGreatDoor
open Go Go.RowKit Go.Sort Go.Shelf Go.Proofs.YtgjbnmobhafajaaGreatDoorW.PrintWords Go.Proofs.YtgjbnmobhafajaaGreatDoorW.PrintLast
def RMinAll (w : World) (l0 : List (List Int)) (i : Nat) (v : Value) (W : World) : Prop :=
  ∃ xs : List Row, xs.map Row.l = Hyp.minimal (l0.take i) ∧ W.ownsRow w.heap.size 22 1 v xs.length (xs.map Row.v) ∧ Rows W w.heap.size xs ∧ Below w.heap.size w W ∧ xs.length ≤ i
theorem row_at {W : World} {base base' : Nat} {xs ys : List Row} {A : Option Addr} {c : Nat} (ho : W.ownsRow base 22 1 (.slice A xs.length c) xs.length (xs.map Row.v)) (hr : Rows W base' ys) (hs : ∀ x ∈ xs, x ∈ ys) (k : Nat) (hk : k < xs.length) :
    ∃ g Ay cy, A = some ⟨g, 0, none⟩ ∧ xs[k].v = .slice Ay xs[k].l.length cy ∧ W.cell? ⟨g, k, none⟩ = some (.slice Ay xs[k].l.length cy) ∧ xs[k].l.length ≤ cy ∧ Kd.C (Kd.int .i64) W Ay xs[k].l.length xs[k].l := by
  rcases own_nil_or ho with ⟨_, hn, _⟩ | ⟨g, cap, hv⟩
  · omega
  · injection hv with h1 _ h3
    subst h1
    obtain ⟨Ay, cy, e1, e2, e3⟩ := hr.is (hs _ (List.getElem_mem hk))
    have := (own_cells ho k (by simpa using hk)).1
    rw [List.getElem_map, e1, Nat.zero_add] at this
    exact ⟨g, Ay, cy, rfl, e1, this, e2, e3⟩
set_option maxRecDepth 100000 in
set_option maxHeartbeats 8000000 in
theorem refMinimal_gen (A0 : Option Addr) (c0 : Nat) (l0 : List (List Int)) (w : World) (hr0 : Kd.C (Kd.slice 3 (Kd.int .i64)) w A0 l0.length l0) (hc0 : l0.length ≤ c0) (hn : l0.length ≤ 1000) (hel : ∀ x ∈ l0, x.length ≤ 1000) :
    Calls Tryz.prog 19 #[.slice A0 l0.length c0] w fun e w' => ∃ v0_ : Value, e = .returned (v0_) ∧ Kd.S (Kd.slice 3 (Kd.int .i64)) 22 w' w.heap.size (fun _ => True) v0_ (Hyp.minimal l0) ∧ Below w.heap.size w w' := by
  obtain ⟨iR, hiR, hzR0, hzR1, hzR2⟩ := info_parts infoR
  have HF := Lib.hid (fun k (hk : k < l0.length) => C_rows hr0 (by omega))
  have HEL := Lib.hid hel
  have S0 : Hid (RMinAll w l0 0 (.slice none 0 0) w) := Lib.hid ⟨[], by rw [List.take_zero]; exact (List.eq_nil_of_length_eq_zero (by simpa using Hyp.minimal_len ([] : List (List Int)))).symm, own_nil _ _ _ _, Rows.nil _ _, Below.refl _ _, Nat.le_refl _⟩
  clear hr0 hel
  go_enter Tryz.func19, Tryz.ntmps19
  go_wp2
  go_loopg [3, 4, 5, 6, 7, 8, 9, 10] l0.length (fun g s3 s4 s5 s6 s7 s8 s9 s10 wr => ∃ i : Nat, s4 = .int .i64 (i : Int) ∧ i ≤ l0.length ∧ l0.length - i ≤ g ∧ Hid (RMinAll w l0 i s3 wr))
  case atStart => exact ⟨0, rfl, Nat.zero_le _, by omega, S0⟩
  case round =>
    clear S0
    obtain ⟨i, rfl, hile, hg, S1⟩ := hrel
    obtain ⟨xs, hxl, hown, hrows, hbel, hxi⟩ := S1.out
    clear S1
    have HXL := Lib.hid hxl
    have HO := Lib.hid hown
    have HR := Lib.hid hrows
    have HB := Lib.hid hbel
    have HXE : Hid (∀ x ∈ xs, Hyp.Inc x.l ∧ x.l.length ≤ 1000) := Lib.hid (fun x hx => by
      have h1 : x.l ∈ Hyp.minimal (l0.take i) := by rw [← hxl]; exact List.mem_map_of_mem hx
      obtain ⟨z, hz, _, e⟩ := Hyp.minimal_from h1
      have h2 := HEL.out z (List.mem_of_mem_take hz)
      have h3 := Hyp.setOf_le z
      rw [e]
      exact ⟨Hyp.setOf_inc z, by omega⟩)
    clear hxl hown hrows hbel
    obtain ⟨Ao, co, rfl⟩ := own_slice HO.out
    by_cases hlt : i < l0.length
    · have hltz : (i : Int) < (l0.length : Int) := by omega
      obtain ⟨b, off, rfl, hbl, hcs⟩ := HF.out i hlt
      obtain ⟨Aj, cj, hcell, hlc, hCj⟩ := hcs i hlt
      clear hcs
      have hcw := (HB.out.cell (p := ⟨b, off + i, none⟩) hbl).trans hcell
      clear hcell
      have hst := Hyp.minimal_next l0 i hlt
      have hmem : l0.getD i [] ∈ l0 := by rw [List.getD_eq_getElem?_getD, List.getElem?_eq_getElem hlt]; exact List.getElem_mem hlt
      have hjl := HEL.out _ hmem
      obtain ⟨z, hz⟩ : ∃ z, z = l0.getD i [] := ⟨_, rfl⟩
      rw [← hz] at hst hjl hcw hlc hCj
      have HST := Lib.hid hst
      have HCJ := Lib.hid (Kd.C_below hCj HB.out)
      have HK : Hid (cleanseref27_Set.f z = some (Hyp.setOf z)) := Lib.hid (by unfold cleanseref27_Set.f; rw [if_pos (by omega)])
      clear hst hCj hmem hz
      go_wp2_with fail
      refine (cleanseref27_Set.calls Aj cj z (Hyp.setOf z) _ HCJ.out hlc HK.out).mono ?_
      rintro e w1 ⟨v, rfl, hrv, hb1⟩
      have hso := Hyp.setOf_le z
      have hsp : 0 < z.length → 0 < (Hyp.setOf z).length := Hyp.setOf_pos
      have HINC := Lib.hid (Hyp.setOf_inc z)
      have HST2 : Hid (Hyp.minimal (l0.take (i + 1)) = if z.length = 0 then Hyp.minimal (l0.take i) else if ((Hyp.minimal (l0.take i)).any fun f => Hyp.subB f (Hyp.setOf z)) = true then Hyp.minimal (l0.take i) else Hyp.insL (Hyp.setOf z) ((Hyp.minimal (l0.take i)).filter fun f => !Hyp.subB (Hyp.setOf z) f)) := HST
      generalize Hyp.setOf z = s at *
      have HOV := Lib.hid (R_int hrv)
      have HB1 := Lib.hid hb1
      have hbs := HB.out.size
      have hbs1 := hb1.size
      obtain ⟨Av, cv, rfl⟩ := Kd.R_slice hrv
      clear hrv hb1 HCJ HK HST
      by_cases hz0 : z.length = 0
      · have hs0 : s.length = 0 := by omega
        have hs0b : ((s.length : Int) == 0) = true := beq_iff_eq.mpr (by omega)
        rw [if_pos hz0] at HST2
        have S2 : Hid (RMinAll w l0 (i + 1) (.slice Ao xs.length co) w1) := Lib.hid
          ⟨xs, by rw [HST2.out]; exact HXL.out, own_move HO.out (fun k hk => HB1.out.block k (own_lt HO.out k hk)), HR.out.below HB1.out, HB.out.trans (HB1.out.mono hbs), by omega⟩
        clear HST2 HXL HO HR HB HB1 HOV HINC hs0
        go_wp2
        go_roundg (l0.length - (i + 1))
        case measure => omega
        case rel => exact ⟨i + 1, by go_num, by omega, Nat.le_refl _, S2⟩
      · rw [if_neg hz0] at HST2
        have hsl : 0 < s.length := hsp (by omega)
        have hs0b : ((s.length : Int) == 0) = false := by simpa using (by omega : ¬ s.length = 0)
        have HOE := Lib.hid (own_move HO.out (fun k hk => HB1.out.block k (own_lt HO.out k hk)))
        have HRE := Lib.hid (HR.out.snoc (x := ⟨.slice Av s.length cv, s⟩) HB1.out hbs HOV.out hsl)
        have HBE := Lib.hid (HB.out.trans (HB1.out.mono hbs))
        obtain ⟨wE, hwE⟩ : ∃ wE, wE = w1 := ⟨_, rfl⟩
        rw [← hwE] at HOE HRE HBE ⊢
        clear hwE HO HR HB HB1 HOV hsp
        go_wp2
        go_loopg [6, 7] xs.length (fun gg s6 s7 wx => ∃ k : Nat, s7 = .int .i64 (k : Int) ∧ k ≤ xs.length ∧ xs.length - k ≤ gg ∧ s6 = .bool ((xs.take k).all fun x => !Hyp.subB x.l s) ∧ Hid (Below wE.heap.size wE wx))
        case atStart => exact ⟨0, rfl, Nat.zero_le _, by omega, by simp, Lib.hid (Below.refl _ _)⟩
        case round =>
          obtain ⟨k, rfl, hkle, hgk, rfl, HBX⟩ := hrel
          have HOX := Lib.hid (own_move HOE.out (fun q hq => HBX.out.block q (own_lt HOE.out q hq)))
          have HRX := Lib.hid (HRE.out.below HBX.out)
          have hxs := HBX.out.size
          obtain ⟨bk, hbk⟩ : ∃ bk, bk = ((xs.take k).all fun x => !Hyp.subB x.l s) := ⟨_, rfl⟩
          rw [← hbk]
          have HBK := Lib.hid hbk
          clear hbk
          obtain ⟨_, _, he1, hlcv, hCs⟩ := HRX.out.is (x := ⟨.slice Av s.length cv, s⟩) (by simp)
          injection he1 with he1 _ he2
          subst he1 he2
          have hlcv' : s.length ≤ cv := hlcv
          have HCS : Hid (Kd.C (Kd.int .i64) wr Av s.length s) := Lib.hid hCs
          clear hlcv hCs
          by_cases hkl : k < xs.length
          · have hklz : (k : Int) < (xs.length : Int) := by omega
            obtain ⟨gO, Ay, cy, rfl, _, hcell, hlcy, hCy⟩ := row_at HOX.out HRX.out (fun x hx => List.mem_append_left _ hx) k hkl
            obtain ⟨hyi, hyl⟩ := HXE.out _ (List.getElem_mem hkl)
            have HNX : Hid (((xs.take (k + 1)).all fun x => !Hyp.subB x.l s) = (bk && !Hyp.subB xs[k].l s)) := Lib.hid (by
              rw [List.take_succ_eq_append_getElem hkl, List.all_append, HBK.out]; simp)
            generalize xs[k].l = y at *
            have HCY := Lib.hid hCy
            have HYI := Lib.hid hyi
            clear hCy hyi
            cases bk with
            | false =>
              go_wp2
              go_roundg (xs.length - (k + 1))
              case measure => omega
              case rel => exact ⟨k + 1, by go_num, by omega, Nat.le_refl _, by rw [HNX.out]; rfl, HBX⟩
            | true =>
              go_wp2_with (go_at_call 32; refine hold_here ?_)
              refine hold_out ?_
              refine (Hy.cleanseref27_Contains.calls 5000 Av cv s Ay cy y (Hyp.subB y s) _ HCS.out hlcv' HCY.out hlcy (Hy.con_f s y HINC.out HYI.out (by omega) (by omega) 5000 (by omega))).mono ?_
              rintro e w2 ⟨rfl, q2, hq2⟩
              have HB2 : Hid (Below wE.heap.size wE w2) := Lib.hid (by rw [hq2]; exact pw_below_drewN HBX.out _)
              clear hq2
              go_wp2
              go_roundg (xs.length - (k + 1))
              case measure => omega
              case rel => exact ⟨k + 1, by go_num, by omega, Nat.le_refl _, by rw [HNX.out]; simp, HB2⟩
          · obtain rfl : k = xs.length := by omega
            have hklz : ¬ (xs.length : Int) < (xs.length : Int) := by omega
            rw [List.take_length] at HBK
            have hany : ((Hyp.minimal (l0.take i)).any fun f => Hyp.subB f s) = !bk := by
              rw [← HXL.out, List.any_map, HBK.out, List.not_all_eq_any_not]
              simp [Function.comp_def]
            cases bk with
            | false =>
              rw [if_pos (show _ = true from hany)] at HST2
              have S2 : Hid (RMinAll w l0 (i + 1) (.slice Ao xs.length co) wr) := Lib.hid
                ⟨xs, by rw [HST2.out]; exact HXL.out, HOX.out, HRX.out.sub (List.sublist_append_left _ _), HBE.out.trans (HBX.out.mono HBE.out.size), by omega⟩
              clear HST2 HXL HOX HRX HBX HBK HXE HCS hany HOE HRE HBE HINC
              go_wp2
              go_roundg (l0.length - (i + 1))
              case measure => omega
              case rel => exact ⟨i + 1, by go_num, by omega, Nat.le_refl _, S2⟩
            | true =>
              rw [if_neg (by rw [hany]; decide)] at HST2
              have HBN := Lib.hid (HBE.out.trans (HBX.out.mono HBE.out.size))
              obtain ⟨wN, hwN⟩ : ∃ wN, wN = wr := ⟨_, rfl⟩
              rw [← hwN] at HOX HRX HCS HBN ⊢
              have hbn := HBN.out.size
              clear hwN hany HBK HOE HRE HBE HBX
              obtain ⟨eR, heR⟩ : ∃ eR : Row, eR = ⟨.slice Av s.length cv, s⟩ := ⟨_, rfl⟩
              rw [← heR] at HRX
              have hel : eR.l = s := by rw [heR]
              have hev : eR.v = .slice Av s.length cv := by rw [heR]
              have HEL2 := Lib.hid hel
              have HEV2 := Lib.hid hev
              clear heR hel hev
              go_wp2
              go_loopg [8, 9, 10] xs.length (fun gg s8 s9 s10 wy => ∃ k : Nat, s10 = .int .i64 (k : Int) ∧ k ≤ xs.length ∧ xs.length - k ≤ gg ∧ s9 = .bool (Hyp.nextR eR (xs.take k)).2 ∧ Hid (wy.ownsRow wN.heap.size 22 1 s8 (Hyp.nextR eR (xs.take k)).1.length ((Hyp.nextR eR (xs.take k)).1.map Row.v)) ∧ Hid (Below wN.heap.size wN wy))
              case atStart => exact ⟨0, rfl, Nat.zero_le _, by omega, rfl, Lib.hid (own_nil _ _ _ _), Lib.hid (Below.refl _ _)⟩
              case round =>
                obtain ⟨k, rfl, hkle, hgk, rfl, HOY, HBY⟩ := hrel
                have hpl := Hyp.next_len eR (xs.take k)
                rw [List.length_take, Nat.min_eq_left hkle] at hpl
                have HPQ : Hid (Hyp.nextR eR (xs.take k) = Hyp.nextR eR (xs.take k)) := Lib.hid rfl
                obtain ⟨P, hP⟩ : ∃ P, P = Hyp.nextR eR (xs.take k) := ⟨_, rfl⟩
                rw [← hP] at HOY hpl ⊢
                have HP := Lib.hid hP
                clear hP HPQ
                obtain ⟨P1, P2⟩ := P
                replace HOY : Hid (wr.ownsRow wN.heap.size 22 1 _ P1.length (P1.map Row.v)) := HOY
                replace hpl : P1.length ≤ k + 1 := hpl
                show Code.wp _ _ _ _ _
                obtain ⟨An, cn, rfl⟩ := own_slice HOY.out
                have hys := HBY.out.size
                have HOZ := Lib.hid (own_move HOX.out (fun q hq => HBY.out.block q (own_lt HOX.out q hq)))
                have HRZ := Lib.hid (HRX.out.below HBY.out)
                have HCZ := Lib.hid (Kd.C_below HCS.out HBY.out)
                by_cases hkl : k < xs.length
                · have hklz : (k : Int) < (xs.length : Int) := by omega
                  obtain ⟨gO, Ay, cy, rfl, hyv, hcN, hlcy, hCy⟩ := row_at HOX.out HRX.out (fun x hx => List.mem_append_left _ hx) k hkl
                  obtain ⟨hyi, hyl⟩ := HXE.out _ (List.getElem_mem hkl)
                  have hnx := Hyp.nextR_take eR xs k hkl
                  rw [← HP.out] at hnx
                  obtain ⟨yR, hyR⟩ : ∃ yR : Row, yR = xs[k] := ⟨_, rfl⟩
                  rw [← hyR] at hyv hcN hlcy hCy hyi hyl hnx
                  have hnx2 : Hyp.nextR eR (xs.take (k + 1)) = if Hyp.subB s yR.l = true then (P1, P2) else if (!P2 && decide (Hyp.cmpL s yR.l < 0)) = true then (P1 ++ [eR, yR], true) else (P1 ++ [yR], P2) := by
                    rw [hnx]; unfold Hyp.nextStep; rw [HEL2.out]
                  obtain ⟨y, hy⟩ : ∃ y, y = yR.l := ⟨_, rfl⟩
                  rw [← hy] at hyv hcN hlcy hCy hyi hyl hnx2
                  have HNX := Lib.hid hnx2
                  have HYV := Lib.hid hyv
                  have HYI := Lib.hid hyi
                  have HCN := Lib.hid hcN
                  have HCY := Lib.hid hCy
                  have hgO : gO < wN.heap.size := World.block_lt_of_cell? wN _ hcN
                  clear hnx hnx2 hy hyR hyv hyi hcN hCy HP
                  have hc1 := (HBY.out.cell (p := ⟨gO, k, none⟩) hgO).trans HCN.out
                  go_wp2_with (go_at_call 32; refine hold_here ?_)
                  refine hold_out ?_
                  refine (Hy.cleanseref27_Contains.calls 5000 Ay cy y Av cv s (Hyp.subB s y) _ (Kd.C_below HCY.out HBY.out) hlcy HCZ.out hlcv' (Hy.con_f y s HYI.out HINC.out (by omega) (by omega) 5000 (by omega))).mono ?_
                  rintro e w2 ⟨rfl, q2, hq2⟩
                  have HB2 : Hid (Below wN.heap.size wN w2) := Lib.hid (by rw [hq2]; exact pw_below_drewN HBY.out _)
                  have hbq : Below wr.heap.size wr w2 := by rw [hq2]; exact pw_below_drewN (Below.refl _ _) _
                  have HO2 := Lib.hid (own_move HOY.out (fun q hq => hbq.block q (own_lt HOY.out q hq)))
                  have hc2 := (HB2.out.cell (p := ⟨gO, k, none⟩) hgO).trans HCN.out
                  have hw2 := HB2.out.size
                  clear hq2 hbq hc1 HOY HBY HOZ HRZ HCZ
                  cases hsub : Hyp.subB s y with
                  | true =>
                    rw [if_pos hsub] at HNX
                    clear hsub hc2
                    go_wp2
                    go_roundg (xs.length - (k + 1))
                    case measure => omega
                    case rel => exact ⟨k + 1, by go_num, by omega, Nat.le_refl _, by rw [HNX.out], by rw [HNX.out]; exact HO2, HB2⟩
                  | false =>
                    rw [if_neg (by rw [hsub]; decide)] at HNX
                    clear hsub
                    cases P2 with
                    | true =>
                      rw [if_neg (by simp)] at HNX
                      go_wp2_with (at_builtin; refine hold_here ?_)
                      refine hold_out ?_
                      refine wpList_append_own _ rfl _ _ 23 rfl wN.heap.size 22 iR (.slice none 0 0) 1 24 Tryz.underlying23 hiR hzR0 hzR1 hzR2 rfl (by decide) (.slice An P1.length cn) P1.length (P1.map Row.v) rfl (HO2.out.alloc _) ⟨w2.heap.size, 0, none⟩ 1 1 [.slice Ay y.length cy] rfl rfl (cell_one_new _ _ _) (by simp [Value.oneCell']) (by unfold maxLen; omega) (by omega) (by simp; omega) ?_
                      intro v5 w5 ho5 hg5 _
                      have HO5 : Hid (w5.ownsRow wN.heap.size 22 1 v5 (P1 ++ [yR]).length ((P1 ++ [yR]).map Row.v)) := Lib.hid (own_row_list (x := yR) (by rw [HYV.out]; exact ho5))
                      have HB5 : Hid (Below wN.heap.size wN w5) := Lib.hid ((HB2.out.alloc (by omega) _).grown hg5 (by simp; omega) (fun q e => own_base HO2.out q e))
                      clear ho5 hg5 hc2 HO2 HB2
                      obtain ⟨P3, hP3⟩ : ∃ P3, P3 = P1 ++ [yR] := ⟨_, rfl⟩
                      rw [← hP3] at HO5 HNX
                      clear hP3
                      obtain ⟨A5, c5, rfl⟩ := own_slice HO5.out
                      go_wp2
                      go_roundg (xs.length - (k + 1))
                      case measure => omega
                      case rel => exact ⟨k + 1, by go_num, by omega, Nat.le_refl _, by rw [HNX.out], by rw [HNX.out]; exact HO5, HB5⟩
                    | false =>
                      go_wp2_with (go_at_call 31; refine hold_here ?_)
                      refine hold_out ?_
                      refine (Hy.cleanseref27_Less.calls 5000 Av cv s Ay cy y (decide (Hyp.cmpL s y < 0)) _ (Kd.C_below HCS.out HB2.out) hlcv' (Kd.C_below HCY.out HB2.out) hlcy (Hy.less_f s y (by omega) (by omega) 5000 (by omega))).mono ?_
                      rintro e w3 ⟨rfl, q3, hq3⟩
                      have HB3 : Hid (Below wN.heap.size wN w3) := Lib.hid (by rw [hq3]; exact pw_below_drewN HB2.out _)
                      have hbq : Below w2.heap.size w2 w3 := by rw [hq3]; exact pw_below_drewN (Below.refl _ _) _
                      have HO3 := Lib.hid (own_move HO2.out (fun q hq => hbq.block q (own_lt HO2.out q hq)))
                      have hc3 := (HB3.out.cell (p := ⟨gO, k, none⟩) hgO).trans HCN.out
                      have hw3 := HB3.out.size
                      clear hq3 hbq hc2 HO2 HB2
                      by_cases hless : Hyp.cmpL s y < 0
                      · rw [if_pos (by simpa using hless)] at HNX
                        rw [decide_eq_true hless]
                        clear hless
                        go_wp2_with (at_builtin; refine hold_here ?_)
                        refine hold_out ?_
                        refine wpList_append_own _ rfl _ _ 23 rfl wN.heap.size 22 iR (.slice none 0 0) 1 24 Tryz.underlying23 hiR hzR0 hzR1 hzR2 rfl (by decide) (.slice An P1.length cn) P1.length (P1.map Row.v) rfl (HO3.out.alloc _) ⟨w3.heap.size, 0, none⟩ 1 1 [.slice Av s.length cv] rfl rfl (cell_one_new _ _ _) (by simp [Value.oneCell']) (by unfold maxLen; omega) (by omega) (by simp; omega) ?_
                        intro v5 w5 ho5 hg5 _
                        have HO5 : Hid (w5.ownsRow wN.heap.size 22 1 v5 (P1 ++ [eR]).length ((P1 ++ [eR]).map Row.v)) := Lib.hid (own_row_list (x := eR) (by rw [HEV2.out]; exact ho5))
                        have HB5 : Hid (Below wN.heap.size wN w5) := Lib.hid ((HB3.out.alloc (by omega) _).grown hg5 (by simp; omega) (fun q e => own_base HO3.out q e))
                        have hc5 := (HB5.out.cell (p := ⟨gO, k, none⟩) hgO).trans HCN.out
                        have hw5 := HB5.out.size
                        clear ho5 hg5 hc3 HO3 HB3
                        have HN2 : Hid (Hyp.nextR eR (xs.take (k + 1)) = ((P1 ++ [eR]) ++ [yR], true)) := Lib.hid (by rw [HNX.out]; simp)
                        obtain ⟨P3, hP3⟩ : ∃ P3, P3 = P1 ++ [eR] := ⟨_, rfl⟩
                        have hp3 : P3.length ≤ k + 2 := by rw [hP3]; simp; omega
                        rw [← hP3] at HO5 HN2
                        clear hP3 HNX
                        obtain ⟨A5, c5, rfl⟩ := own_slice HO5.out
                        go_wp2_with (at_builtin; refine hold_here ?_)
                        refine hold_out ?_
                        refine wpList_append_own _ rfl _ _ 23 rfl wN.heap.size 22 iR (.slice none 0 0) 1 24 Tryz.underlying23 hiR hzR0 hzR1 hzR2 rfl (by decide) (.slice A5 P3.length c5) P3.length (P3.map Row.v) rfl (HO5.out.alloc _) ⟨w5.heap.size, 0, none⟩ 1 1 [.slice Ay y.length cy] rfl rfl (cell_one_new _ _ _) (by simp [Value.oneCell']) (by unfold maxLen; omega) (by omega) (by simp; omega) ?_
                        intro v6 w6 ho6 hg6 _
                        have HO6 : Hid (w6.ownsRow wN.heap.size 22 1 v6 (P3 ++ [yR]).length ((P3 ++ [yR]).map Row.v)) := Lib.hid (own_row_list (x := yR) (by rw [HYV.out]; exact ho6))
                        have HB6 : Hid (Below wN.heap.size wN w6) := Lib.hid ((HB5.out.alloc (by omega) _).grown hg6 (by simp; omega) (fun q e => own_base HO5.out q e))
                        clear ho6 hg6 hc5 HO5 HB5
                        obtain ⟨P4, hP4⟩ : ∃ P4, P4 = P3 ++ [yR] := ⟨_, rfl⟩
                        rw [← hP4] at HO6 HN2
                        clear hP4
                        obtain ⟨A6, c6, rfl⟩ := own_slice HO6.out
                        go_wp2
                        go_roundg (xs.length - (k + 1))
                        case measure => omega
                        case rel => exact ⟨k + 1, by go_num, by omega, Nat.le_refl _, by rw [HN2.out], by rw [HN2.out]; exact HO6, HB6⟩
                      · rw [if_neg (by simpa using hless)] at HNX
                        rw [decide_eq_false hless]
                        clear hless
                        go_wp2_with (at_builtin; refine hold_here ?_)
                        refine hold_out ?_
                        refine wpList_append_own _ rfl _ _ 23 rfl wN.heap.size 22 iR (.slice none 0 0) 1 24 Tryz.underlying23 hiR hzR0 hzR1 hzR2 rfl (by decide) (.slice An P1.length cn) P1.length (P1.map Row.v) rfl (HO3.out.alloc _) ⟨w3.heap.size, 0, none⟩ 1 1 [.slice Ay y.length cy] rfl rfl (cell_one_new _ _ _) (by simp [Value.oneCell']) (by unfold maxLen; omega) (by omega) (by simp; omega) ?_
                        intro v5 w5 ho5 hg5 _
                        have HO5 : Hid (w5.ownsRow wN.heap.size 22 1 v5 (P1 ++ [yR]).length ((P1 ++ [yR]).map Row.v)) := Lib.hid (own_row_list (x := yR) (by rw [HYV.out]; exact ho5))
                        have HB5 : Hid (Below wN.heap.size wN w5) := Lib.hid ((HB3.out.alloc (by omega) _).grown hg5 (by simp; omega) (fun q e => own_base HO3.out q e))
                        clear ho5 hg5 hc3 HO3 HB3
                        obtain ⟨P3, hP3⟩ : ∃ P3, P3 = P1 ++ [yR] := ⟨_, rfl⟩
                        rw [← hP3] at HO5 HNX
                        clear hP3
                        obtain ⟨A5, c5, rfl⟩ := own_slice HO5.out
                        go_wp2
                        go_roundg (xs.length - (k + 1))
                        case measure => omega
                        case rel => exact ⟨k + 1, by go_num, by omega, Nat.le_refl _, by rw [HNX.out], by rw [HNX.out]; exact HO5, HB5⟩
                · obtain rfl : k = xs.length := by omega
                  have hklz : ¬ (xs.length : Int) < (xs.length : Int) := by omega
                  rw [List.take_length] at HP
                  have hlists := Hyp.next_lists eR xs []
                  have hperm := Hyp.next_perm eR xs [] false
                  rw [show xs.foldl (Hyp.nextStep eR) ([], false) = (P1, P2) from HP.out.symm] at hlists hperm
                  rw [HEL2.out, HXL.out, ← HST2.out] at hlists
                  have HRF : Hid (Rows wr w.heap.size (P1 ++ if P2 = true then [] else [eR])) := Lib.hid (by
                    have h1 : Rows wr w.heap.size ([eR] ++ xs) := HRZ.out.perm List.perm_append_comm
                    have h2 := h1.sub (List.Sublist.append (List.Sublist.refl [eR]) (List.filter_sublist (l := xs) (p := fun x => !Hyp.subB eR.l x.l)))
                    exact h2.perm hperm.symm)
                  clear hperm
                  cases P2 with
                  | true =>
                    have S2 : Hid (RMinAll w l0 (i + 1) (.slice An P1.length cn) wr) := Lib.hid
                      ⟨P1, hlists, own_weaken HOY.out hbn, by have := HRF.out; rwa [if_pos rfl, List.append_nil] at this, HBN.out.trans (HBY.out.mono hbn), by omega⟩
                    clear hlists HRF HP HOY HBY HOZ HRZ HCZ HOX HRX HCS HBN HST2 HXL HXE
                    go_wp2
                    go_roundg (l0.length - (i + 1))
                    case measure => omega
                    case rel => exact ⟨i + 1, by go_num, by omega, Nat.le_refl _, S2⟩
                  | false =>
                    go_wp2_with (at_builtin; refine hold_here ?_)
                    refine hold_out ?_
                    refine wpList_append_own _ rfl _ _ 23 rfl wN.heap.size 22 iR (.slice none 0 0) 1 24 Tryz.underlying23 hiR hzR0 hzR1 hzR2 rfl (by decide) (.slice An P1.length cn) P1.length (P1.map Row.v) rfl (HOY.out.alloc _) ⟨wr.heap.size, 0, none⟩ 1 1 [.slice Av s.length cv] rfl rfl (cell_one_new _ _ _) (by simp [Value.oneCell']) (by unfold maxLen; omega) (by omega) (by simp; omega) ?_
                    intro v5 w5 ho5 hg5 _
                    have hs5 : (wr.alloc (.cells #[.slice Av s.length cv] 22 (0, 0))).heap.size ≤ w5.heap.size := hg5.size
                    have HO5 : Hid (w5.ownsRow wN.heap.size 22 1 v5 (P1 ++ [eR]).length ((P1 ++ [eR]).map Row.v)) := Lib.hid (own_row_list (x := eR) (by rw [HEV2.out]; exact ho5))
                    have HB5 : Hid (Below wN.heap.size wN w5) := Lib.hid ((HBY.out.alloc (by omega) _).grown hg5 (by simp; omega) (fun q e => own_base HOY.out q e))
                    have HR5 : Hid (Rows w5 w.heap.size (P1 ++ [eR])) := Lib.hid (by
                      have := HRF.out
                      rw [if_neg (by decide)] at this
                      exact Rows.push this (own_weaken HOY.out hbn) hg5)
                    have hl5 : (P1 ++ [eR]).map Row.l = Hyp.minimal (l0.take (i + 1)) := hlists
                    have hn5 : (P1 ++ [eR]).length ≤ i + 1 := by
                      have h1 := Hyp.minimal_len (l0.take (i + 1))
                      rw [← hl5, List.length_map, List.length_take] at h1
                      omega
                    obtain ⟨P3, hP3⟩ : ∃ P3, P3 = P1 ++ [eR] := ⟨_, rfl⟩
                    rw [← hP3] at HO5 HR5 hl5 hn5
                    obtain ⟨A5, c5, rfl⟩ := own_slice HO5.out
                    have S2 : Hid (RMinAll w l0 (i + 1) (.slice A5 P3.length c5) w5) := Lib.hid
                      ⟨P3, hl5, own_weaken HO5.out hbn, HR5.out, HBN.out.trans (HB5.out.mono hbn), hn5⟩
                    clear hlists HRF HP HOY HBY HOZ HRZ HCZ HOX HRX HCS HBN HST2 HXL HXE ho5 hg5 hs5 HO5 HB5 HR5 hl5 hn5 hP3
                    go_wp2
                    go_roundg (l0.length - (i + 1))
                    case measure => omega
                    case rel => exact ⟨i + 1, by go_num, by omega, Nat.le_refl _, S2⟩
    · have hltz : ¬ (i : Int) < (l0.length : Int) := by omega
      obtain rfl : i = l0.length := by omega
      have hS := Rows.toS HR.out HO.out
      rw [HXL.out, List.take_length] at hS
      have HS := Lib.hid hS
      clear hS HXL HO HR HXE hxi
      go_wp2
      go_ret
      exact ⟨_, rfl, HS.out, HB.out⟩
def cleanseref27_Minimal.f (l0 : List (List Int)) : Option (List (List Int)) := if l0.length ≤ 1000 ∧ (∀ x ∈ l0, x.length ≤ 1000) then some (Hyp.minimal l0) else none
theorem cleanseref27_Minimal.calls (A0 : Option Addr) (c0 : Nat) (l0 : List (List Int)) (r : List (List Int)) (w : World) (hr0 : Kd.C (Kd.slice 3 (Kd.int .i64)) w A0 l0.length l0) (hc0 : l0.length ≤ c0) (h : cleanseref27_Minimal.f l0 = some r) :
    Calls Tryz.prog 19 #[.slice A0 l0.length c0] w fun e w' => ∃ v0_ : Value, e = .returned (v0_) ∧ Kd.S (Kd.slice 3 (Kd.int .i64)) 22 w' w.heap.size (fun _ => True) v0_ r ∧ Below w.heap.size w w' := by
  unfold cleanseref27_Minimal.f at h
  split at h
  · rename_i hc
    cases h
    exact refMinimal_gen A0 c0 l0 w hr0 hc0 hc.1 hc.2
  · cases h
end Go.Proofs.YtgjbnmobhafajaaGreatDoor
end
