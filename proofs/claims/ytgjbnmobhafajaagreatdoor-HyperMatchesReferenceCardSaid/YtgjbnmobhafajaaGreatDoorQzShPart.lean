/- The texts of this claim, ShPart. -/
import Derived.Test.YtgjbnmobhafajaaGreatDoorQzSaValid
import Derived.Test.YtgjbnmobhafajaaGreatDoorQzHxTools
section
namespace Go.Proofs.YtgjbnmobhafajaaGreatDoor
open Go Go.RowKit Go.Sort Go.Shelf Go.Proofs.YtgjbnmobhafajaaGreatDoorW.PrintWords Go.Proofs.YtgjbnmobhafajaaGreatDoorW.PrintLast
def Hyp.placeT (n : Nat) (vs : List Int) (i : Nat) : List Int := (List.range n).map fun (x : Nat) => if (x : Int) ∈ vs.take i then Hyp.idx vs (x : Int) else -1
theorem Hyp.placeT_len (n : Nat) (vs : List Int) (i : Nat) : (Hyp.placeT n vs i).length = n := by simp [Hyp.placeT]
theorem Hyp.placeT_get (n : Nat) (vs : List Int) (i : Nat) {x : Nat} (hx : x < (Hyp.placeT n vs i).length) : (Hyp.placeT n vs i)[x] = if (x : Int) ∈ vs.take i then Hyp.idx vs (x : Int) else -1 := by simp [Hyp.placeT]
theorem Hyp.placeT_zero (n : Nat) (vs : List Int) : Hyp.placeT n vs 0 = List.replicate n (-1) := by
  refine List.ext_getElem (by simp [Hyp.placeT]) fun x h1 h2 => ?_
  rw [Hyp.placeT_get, List.getElem_replicate, if_neg (by simp)]
theorem Hyp.placeT_set (n : Nat) {vs : List Int} (hvs : Hyp.Inc vs) (hin : ∀ x ∈ vs, 0 ≤ x ∧ x < (n : Int)) (i : Nat) (hi : i < vs.length) : (Hyp.placeT n vs i).set (vs[i]).toNat (i : Int) = Hyp.placeT n vs (i + 1) := by
  have hv := hin _ (List.getElem_mem hi)
  have hix := Hyp.idx_at hvs i hi
  rw [Hyp.getD_get vs i hi] at hix
  refine List.ext_getElem (by simp [Hyp.placeT]) fun x h1 h2 => ?_
  rw [List.getElem_set, Hyp.placeT_get, Hyp.placeT_get, List.take_succ_eq_append_getElem hi]
  generalize vs[i] = v at *
  by_cases e : v.toNat = x
  · subst e
    rw [if_pos rfl, if_pos (by rw [show ((v.toNat : Nat) : Int) = v by omega]; simp), show ((v.toNat : Nat) : Int) = v by omega, hix]
  · rw [if_neg e]
    have : (x : Int) ≠ v := fun h => e (by omega)
    simp [this]
theorem Hyp.placeT_all (n : Nat) (vs : List Int) {x : Nat} (hx : x < n) : (Hyp.placeT n vs vs.length).getD x 0 = if (x : Int) ∈ vs then Hyp.idx vs (x : Int) else -1 := by
  rw [List.getD_eq_getElem?_getD, List.getElem?_eq_getElem (by rw [Hyp.placeT_len]; exact hx)]
  have h : x < (Hyp.placeT n vs vs.length).length := by rw [Hyp.placeT_len]; exact hx
  show (Hyp.placeT n vs vs.length)[x]'h = _
  rw [Hyp.placeT_get, List.take_length]
def iCells (l : List Int) : Array Value := (l.map (Value.int .i64)).toArray
def PRow (W : World) (M : Nat) (l : List Int) : Prop := W.heap[M]? = some (.cells (iCells l) 3 (0, 0))
theorem PRow.cell {W : World} {M : Nat} {l : List Int} (h : PRow W M l) (i : Nat) (hi : i < l.length) : W.cell? ⟨M, i, none⟩ = some (.int .i64 (l.getD i 0)) ∧ W.frozen? ⟨M, i, none⟩ = false :=
  ⟨(blk_cell h i).trans (by simp [iCells, hi]), blk_frozen h i⟩
theorem PRow.set {W : World} {M : Nat} {l : List Int} (h : PRow W M l) (i : Nat) (v : Int) : PRow (W.setCell ⟨M, i, none⟩ (.int .i64 v)) M (l.set i v) := blk_put h i _ (by simp [iCells, List.map_set])
def cleanseref27_Part.f (a0_0 : Int) (l0_1 : List Int) (l0_2 : List (List Int)) (l1 : List Int) : Option (Int × List Int × List (List Int) × Int) :=
  if a0_0 ≤ 1000 ∧ l0_1.length ≤ 1000 ∧ l0_2.length ≤ 1000 ∧ (∀ x ∈ l0_2, x.length ≤ 1000) ∧ l1.length ≤ 1000 then some (Hyp.partF a0_0 l0_1 l0_2 l1) else none
def RPartS (wb : World) (G M n : Nat) (m : Int) (i : Nat) (W : World) : Prop :=
  GraphAt W G m (.slice none 0 0) (.slice none 0 0) ∧ PRow W M (List.replicate i (-1) ++ List.replicate (n - i) 0) ∧ Below wb.heap.size wb W ∧ M + 1 ≤ W.heap.size
def RPartA (wb : World) (G M n : Nat) (cost vs : List Int) (i : Nat) (W : World) : Prop :=
  ∃ vc, GraphAt W G (vs.length : Int) vc (.slice none 0 0) ∧ Kd.R (Kd.int .i64) 3 W (M + 1) (fun _ => True) vc (Hyp.costsOf cost (vs.take i)) ∧ PRow W M (Hyp.placeT n vs i) ∧ Below wb.heap.size wb W ∧ M + 1 ≤ W.heap.size
def RPartB (wb wE : World) (G M n : Nat) (costs vs : List Int) (edges : List (List Int)) (k : Nat) (W : World) : Prop :=
  ∃ vc ve O, GraphAt W G (vs.length : Int) vc ve ∧ Kd.R (Kd.int .i64) 3 W (M + 1) (fun q => q < wE.heap.size) vc costs ∧ O.map Row.l = Hyp.partE vs (edges.take k) ∧ W.ownsRow wE.heap.size 22 1 ve O.length (O.map Row.v) ∧ Rows W wE.heap.size O ∧
    PRow W M (Hyp.placeT n vs vs.length) ∧ O.length ≤ k ∧ Below wb.heap.size wb W ∧ wE.heap.size ≤ W.heap.size
set_option maxRecDepth 100000 in
set_option maxHeartbeats 8000000 in
theorem cleanseref27_Part.calls (a0_0 : Int) (A0_1 : Option Addr) (c0_1 : Nat) (l0_1 : List Int) (A0_2 : Option Addr) (c0_2 : Nat) (l0_2 : List (List Int)) (A1 : Option Addr) (c1 : Nat) (l1 : List Int) (r1 : Int) (r2 : List Int) (r3 : List (List Int)) (r4 : Int) (w : World) (hr0_1 : Kd.C (Kd.int .i64) w A0_1 l0_1.length l0_1) (hc0_1 : l0_1.length ≤ c0_1) (hr0_2 : Kd.C (Kd.slice 3 (Kd.int .i64)) w A0_2 l0_2.length l0_2) (hc0_2 : l0_2.length ≤ c0_2) (hr1 : Kd.C (Kd.int .i64) w A1 l1.length l1) (hc1 : l1.length ≤ c1) (h : cleanseref27_Part.f a0_0 l0_1 l0_2 l1 = some (r1, r2, r3, r4)) :
    Calls Tryz.prog 10 #[.agg #[.int .i64 a0_0, .slice A0_1 l0_1.length c0_1, .slice A0_2 l0_2.length c0_2], .slice A1 l1.length c1] w fun e w' => ∃ v1_ v2_ : Value, e = .returned (.tuple #[.agg #[.int .i64 r1, v1_, v2_], .int .i64 r4]) ∧ Kd.R (Kd.int .i64) 3 w' w.heap.size (fun _ => True) v1_ r2 ∧ Kd.S (Kd.slice 3 (Kd.int .i64)) 22 w' w.heap.size (fun k_ => some k_ ≠ (v1_ : Value).ownBlock) v2_ r3 ∧ Below w.heap.size w w' := by
  unfold cleanseref27_Part.f at h
  split at h
  case isFalse => cases h
  rename_i hcc
  have hr := (Option.some.inj h).symm
  obtain ⟨wb, hwb⟩ : ∃ wb, wb = (w.alloc (.cells #[.int .i64 a0_0, .slice A0_1 l0_1.length c0_1, .slice A0_2 l0_2.length c0_2] 25)).alloc (.cells #[.int .i64 0, .slice none 0 0, .slice none 0 0] 25) := ⟨_, rfl⟩
  have hbw : Below w.heap.size w wb := by rw [hwb]; exact below_alloc (below_alloc (Below.refl _ w) _) _
  have hsb : wb.heap.size = w.heap.size + 2 := by rw [hwb]; simp
  have hbox : GraphAt wb w.heap.size a0_0 (.slice A0_1 l0_1.length c0_1) (.slice A0_2 l0_2.length c0_2) := by
    rw [hwb]; unfold GraphAt; rw [Below.heap_alloc _ _ _ (by simp)]; exact World.alloc_heap_new w _
  have hres : GraphAt wb (w.heap.size + 1) 0 (.slice none 0 0) (.slice none 0 0) := by
    rw [hwb]
    have := World.alloc_heap_new (w.alloc (.cells #[.int .i64 a0_0, .slice A0_1 l0_1.length c0_1, .slice A0_2 l0_2.length c0_2] 25)) (.cells #[.int .i64 0, .slice none 0 0, .slice none 0 0] 25)
    rw [World.size_alloc] at this
    exact this
  have HV := Lib.hid (Hy.cleanseref27_Valid.calls 5000001 a0_0 A0_1 c0_1 l0_1 A0_2 c0_2 l0_2 (Hyp.validB a0_0 l0_1 l0_2) wb (Kd.C_below hr0_1 hbw) hc0_1 (Kd.C_below hr0_2 hbw) hc0_2 (Hy.valid_f a0_0 l0_1 l0_2 hcc.2.1 hcc.2.2.1 hcc.2.2.2.1 5000001 (by omega)))
  have HIS := Lib.hid (fun W (hb : Below w.heap.size w W) => Hy.cleanseref27_Vertices.calls 1001 A1 c1 l1 a0_0 _ W (Kd.C_below hr1 hb) hc1 (Hy.vertices_f l1 a0_0 (by have := hcc.2.2.2.2; omega) 1001 (by have := hcc.2.2.2.2; omega)))
  have HRD := Lib.hid hr0_2
  have HRC := Lib.hid hr0_1
  have HRV := Lib.hid hr1
  have HWB := Lib.hid hwb
  have HBW := Lib.hid hbw
  have HCC := Lib.hid hcc
  have HR := Lib.hid hr
  have HBOX := Lib.hid hbox
  have HRES := Lib.hid hres
  clear h hr hr0_1 hr0_2 hr1 hwb hbw hbox hcc hres
  obtain ⟨iR, hiR, hzR0, hzR1, hzR2⟩ := info_parts infoR
  go_enter Tryz.func10, Tryz.ntmps10
  go_wp2_with fail
  rw [← HWB.out]
  refine HV.out.mono ?_
  rintro e w1 ⟨rfl, hb1⟩
  have hsz1 := hb1.size
  have hg1 : GraphAt w1 w.heap.size a0_0 (.slice A0_1 l0_1.length c0_1) (.slice A0_2 l0_2.length c0_2) := (hb1.block _ (by omega)).trans HBOX.out
  have hg2 : GraphAt w1 (w.heap.size + 1) 0 (.slice none 0 0) (.slice none 0 0) := (hb1.block _ (by omega)).trans HRES.out
  have HG1 := Lib.hid hg1
  have HG2 := Lib.hid hg2
  obtain ⟨hb0, hbc1, hbc2, _, _, _⟩ := hg1.cells
  obtain ⟨hs0, hs1, hs2, ht0, ht1, ht2⟩ := hg2.cells
  have HB1 := Lib.hid hb1
  clear hb1 hg1 hg2
  have hbad : ∀ (_ : ¬ (Hyp.validB a0_0 l0_1 l0_2 = true ∧ Hyp.isSetB l1 a0_0 = true)), r1 = 0 ∧ r2 = [] ∧ r3 = [] ∧ r4 = 1 := fun hn => by
    have := HR.out
    unfold Hyp.partF at this
    rw [if_neg hn] at this
    simp only [Prod.mk.injEq] at this
    exact this
  have HBAD := Lib.hid hbad
  clear hbad
  by_cases hvd : Hyp.validB a0_0 l0_1 l0_2 = true
  · rw [hvd]
    go_wp2_with (go_at_call 27; refine hold_here ?_)
    refine hold_out ?_
    refine (HIS.out _ (HBW.out.trans (HB1.out.mono (by omega)))).mono ?_
    rintro e w2 ⟨rfl, q2, rfl⟩
    by_cases his : Hyp.isSetB l1 a0_0 = true
    · rw [his]
      have hset := (Hyp.isSetB_iff l1 a0_0).1 his
      obtain ⟨hn0, _, hcl, _, _, hedges, _⟩ := Hyp.valid_parts hvd
      have hres : r1 = (l1.length : Int) ∧ r2 = Hyp.costsOf l0_1 l1 ∧ r3 = Hyp.partE l1 l0_2 ∧ r4 = 0 := by
        have := HR.out
        unfold Hyp.partF at this
        rw [if_pos ⟨hvd, his⟩] at this
        simp only [Prod.mk.injEq] at this
        exact this
      clear HR HBAD HV HIS hvd his
      obtain ⟨rfl, rfl, rfl, rfl⟩ := hres
      obtain ⟨n, rfl⟩ := Int.eq_ofNat_of_zero_le hn0
      have hn100 : n ≤ 1000 := by have := HCC.out.1; omega
      have HSET := Lib.hid hset
      have HEDG := Lib.hid hedges
      have hvs : l1.length ≤ 1000 := HCC.out.2.2.2.2
      clear hset hedges hn0
      go_wp2_with ((with_reducible refine gate_dst (N := 6) rfl ?_); refine hold_here ?_)
      refine hold_out ?_
      refine box_event rfl (N := 6) rfl (cs := #[.int .i64 0, .slice none 0 0, .slice none 0 0]) (t := 25) (by first | (go_simp; done) | (go_simp; rfl)) ?_
      intro G hG w3 hbox3 hb3
      have hsG : w1.heap.size ≤ G := by rw [hG]; exact Nat.le_refl _
      have hG3 : GraphAt w3 G 0 (.slice none 0 0) (.slice none 0 0) := hbox3
      obtain ⟨hx0, hx1, hx2, hy0, hy1, hy2⟩ := hG3.cells
      have hB3 : Below wb.heap.size wb w3 := HB1.out.trans ((pw_below_drewN (Below.refl _ w1) q2).trans hb3 |>.mono hsz1)
      have HG3 := Lib.hid hG3
      have HB3 := Lib.hid hB3
      clear hbox3 hb3 hG3 hB3 hG
      go_wp2_with ((with_reducible refine gate_dst (N := 28) rfl ?_); refine hold_here ?_)
      refine hold_out ?_
      have hG4 : GraphAt (((w3.setCell ⟨G, 0, none⟩ (.int .i64 (l1.length : Int))).setCell ⟨G, 1, none⟩ (.slice none 0 0)).setCell ⟨G, 2, none⟩ (.slice none 0 0)) G (l1.length : Int) (.slice none 0 0) (.slice none 0 0) :=
        blk_put (cs := #[.int .i64 (l1.length : Int), .slice none 0 0, .slice none 0 0]) (blk_put (cs := #[.int .i64 (l1.length : Int), .slice none 0 0, .slice none 0 0]) (blk_put (cs := #[.int .i64 0, .slice none 0 0, .slice none 0 0]) HG3.out 0 _ rfl) 1 _ rfl) 2 _ rfl
      have hB4 : Below wb.heap.size wb (((w3.setCell ⟨G, 0, none⟩ (.int .i64 (l1.length : Int))).setCell ⟨G, 1, none⟩ (.slice none 0 0)).setCell ⟨G, 2, none⟩ (.slice none 0 0)) :=
        ((HB3.out.setCell (by show wb.heap.size ≤ G; omega) _).setCell (by show wb.heap.size ≤ G; omega) _).setCell (by show wb.heap.size ≤ G; omega) _
      clear hx0 hx1 hx2 hy0 hy1 hy2 HG3 HB3
      generalize ((w3.setCell ⟨G, 0, none⟩ (.int .i64 (l1.length : Int))).setCell ⟨G, 1, none⟩ (.slice none 0 0)).setCell ⟨G, 2, none⟩ (.slice none 0 0) = w4 at *
      obtain ⟨M, hM⟩ : ∃ M, M = w4.heap.size := ⟨_, rfl⟩
      have hGM : G < M := by rw [hM]; exact hG4.lt
      have hb4s := hB4.size
      have hmk := run_make_row' (P := Tryz.prog) 22 3 (.int .i64 0) 8 Tryz.underlying22 infoInt rfl .i64 .i64 n (by omega) (by omega) w4
      rw [made_up, ← hM] at hmk
      have hMb : wb.heap.size ≤ M := by omega
      have SA : Hid (RPartS wb G M n (l1.length : Int) 0 (w4.alloc (.cells (upCells (List.replicate n 0)) 3))) := Lib.hid ⟨(Below.heap_alloc _ _ _ (by omega)).trans hG4, by
        have := World.alloc_heap_new w4 (.cells (upCells (List.replicate n 0)) 3)
        rw [← hM] at this
        unfold PRow
        rw [this]
        simp [iCells, upCells], hB4.alloc (by omega) _, by simp; omega⟩
      have hb04 := (hB4.cell (p := ⟨w.heap.size, 0, none⟩) (by show w.heap.size < wb.heap.size; omega)).trans HBOX.out.cells.1
      clear hG4 hB4 hM hb4s
      go_wp2
      go_loopg [8] n (fun gg s8 wr => ∃ i : Nat, s8 = .int .i64 (i : Int) ∧ i ≤ n ∧ n - i ≤ gg ∧ Hid (RPartS wb G M n (l1.length : Int) i wr))
      case atStart => exact ⟨0, rfl, by omega, by omega, SA⟩
      case round =>
       clear SA hmk hb04
       obtain ⟨i, rfl, hi, hgi, S1⟩ := hrel
       obtain ⟨hgr, hpl, hbel, hsz⟩ := S1.out
       clear S1
       have hb0r := (hbel.cell (p := ⟨w.heap.size, 0, none⟩) (by show w.heap.size < wb.heap.size; omega)).trans HBOX.out.cells.1
       by_cases hlt : i < n
       case pos =>
        have hltz : (i : Int) < (n : Int) := by omega
        obtain ⟨hck, hfk⟩ := hpl.cell i (by simp; omega)
        have S2 : Hid (RPartS wb G M n (l1.length : Int) (i + 1) (wr.setCell ⟨M, i, none⟩ (.int .i64 (-1)))) := Lib.hid ⟨(Below.heap_setCell _ _ _ _ (by show G ≠ M; omega)).trans hgr, by
          have h := hpl.set i (-1)
          obtain ⟨d, hd⟩ : ∃ d, n - i = d + 1 := ⟨n - i - 1, by omega⟩
          rw [show n - (i + 1) = d by omega]
          rw [hd, List.set_append_right _ _ (by simp), List.length_replicate, Nat.sub_self, List.replicate_succ (n := d), List.set_cons_zero] at h
          rw [List.replicate_succ' (n := i), List.append_assoc, List.singleton_append]
          exact h, hbel.setCell (by show wb.heap.size ≤ M; omega) _, by simpa using hsz⟩
        clear hgr hpl hbel
        generalize (List.replicate i (-1 : Int) ++ List.replicate (n - i) 0).getD i 0 = u at hck
        go_wp2
        go_roundg (n - (i + 1))
        case measure => omega
        case rel => exact ⟨i + 1, by go_num, by omega, Nat.le_refl _, S2⟩
       have hltz : ¬ (i : Int) < (n : Int) := by omega
       obtain rfl : n = i := by omega
       have SA : Hid (RPartA wb G M n l0_1 l1 0 wr) := Lib.hid ⟨_, hgr, Kd.R_nil _ _ _ _ _, by rw [Hyp.placeT_zero]; rw [Nat.sub_self, List.replicate_zero, List.append_nil] at hpl; exact hpl, hbel, hsz⟩
       clear hgr hpl hbel hsz hi hgi hlt hltz
       go_wp2
       go_loopg [9] l1.length (fun gg s9 wr => ∃ i : Nat, s9 = .int .i64 (i : Int) ∧ i ≤ l1.length ∧ l1.length - i ≤ gg ∧ Hid (RPartA wb G M n l0_1 l1 i wr))
       case atStart => exact ⟨0, rfl, by omega, by omega, SA⟩
       case round =>
        clear SA hb0r
        obtain ⟨i, rfl, hi, hgi, S1⟩ := hrel
        obtain ⟨vc, hgr, hrc, hpl, hbel, hsz⟩ := S1.out
        clear S1
        by_cases hlt : i < l1.length
        · have hltz : (i : Int) < (l1.length : Int) := by omega
          obtain ⟨bv, ov, rfl, hbv, hcv⟩ := C_int HRV.out (show 0 < l1.length by omega)
          have hBr : Below w.heap.size w wr := HBW.out.trans (hbel.mono (by omega))
          have hci := hcv i hlt
          have hcx := (hBr.cell (p := ⟨bv, ov + i, none⟩) hbv).trans hci
          obtain ⟨hv0, hv1⟩ := HSET.out.1 (l1.getD i 0) (by rw [Hyp.getD_get l1 i hlt]; exact List.getElem_mem hlt)
          have HPUT := Lib.hid (Hyp.placeT_set n HSET.out.2 (fun x hx => by have := HSET.out.1 x hx; exact this) i hlt)
          rw [← Hyp.getD_get l1 i hlt] at HPUT
          have HCT := Lib.hid (Hyp.costsOf_take l0_1 l1 i hlt)
          clear hcv
          obtain ⟨x, hx⟩ : ∃ x, x = l1.getD i 0 := ⟨_, rfl⟩
          rw [← hx] at hcx hci hv0 hv1 HPUT HCT
          clear hx
          obtain ⟨u, rfl⟩ := Int.eq_ofNat_of_zero_le hv0
          rw [Int.toNat_natCast] at HPUT HCT
          obtain ⟨bc, oc, rfl, hbc, hcc⟩ := C_int HRC.out (show 0 < l0_1.length by omega)
          have hck := hcc u (by omega)
          clear hcc hv0
          obtain ⟨cu, hcu⟩ : ∃ c, c = l0_1.getD u 0 := ⟨_, rfl⟩
          rw [← hcu] at hck HCT
          clear hcu
          have HSX := Lib.hid (fun (W : World) (h : Below wb.heap.size wb W) => (⟨(h.cell (p := ⟨w.heap.size, 1, none⟩) (by show w.heap.size < wb.heap.size; omega)).trans HBOX.out.cells.2.1, ((HBW.out.trans (h.mono (by omega))).cell (p := ⟨bv, ov + i, none⟩) hbv).trans hci, ((HBW.out.trans (h.mono (by omega))).cell (p := ⟨bc, oc + u, none⟩) hbc).trans hck⟩ :
            W.cell? ⟨w.heap.size, 1, none⟩ = some (.slice (some ⟨bc, oc, none⟩) l0_1.length c0_1) ∧ W.cell? ⟨bv, ov + i, none⟩ = some (.int .i64 (u : Int)) ∧ W.cell? ⟨bc, oc + u, none⟩ = some (.int .i64 cu)))
          obtain ⟨hpk, hpf⟩ := hpl.cell u (by rw [Hyp.placeT_len]; omega)
          generalize (Hyp.placeT n l1 i).getD u 0 = pu at hpk
          have hgr5 : GraphAt (wr.setCell ⟨M, u, none⟩ (.int .i64 (i : Int))) G (l1.length : Int) vc (.slice none 0 0) := (Below.heap_setCell _ _ _ _ (by show G ≠ M; omega)).trans hgr
          have hrc5 : Kd.R (Kd.int .i64) 3 (wr.setCell ⟨M, u, none⟩ (.int .i64 (i : Int))) (M + 1) (fun _ => True) vc (Hyp.costsOf l0_1 (l1.take i)) :=
            Kd.R_mono (Kd.R_far (p := ⟨M, u, none⟩) (Kd.R_mono (ok' := fun k => k ≠ M) (Kd.R_bound hrc) (fun k hk => by have := hk.2.1; omega)) (fun _ h => h) _) (fun _ _ => trivial)
          have hpl5 := hpl.set u (i : Int)
          rw [HPUT.out] at hpl5
          have hB5 : Below wb.heap.size wb (wr.setCell ⟨M, u, none⟩ (.int .i64 (i : Int))) := hbel.setCell (by show wb.heap.size ≤ M; omega) _
          have hsz5 : (wr.setCell ⟨M, u, none⟩ (.int .i64 (i : Int))).heap.size = wr.heap.size := by simp
          obtain ⟨Ac, cc, rfl⟩ := Kd.R_slice hrc5
          have HGR5 := Lib.hid hgr5
          have HRC5 := Lib.hid hrc5
          have HB5 := Lib.hid hB5
          have HPL5 := Lib.hid hpl5
          have HSZ5 := Lib.hid hsz5
          have hcl2 : (Hyp.costsOf l0_1 (l1.take i)).length ≤ 1048576 := by unfold Hyp.costsOf; rw [List.length_map, List.length_take]; omega
          have HNR : Hid (some G ≠ (Value.slice Ac (Hyp.costsOf l0_1 (l1.take i)).length cc).ownBlock) := Lib.hid (hgr5.not_row (own_of_R' HRC5.out) (by decide))
          clear hgr5 hrc5 hB5 hpl5 hsz5 hgr hrc hpl hbel hBr HPUT hck hci
          generalize Hyp.costsOf l0_1 (l1.take i) = cs at *
          have hmx : Tryz.prog.follows .mixedOrders = true := by kernel_rfl
          go_wp2
          obtain ⟨w5, hw5⟩ : ∃ w5, w5 = wr.setCell ⟨M, u, none⟩ (.int .i64 (i : Int)) := ⟨_, rfl⟩
          rw [← hw5] at HGR5 HRC5 HB5 HPL5 HSZ5 ⊢
          clear hw5 hpk hpf hcx
          have hs5 : M + 1 ≤ w5.heap.size := by have := HSZ5.out; omega
          have hG5 : G < w5.heap.size := by omega
          have hwb5 := HB5.out.size
          obtain ⟨_, hgc1, _, _, hgf1, _⟩ := HGR5.out.cells
          have hgc1a := ((below_alloc (Below.refl _ w5) (.cells #[.int .i64 cu] 3)).cell (p := ⟨G, 1, none⟩) (by show G < w5.heap.size; omega)).trans hgc1
          refine start_ (n := 14) (S := fun W => W.cell? ⟨G, 1, none⟩ = some (.slice Ac cs.length cc) ∧ W.cell? ⟨w.heap.size, 1, none⟩ = some (.slice (some ⟨bc, oc, none⟩) l0_1.length c0_1) ∧ W.cell? ⟨bv, ov + i, none⟩ = some (.int .i64 (u : Int)) ∧ W.cell? ⟨bc, oc + u, none⟩ = some (.int .i64 cu)) (ds := [13]) (upto 0 14) (by kernel_rfl) rfl rfl ⟨hgc1, HSX.out _ HB5.out.drew⟩ (fun hHeld => ?_)
          refine pure_ (i := 0) (N := some 52) (v := ?_) (a' := ?_) (upto 1 13) rfl rfl (by kernel_rfl) (fun _ _ _ h => h) (Or.inl ⟨by rfl, ?_⟩) ?_ ?_
          rotate_left
          · intro w'
            go_simp
            with_reducible rfl
          rotate_left
          · simp only [Act.put, List.setIfInBounds_toArray, List.set_cons_zero, List.set_cons_succ]
            rfl
          refine take_ (i := 1) (N := some 53) (v := ?_) (a' := ?_) (upto 2 12) rfl rfl (by kernel_rfl) (fun _ _ _ h => h) (Or.inl ⟨by rfl, ?_⟩) hHeld ?_ ?_
          rotate_left
          · rintro w' ⟨s0, s1, s2, s3⟩
            go_simp
            with_reducible rfl
          rotate_left
          · simp only [Act.put, List.setIfInBounds_toArray, List.set_cons_zero, List.set_cons_succ]
            rfl
          refine pure_ (i := 2) (N := some 54) (v := ?_) (a' := ?_) (upto 3 11) rfl rfl (by kernel_rfl) (fun _ _ _ h => h) (Or.inl ⟨by rfl, ?_⟩) ?_ ?_
          rotate_left
          · intro w'
            go_simp
            with_reducible rfl
          rotate_left
          · simp only [Act.put, List.setIfInBounds_toArray, List.set_cons_zero, List.set_cons_succ]
            rfl
          refine take_ (i := 3) (N := some 55) (v := ?_) (a' := ?_) (upto 4 10) rfl rfl (by kernel_rfl) (fun _ _ _ h => h) (Or.inl ⟨by rfl, ?_⟩) hHeld ?_ ?_
          rotate_left
          · rintro w' ⟨s0, s1, s2, s3⟩
            go_simp
            with_reducible rfl
          rotate_left
          · simp only [Act.put, List.setIfInBounds_toArray, List.set_cons_zero, List.set_cons_succ]
            rfl
          refine pure_ (i := 4) (N := some 56) (v := ?_) (a' := ?_) (upto 5 9) rfl rfl (by kernel_rfl) (fun _ _ _ h => h) (Or.inl ⟨by rfl, ?_⟩) ?_ ?_
          rotate_left
          · intro w'
            go_simp
            with_reducible rfl
          rotate_left
          · simp only [Act.put, List.setIfInBounds_toArray, List.set_cons_zero, List.set_cons_succ]
            rfl
          refine pure_ (i := 5) (N := some 57) (v := ?_) (a' := ?_) (upto 6 8) rfl rfl (by kernel_rfl) (fun _ _ _ h => h) (Or.inl ⟨by rfl, ?_⟩) ?_ ?_
          rotate_left
          · intro w'
            go_simp
            with_reducible rfl
          rotate_left
          · simp only [Act.put, List.setIfInBounds_toArray, List.set_cons_zero, List.set_cons_succ]
            rfl
          refine pure_ (i := 6) (N := some 58) (v := ?_) (a' := ?_) (upto 7 7) rfl rfl (by kernel_rfl) (fun _ _ _ h => h) (Or.inl ⟨by rfl, ?_⟩) ?_ ?_
          rotate_left
          · intro w'
            go_simp
            with_reducible rfl
          rotate_left
          · simp only [Act.put, List.setIfInBounds_toArray, List.set_cons_zero, List.set_cons_succ]
            rfl
          refine take_ (i := 7) (N := some 59) (v := ?_) (a' := ?_) (upto 8 6) rfl rfl (by kernel_rfl) (fun _ _ _ h => h) (Or.inl ⟨by rfl, ?_⟩) hHeld ?_ ?_
          rotate_left
          · rintro w' ⟨s0, s1, s2, s3⟩
            go_simp
            with_reducible rfl
          rotate_left
          · simp only [Act.put, List.setIfInBounds_toArray, List.set_cons_zero, List.set_cons_succ]
            rfl
          refine pure_ (i := 8) (N := some 60) (v := ?_) (a' := ?_) (upto 9 5) rfl rfl (by kernel_rfl) (fun _ _ _ h => h) (Or.inl ⟨by rfl, ?_⟩) ?_ ?_
          rotate_left
          · intro w'
            go_simp
            with_reducible rfl
          rotate_left
          · simp only [Act.put, List.setIfInBounds_toArray, List.set_cons_zero, List.set_cons_succ]
            rfl
          refine take_ (i := 9) (N := some 61) (v := ?_) (a' := ?_) (upto 10 4) rfl rfl (by kernel_rfl) (fun _ _ _ h => h) (Or.inl ⟨by rfl, ?_⟩) hHeld ?_ ?_
          rotate_left
          · rintro w' ⟨s0, s1, s2, s3⟩
            go_simp
            with_reducible rfl
          rotate_left
          · simp only [Act.put, List.setIfInBounds_toArray, List.set_cons_zero, List.set_cons_succ]
            rfl
          refine one_ (i := 10) (N := some 62) (upto 11 3) rfl rfl (by kernel_rfl) (by decide) (fun K hK => ?_)
          refine value_ (w1 := ?_) (v := ?_) (by rfl) rfl ?_ ?_
          rotate_left 2
          · go_simp
            constructor
            · rfl
            rfl
          refine hK.out _ _ ⟨hgc1a, HSX.out _ (HB5.out.alloc hwb5 _).drew⟩ (fun hHeld => ?_)
          clear hK K
          refine norm_ (a' := ?_) ?_ ?_
          rotate_left
          · show Act.put _ (some 62) _ = _
            simp only [Act.put, List.setIfInBounds_toArray, List.set_cons_zero, List.set_cons_succ]
            rfl
          refine one_ (i := 11) (N := some 63) (upto 12 2) rfl rfl (by kernel_rfl) (by decide) (fun K hK => ?_)
          refine Kd.R_append_step (Kd.int .i64) (W := w5.drew) (w0 := w5.drew) (M + 1) (by rfl) (.tmp 53) (.tmp 62) 22 3 (.int .i64 0) 8 rfl Tryz.underlying22 infoInt rfl (by decide) (by decide) (.slice Ac cs.length cc) cs cu [.int .i64 cu] (fun _ => True) (fun _ => False) rfl rfl rfl (fun _ h => h.elim) (fun _ _ => trivial) (Kd.R_drew HRC5.out) (Below.refl _ _) (by show M + 1 ≤ w5.heap.size; omega) (by omega) ?_
          intro v2 w2 hr2 _ hg2 _
          have hgr2 : GraphAt w2 G (l1.length : Int) (.slice Ac cs.length cc) (.slice none 0 0) := (hg2.block G (by show G < w5.heap.size; omega) (HNR.out)).trans HGR5.out
          obtain ⟨_, hgc2, _, _, hgf2, _⟩ := hgr2.cells
          have hvb : ∀ q, (Value.slice Ac cs.length cc).ownBlock = some q → M + 1 ≤ q := fun q hq => own_base (R_int HRC5.out) q hq
          have HB2 := Lib.hid (HB5.out.drew.grown hg2 (by show wb.heap.size ≤ w5.heap.size; omega) (fun q e => by have := hvb q e; omega))
          obtain ⟨A2, c2, rfl⟩ := Kd.R_slice hr2
          have HGR2 := Lib.hid hgr2
          have HR2 := Lib.hid hr2
          have HG2' := Lib.hid hg2
          clear hgr2 hr2 hg2
          refine hK.out _ _ ⟨hgc2, HSX.out _ HB2.out⟩ (fun hHeld => ?_)
          clear hK K
          refine norm_ (a' := ?_) ?_ ?_
          rotate_left
          · show Act.put _ (some 63) _ = _
            simp only [Act.put, List.setIfInBounds_toArray, List.set_cons_zero, List.set_cons_succ]
            rfl
          refine pure_ (i := 12) (N := some 64) (v := ?_) (a' := ?_) (upto 13 1) rfl rfl (by kernel_rfl) (fun _ _ _ h => h) (Or.inl ⟨by rfl, ?_⟩) ?_ ?_
          rotate_left
          · intro w'
            go_simp
            with_reducible rfl
          rotate_left
          · simp only [Act.put, List.setIfInBounds_toArray, List.set_cons_zero, List.set_cons_succ]
            rfl
          refine last_ (i := 13) (N := none) (upto 14 0) rfl rfl (by kernel_rfl) (by decide) (fun K hK => ?_)
          refine skip_ (w1 := ?_) (by rfl) rfl ?_ ?_
          rotate_left
          · go_simp
            rfl
          refine hK.out _ _ ?_
          clear hK K
          refine done_ (by kernel_rfl) ?_
          have S2 : Hid (RPartA wb G M n l0_1 l1 (i + 1) (w2.setCell ⟨G, 1, none⟩ (.slice A2 (cs.length + 1) c2))) := Lib.hid (by
            have hr2 := HR2.out
            rw [List.length_append, List.length_singleton] at hr2
            have h5s : w5.heap.size ≤ w2.heap.size := HG2'.out.size
            refine ⟨_, HGR2.out.put1 _, ?_, ?_, HB2.out.setCell (by show wb.heap.size ≤ G; omega) _, by simp; omega⟩
            · rw [HCT.out]
              exact Kd.R_mono (Kd.R_far (p := ⟨G, 1, none⟩) (Kd.R_mono (ok' := fun k => k ≠ G) (Kd.R_bound hr2) (fun k hk => by have := hk.2.1; omega)) (fun _ h => h) _) (fun _ _ => trivial)
            · exact (Below.heap_setCell _ _ _ _ (by show M ≠ G; omega)).trans ((HG2'.out.block M (by show M < w5.heap.size; omega) (fun e => by have := hvb M e.symm; omega)).trans HPL5.out))
          clear HGR2 HR2 HG2' HRC5 HB5 HPL5 HGR5 HNR HB2 HSX
          go_wp2
          go_roundg (l1.length - (i + 1))
          case measure => omega
          case rel => exact ⟨i + 1, by go_num, by omega, Nat.le_refl _, S2⟩
        · have hltz : ¬ (i : Int) < (l1.length : Int) := by omega
          obtain rfl : i = l1.length := by omega
          rw [List.take_length] at hrc
          have HRCX := Lib.hid (Kd.R_mono (ok' := fun q => q < wr.heap.size) (Kd.R_bound hrc) (fun q hq => hq.2.2.1))
          have SB : Hid (RPartB wb wr G M n (Hyp.costsOf l0_1 l1) l1 l0_2 0 wr) := Lib.hid ⟨vc, _, [], hgr, HRCX.out, rfl, own_nil _ _ _ _, Rows.nil _ _, hpl, Nat.le_refl _, hbel, Nat.le_refl _⟩
          have hbE2 := (hbel.cell (p := ⟨w.heap.size, 2, none⟩) (by show w.heap.size < wb.heap.size; omega)).trans HBOX.out.cells.2.2.1
          have hwbE : wb.heap.size ≤ wr.heap.size := hbel.size
          have hGE := hgr.lt
          clear hgr hrc hpl hbel HRCX
          obtain ⟨wE, hwE⟩ : ∃ wE : World, wE = wr := ⟨_, rfl⟩
          rw [← hwE] at SB hbE2 hwbE hGE hsz ⊢
          clear hwE
          go_wp2
          go_loopg [10] l0_2.length (fun gg s10 wr => ∃ k : Nat, s10 = .int .i64 (k : Int) ∧ k ≤ l0_2.length ∧ l0_2.length - k ≤ gg ∧ Hid (RPartB wb wE G M n (Hyp.costsOf l0_1 l1) l1 l0_2 k wr))
          case atStart => exact ⟨0, rfl, by omega, by omega, SB⟩
          case round =>
            clear SB hbE2
            obtain ⟨k, rfl, hk, hgk, S3⟩ := hrel
            obtain ⟨vc, ve, O, hgr, hrc, hol, hown, hrows, hpl, hOk, hbel, hszk⟩ := S3.out
            have hb2k := (hbel.cell (p := ⟨w.heap.size, 2, none⟩) (by show w.heap.size < wb.heap.size; omega)).trans HBOX.out.cells.2.2.1
            clear S3
            have HGRk := Lib.hid hgr
            have HRCk := Lib.hid hrc
            have HOL := Lib.hid hol
            have HOW := Lib.hid hown
            have HRWk := Lib.hid hrows
            have HPLk := Lib.hid hpl
            have HBEk := Lib.hid hbel
            clear hgr hrc hol hown hrows hpl hbel
            by_cases hltk : k < l0_2.length
            · have hltkz : (k : Int) < (l0_2.length : Int) := by omega
              obtain ⟨b, off, rfl, hbb, hcs⟩ := C_rows HRD.out (show 0 < l0_2.length by omega)
              obtain ⟨Ax, cx, hcell, hlx, hCx⟩ := hcs k hltk
              have hBwr : Below w.heap.size w wr := HBW.out.trans (HBEk.out.mono (by omega))
              have hcw := (hBwr.cell (p := ⟨b, off + k, none⟩) hbb).trans hcell
              have hmem : l0_2.getD k [] ∈ l0_2 := by rw [List.getD_eq_getElem?_getD, List.getElem?_eq_getElem hltk]; exact List.getElem_mem hltk
              obtain ⟨hxne, hxin, _⟩ := HEDG.out _ hmem
              have hxl := HCC.out.2.2.2.1 _ hmem
              have HPT := Lib.hid (Hyp.partE_take l1 l0_2 k hltk)
              obtain ⟨x, hx⟩ : ∃ x, x = l0_2.getD k [] := ⟨_, rfl⟩
              rw [← hx] at hcw hlx hCx hxne hxin hxl HPT
              have hcell0 := hcell
              rw [← hx] at hcell0
              clear hcs hcell hmem hx
              have hx0 : 0 < x.length := List.length_pos_iff.2 hxne
              obtain ⟨bx, ox, rfl, hbbx, hcx⟩ := C_int hCx hx0
              have HCX := Lib.hid hcx
              have HXIN : Hid (∀ j, j < x.length → 0 ≤ x.getD j 0 ∧ x.getD j 0 < (n : Int)) := Lib.hid (fun j hj => by rw [Hyp.getD_get x j hj]; exact hxin _ (List.getElem_mem hj))
              clear hCx hcx hxin hxne
              have HCELL := Lib.hid hcell0
              have HBwr := Lib.hid hBwr
              clear hBwr hcell0
              obtain ⟨wo, hwo⟩ : ∃ wo : World, wo = wr := ⟨_, rfl⟩
              rw [← hwo] at HGRk HRCk HOW HRWk HPLk HBEk hszk hcw hb2k HBwr ⊢
              clear hwo
              go_wp2
              go_loopg [11, 12] x.length (fun gg s11 s12 wr => ∃ j : Nat, s12 = .int .i64 (j : Int) ∧ j ≤ x.length ∧ x.length - j ≤ gg ∧ Hid (Below wo.heap.size wo wr) ∧ Hid (Kd.R (Kd.int .i64) 3 wr wo.heap.size (fun _ => True) s11 (Hyp.edgeTo l1 (x.take j))))
              case atStart => exact ⟨0, rfl, by omega, by omega, Lib.hid (Below.refl _ _), Lib.hid (Kd.R_nil _ _ _ _ _)⟩
              case round =>
                clear hcw hb2k
                obtain ⟨j, rfl, hj, hgj, HBF, HRF⟩ := hrel
                have hbwo := HBwr.out.size
                have hbwb := HBEk.out.size
                have hb2w := (HBEk.out.cell (p := ⟨w.heap.size, 2, none⟩) (by show w.heap.size < wb.heap.size; omega)).trans HBOX.out.cells.2.2.1
                have hb2w := (HBF.out.cell (p := ⟨w.heap.size, 2, none⟩) (by show w.heap.size < wo.heap.size; omega)).trans hb2w
                have hcw := ((HBwr.out.trans (HBF.out.mono (by omega))).cell (p := ⟨b, off + k, none⟩) hbb).trans HCELL.out
                have hel := Hyp.edgeTo_len l1 (x.take j)
                rw [List.length_take, Nat.min_eq_left hj] at hel
                by_cases hltj : j < x.length
                · have hltjz : (j : Int) < (x.length : Int) := by omega
                  have hcj := ((HBwr.out.trans (HBF.out.mono (by omega))).cell (p := ⟨bx, ox + j, none⟩) hbbx).trans (HCX.out j hltj)
                  obtain ⟨hj0, hj1⟩ := HXIN.out j hltj
                  have HET := Lib.hid (Hyp.edgeTo_take l1 x j hltj)
                  generalize x.getD j 0 = y at *
                  obtain ⟨y, rfl⟩ := Int.eq_ofNat_of_zero_le hj0
                  have hlook := (PRow.cell (W := wr) (M := M) (l := Hyp.placeT n l1 l1.length) ((HBF.out.block M (by omega)).trans HPLk.out) y (by rw [Hyp.placeT_len]; omega)).1
                  rw [Hyp.placeT_all n l1 (by omega)] at hlook
                  obtain ⟨Af, cf, rfl⟩ := Kd.R_slice HRF.out
                  by_cases hym : (y : Int) ∈ l1
                  · rw [if_pos hym] at hlook
                    have HYM := Lib.hid hym
                    rw [if_pos hym] at HET
                    clear hym
                    obtain ⟨f0, hf0⟩ : ∃ f, f = Hyp.edgeTo l1 (x.take j) := ⟨_, rfl⟩
                    rw [← hf0] at HRF HET hel ⊢
                    clear hf0
                    have hiy : 0 ≤ Hyp.idx l1 (y : Int) := by unfold Hyp.idx; omega
                    generalize Hyp.idx l1 (y : Int) = iy at *
                    go_wp2_with (at_builtin; refine hold_here ?_)
                    refine hold_out ?_
                    refine Kd.R_append (Kd.int .i64) (W := wr) (w0 := wr) wo.heap.size rfl _ _ 22 3 (.int .i64 0) 8 rfl Tryz.underlying22 infoInt rfl (by decide) (by decide) (.slice Af f0.length cf) f0 iy [.int .i64 iy] (fun _ => True) (fun _ => False) rfl rfl rfl (fun _ h => h.elim) (fun _ _ => trivial) HRF.out (Below.refl _ _) HBF.out.size (by omega) ?_
                    intro v2 w2 hr2 hb2 hg2 hat2
                    have HB2 := Lib.hid (HBF.out.grown hg2 HBF.out.size (fun q e => own_base (R_int HRF.out) q e))
                    have HR2 := Lib.hid hr2
                    clear hr2 hb2 hg2 hat2
                    rw [← HET.out] at HR2
                    obtain ⟨A2, c2, rfl⟩ := Kd.R_slice HR2.out
                    go_wp2
                    go_roundg (x.length - (j + 1))
                    case measure => omega
                    case rel => exact ⟨j + 1, by go_num, by omega, Nat.le_refl _, HB2, HR2⟩
                  · rw [if_neg hym] at hlook
                    rw [if_neg hym, List.append_nil] at HET
                    rw [← HET.out] at HRF
                    clear hym
                    obtain ⟨f0, hf0⟩ : ∃ f, f = Hyp.edgeTo l1 (x.take j) := ⟨_, rfl⟩
                    rw [← hf0] at HET hel ⊢
                    go_wp2
                    go_roundg (x.length - (j + 1))
                    case measure => omega
                    case rel => exact ⟨j + 1, by go_num, by omega, Nat.le_refl _, HBF, by rw [HET.out] at HRF ⊢; exact HRF⟩
                · have hltjz : ¬ (j : Int) < (x.length : Int) := by omega
                  obtain rfl : j = x.length := by omega
                  rw [List.take_length] at HRF
                  clear hel hltj hltjz hgj hj
                  have hel := Hyp.edgeTo_len l1 x
                  have hos := HBF.out.size
                  have HGRr : Hid (GraphAt wr G (l1.length : Int) vc ve) := Lib.hid ((HBF.out.block G (by omega)).trans HGRk.out)
                  have HOWr := Lib.hid (own_move HOW.out (fun q hq => HBF.out.block q (own_lt HOW.out q hq)))
                  have HBEr := Lib.hid (HBEk.out.trans (HBF.out.mono (by omega)))
                  have HPLr : Hid (PRow wr M (Hyp.placeT n l1 l1.length)) := Lib.hid ((HBF.out.block M (by omega)).trans HPLk.out)
                  have HRCr := Lib.hid (Kd.R_below HRCk.out HBF.out)
                  obtain ⟨_, _, hge2, _, _, hgf2⟩ := HGRr.out.cells
                  obtain ⟨Af, cf, rfl⟩ := Kd.R_slice HRF.out
                  obtain ⟨Ae, ce, rfl⟩ := own_slice HOWr.out
                  by_cases hfull : (Hyp.edgeTo l1 x).length = x.length
                  · obtain ⟨hall, hidx⟩ := Hyp.edgeTo_full hfull
                    rw [if_pos hall, ← hidx] at HPT
                    have HRWs := Lib.hid (HRWk.out.snoc (x := ⟨.slice Af (Hyp.edgeTo l1 x).length cf, Hyp.edgeTo l1 x⟩) HBF.out hszk (R_int HRF.out) (by show 0 < (Hyp.edgeTo l1 x).length; omega))
                    obtain ⟨f0, hf0⟩ : ∃ f, f = Hyp.edgeTo l1 x := ⟨_, rfl⟩
                    rw [← hf0] at HRF HPT hel hfull HRWs ⊢
                    have hfullz : ((f0.length : Nat) : Int) = (x.length : Int) := by omega
                    rw [hfull]
                    rw [hfull] at HRF HRWs
                    clear hall hidx hf0 hfull
                    go_wp2_with (at_builtin; refine hold_here ?_)
                    refine hold_out ?_
                    refine wpList_append_own _ rfl _ _ 23 rfl wE.heap.size 22 iR (.slice none 0 0) 1 24 Tryz.underlying23 hiR hzR0 hzR1 hzR2 rfl (by decide) (.slice Ae O.length ce) O.length (O.map Row.v) rfl (HOWr.out.alloc _) ⟨wr.heap.size, 0, none⟩ 1 1 [.slice Af x.length cf] rfl rfl (cell_one_new _ _ _) (by simp [Value.oneCell']) (by unfold maxLen; omega) (by omega) (by simp; omega) ?_
                    intro v5 w5 ho5 hg5 _
                    have hvb : ∀ q, (Value.slice Ae O.length ce).ownBlock = some q → wE.heap.size ≤ q := fun q hq => own_base HOWr.out q hq
                    have old5 : ∀ q, q < wr.heap.size → (∀ p, (Value.slice Ae O.length ce).ownBlock = some p → q ≠ p) → w5.heap[q]? = wr.heap[q]? := fun q hq hne =>
                      (hg5.block q (by simp; omega) (fun e => hne q e.symm rfl)).trans (Below.heap_alloc _ _ _ hq)
                    have hgr5 : GraphAt w5 G (l1.length : Int) vc (.slice Ae O.length ce) := (old5 G (by omega) (fun p hp => by have := hvb p hp; omega)).trans HGRr.out
                    obtain ⟨_, _, hge5, _, _, hgf5⟩ := hgr5.cells
                    obtain ⟨A5, c5, rfl⟩ := own_slice ho5
                    have S4 : Hid (RPartB wb wE G M n (Hyp.costsOf l0_1 l1) l1 l0_2 (k + 1) (w5.setCell ⟨G, 2, none⟩ (.slice A5 (O.length + 1) c5))) := Lib.hid (by
                      refine ⟨vc, _, O ++ [⟨.slice Af x.length cf, f0⟩], hgr5.put2 _, ?_, ?_, ?_, ?_, ?_, by simp; omega, ?_, ?_⟩
                      · have h1 := Kd.R_bound HRCr.out
                        have h2 := Kd.R_step h1 (w1 := w5) (fun q hq hlt => old5 q hlt (fun p hp => by have := hvb p hp; have := hq.1; omega))
                        have h3 := Kd.R_step h2 (w1 := w5.setCell ⟨G, 2, none⟩ (.slice A5 (O.length + 1) c5)) (fun q hq hlt => Below.heap_setCell _ _ _ _ (by show q ≠ G; have := hq.2.1; omega))
                        exact Kd.R_mono h3 (fun q hq => hq.1)
                      · rw [List.map_append, HOL.out, HPT.out]; rfl
                      · refine own_move (own_row_list (x := ⟨.slice Af x.length cf, f0⟩) ho5) (fun q hq => Below.heap_setCell _ _ _ _ (fun e => ?_))
                        have := own_base ho5 q hq
                        have e' : q = G := e
                        omega
                      · refine (Rows.push HRWs.out HOWr.out hg5).step (fun q cells hb _ _ => Below.heap_setCell _ _ _ _ (by show q ≠ G; omega))
                      · exact (Below.heap_setCell _ _ _ _ (by show M ≠ G; omega)).trans ((old5 M (by omega) (fun p hp => by have := hvb p hp; omega)).trans HPLr.out)
                      · exact ((HBEr.out.alloc (by omega) _).grown hg5 (by simp; omega) (fun q e => by have := hvb q e; omega)).setCell (by show wb.heap.size ≤ G; omega) _
                      · have := hg5.size; simp at this ⊢; omega)
                    clear ho5 hg5 old5 hgr5 HRWs HOWr HBEr HPLr HRCr HGRr hvb
                    go_wp2
                    go_roundg (l0_2.length - (k + 1))
                    case measure => omega
                    case rel => exact ⟨k + 1, by go_num, by omega, Nat.le_refl _, S4⟩
                  · have hpart := Hyp.edgeTo_part hfull
                    rw [if_neg (by rw [hpart]; simp), List.append_nil] at HPT
                    have S4 : Hid (RPartB wb wE G M n (Hyp.costsOf l0_1 l1) l1 l0_2 (k + 1) wr) := Lib.hid
                      ⟨vc, _, O, HGRr.out, HRCr.out, by rw [HOL.out, HPT.out], HOWr.out, HRWk.out.below HBF.out, HPLr.out, by omega, HBEr.out, by omega⟩
                    obtain ⟨f0, hf0⟩ : ∃ f, f = Hyp.edgeTo l1 x := ⟨_, rfl⟩
                    rw [← hf0] at hel hfull ⊢
                    have hfullz : ¬ ((f0.length : Nat) : Int) = (x.length : Int) := by omega
                    clear hpart hf0 hge2 hgf2
                    go_wp2
                    go_roundg (l0_2.length - (k + 1))
                    case measure => omega
                    case rel => exact ⟨k + 1, by go_num, by omega, Nat.le_refl _, S4⟩
            · have hltkz : ¬ (k : Int) < (l0_2.length : Int) := by omega
              obtain rfl : k = l0_2.length := by omega
              rw [List.take_length] at HOL
              obtain ⟨hga0, hga1, hga2, _, _, _⟩ := HGRk.out.cells
              have HRSr : Hid (GraphAt wr (w.heap.size + 1) 0 (.slice none 0 0) (.slice none 0 0)) := Lib.hid ((HBEk.out.block _ (by omega)).trans HRES.out)
              obtain ⟨hra0, hra1, hra2, hrf0, hrf1, hrf2⟩ := HRSr.out.cells
              obtain ⟨Ac, cc, rfl⟩ := Kd.R_slice HRCk.out
              obtain ⟨Ae, ce, rfl⟩ := own_slice HOW.out
              have hvc : ∀ q, (Value.slice Ac (Hyp.costsOf l0_1 l1).length cc).ownBlock = some q → q < wE.heap.size := fun q hq => HRCk.out.1 q hq
              have HVC := Lib.hid hvc
              have HRC2 := Lib.hid (Kd.R_bound HRCk.out)
              have HS := Lib.hid (Kd.S_bound (Rows.toS HRWk.out HOW.out))
              rw [HOL.out] at HS
              clear hvc HRCk HRWk HOW
              go_wp2
              refine bodyPost_ret (results_ct rfl _ _ (w.heap.size + 1) 25 #[.int .i64 (l1.length : Int), .slice Ac (Hyp.costsOf l0_1 l1).length cc, .slice Ae O.length ce] (0, 0) _ rfl ?_ Tryz.underlying25 rfl (by kernel_rfl)) rfl ?_
              · refine blk_put (cs := #[.int .i64 (l1.length : Int), .slice Ac (Hyp.costsOf l0_1 l1).length cc, .slice none 0 0]) ?_ 2 _ rfl
                refine blk_put (cs := #[.int .i64 (l1.length : Int), .slice none 0 0, .slice none 0 0]) ?_ 1 _ rfl
                refine blk_put (cs := #[.int .i64 0, .slice none 0 0, .slice none 0 0]) ?_ 0 _ rfl
                exact HRSr.out
              · refine ⟨_, _, rfl, ?_, ?_, ?_⟩
                · refine Kd.R_mono (Kd.R_lower (Kd.R_far (p := ⟨w.heap.size + 1, 2, none⟩) (Kd.R_far (p := ⟨w.heap.size + 1, 1, none⟩) (Kd.R_far (p := ⟨w.heap.size + 1, 0, none⟩) HRC2.out (fun q hq => ?_) _) (fun q hq => ?_) _) (fun q hq => ?_) _) (by omega)) (fun _ _ => trivial)
                  all_goals (show q ≠ w.heap.size + 1; have := hq.2.1; omega)
                · refine Kd.S_mono (Kd.S_lower (Kd.S_far (p := ⟨w.heap.size + 1, 2, none⟩) (Kd.S_far (p := ⟨w.heap.size + 1, 1, none⟩) (Kd.S_far (p := ⟨w.heap.size + 1, 0, none⟩) HS.out (fun q hq => ?_) _) (fun q hq => ?_) _) (fun q hq => ?_) _) (by omega)) (fun q hq e => ?_)
                  all_goals first | (show q ≠ w.heap.size + 1; have := hq.2.1; omega) | (have := HVC.out q e.symm; have := hq.2.1; omega)
                · have hb := HBW.out.trans (HBEk.out.mono (show w.heap.size ≤ wb.heap.size by omega))
                  exact below_set (below_set (below_set hb (by omega)) (by omega)) (by omega)
    · have hif : Hyp.isSetB l1 a0_0 = false := by simpa using his
      rw [hif]
      obtain ⟨rfl, rfl, rfl, rfl⟩ := HBAD.out (fun h => his h.2)
      go_wp2
      refine bodyPost_ret (results_ct rfl _ _ (w.heap.size + 1) 25 #[.int .i64 0, .slice none 0 0, .slice none 0 0] (0, 0) _ rfl ?_ Tryz.underlying25 rfl (by kernel_rfl)) rfl ?_
      · refine blk_put (cs := #[.int .i64 0, .slice none 0 0, .slice none 0 0]) ?_ 2 _ rfl
        refine blk_put (cs := #[.int .i64 0, .slice none 0 0, .slice none 0 0]) ?_ 1 _ rfl
        refine blk_put (cs := #[.int .i64 0, .slice none 0 0, .slice none 0 0]) ?_ 0 _ rfl
        exact HG2.out
      · exact ⟨_, _, rfl, Kd.R_nil _ _ _ _ _, Kd.S_nil _ _ _ _ _, by repeat first | exact HBW.out.trans (HB1.out.mono (by omega)) | apply pw_below_drewN | refine below_set ?_ (by omega)⟩
  · have hvf : Hyp.validB a0_0 l0_1 l0_2 = false := by simpa using hvd
    rw [hvf]
    obtain ⟨rfl, rfl, rfl, rfl⟩ := HBAD.out (fun h => hvd h.1)
    go_wp2
    refine bodyPost_ret (results_ct rfl _ _ (w.heap.size + 1) 25 #[.int .i64 0, .slice none 0 0, .slice none 0 0] (0, 0) _ rfl ?_ Tryz.underlying25 rfl (by kernel_rfl)) rfl ?_
    · refine blk_put (cs := #[.int .i64 0, .slice none 0 0, .slice none 0 0]) ?_ 2 _ rfl
      refine blk_put (cs := #[.int .i64 0, .slice none 0 0, .slice none 0 0]) ?_ 1 _ rfl
      refine blk_put (cs := #[.int .i64 0, .slice none 0 0, .slice none 0 0]) ?_ 0 _ rfl
      exact HG2.out
    · exact ⟨_, _, rfl, Kd.R_nil _ _ _ _ _, Kd.S_nil _ _ _ _ _, by repeat first | exact HBW.out.trans (HB1.out.mono (by omega)) | apply pw_below_drewN | refine below_set ?_ (by omega)⟩
end Go.Proofs.YtgjbnmobhafajaaGreatDoor
end
