/- The texts of this claim, SdSet. -/
import Derived.Test.YtgjbnmobhafajaaGreatDoorQzME
set_option linter.unusedVariables false
set_option linter.unusedSimpArgs false
section
namespace Go.Proofs.YtgjbnmobhafajaaGreatDoor
open Go Go.RowKit Go.Sort Go.Shelf Go.Proofs.YtgjbnmobhafajaaGreatDoorW.PrintWords Go.Proofs.YtgjbnmobhafajaaGreatDoorW.PrintLast
theorem Hyp.ins_inc {S : List Int} (hS : Hyp.Inc S) {j : Nat} {x : Int} (hlo : ∀ y ∈ S.take j, y < x) (hhi : ∀ y ∈ S.drop j, x < y) : Hyp.Inc (S.take j ++ [x] ++ S.drop j) := by
  have h := hS
  unfold Hyp.Inc at h ⊢
  rw [← List.take_append_drop j S] at h
  obtain ⟨h1, h2, h3⟩ := List.pairwise_append.1 h
  refine List.pairwise_append.2 ⟨List.pairwise_append.2 ⟨h1, List.pairwise_singleton _ _, fun a ha b hb => ?_⟩, h2, fun a ha b hb => ?_⟩
  · rw [List.mem_singleton.1 hb]; exact hlo a ha
  · rcases List.mem_append.1 ha with ha | ha
    · exact h3 a ha b hb
    · rw [List.mem_singleton.1 ha]; exact hhi b hb
theorem Hyp.ins_mem (S : List Int) (j : Nat) (x y : Int) : y ∈ S.take j ++ [x] ++ S.drop j ↔ y = x ∨ y ∈ S := by
  have h : y ∈ S ↔ y ∈ S.take j ∨ y ∈ S.drop j := by
    rw [← List.mem_append, List.take_append_drop]
  rw [List.mem_append, List.mem_append, List.mem_singleton, h]
  constructor
  · rintro ((a | a) | a)
    · exact .inr (.inl a)
    · exact .inl a
    · exact .inr (.inr a)
  · rintro (a | a | a)
    · exact .inl (.inr a)
    · exact .inl (.inl a)
    · exact .inr a
theorem Hyp.mem_set_take {xs : List Int} {i : Nat} (hi : i < xs.length) (y : Int) : y ∈ Hyp.setOf (xs.take (i + 1)) ↔ y = xs.getD i 0 ∨ y ∈ Hyp.setOf (xs.take i) := by
  rw [Hyp.mem_setOf, Hyp.mem_setOf, List.take_succ_eq_append_getElem hi, List.mem_append, List.mem_singleton, Hyp.getD_get xs i hi]
  exact or_comm
theorem Hyp.set_same {xs : List Int} {i : Nat} (hi : i < xs.length) (h : xs.getD i 0 ∈ Hyp.setOf (xs.take i)) : Hyp.setOf (xs.take (i + 1)) = Hyp.setOf (xs.take i) :=
  Hyp.inc_ext (Hyp.setOf_inc _) (Hyp.setOf_inc _) fun y => by
    rw [Hyp.mem_set_take hi]
    exact ⟨fun h1 => h1.elim (fun e => by rw [e]; exact h) id, .inr⟩
theorem Hyp.set_put {xs : List Int} {i j : Nat} (hi : i < xs.length) (hlo : ∀ y ∈ (Hyp.setOf (xs.take i)).take j, y < xs.getD i 0) (hhi : ∀ y ∈ (Hyp.setOf (xs.take i)).drop j, xs.getD i 0 < y) :
    (Hyp.setOf (xs.take i)).take j ++ [xs.getD i 0] ++ (Hyp.setOf (xs.take i)).drop j = Hyp.setOf (xs.take (i + 1)) :=
  Hyp.inc_ext (Hyp.ins_inc (Hyp.setOf_inc _) hlo hhi) (Hyp.setOf_inc _) fun y => by rw [Hyp.mem_set_take hi, Hyp.ins_mem]
theorem Hyp.inc_drop {S : List Int} (hS : Hyp.Inc S) {j : Nat} {x : Int} (hge : j < S.length → x < S.getD j 0) : ∀ y ∈ S.drop j, x < y := by
  intro y hy
  by_cases hj : j < S.length
  · have h1 := hge hj
    have hI : Hyp.Inc (S.drop j) := hS.sublist (List.drop_sublist _ _)
    rw [List.drop_eq_getElem_cons hj] at hy hI
    rw [Hyp.getD_get S j hj] at h1
    rcases List.mem_cons.1 hy with rfl | hy
    · exact h1
    · have := (List.pairwise_cons.1 hI).1 y hy; omega
  · rw [List.drop_eq_nil_of_le (by omega)] at hy
    simp at hy
def RSet (w : World) (S : List Int) (v : Value) (W : World) : Prop := Kd.R (Kd.int .i64) 3 W w.heap.size (fun _ => True) v S ∧ Below w.heap.size w W
theorem RSet.drewN {w W : World} {S : List Int} {v : Value} (h : RSet w S v W) (n : Nat) : RSet w S v (W.drewN n) := ⟨Kd.R_drewN h.1 n, pw_below_drewN h.2 n⟩
theorem RSet.gen {P : Program} {ops : Array Oper} {rest : List Oper} {a : Act} {Q : Exit → Act → World → Prop} {w W : World} {S : List Int} {v : Value} (h : RSet w S v W) (k : ∀ W', RSet w S v W' → wpList P ops Q rest a W') : wpList P ops Q rest a W := k W h
theorem Hyp.cuts {W : World} {A : Option Addr} {S : List Int} {co j : Nat} (hj : j ≤ S.length) (hco : S.length ≤ co) (_h : Kd.C (Kd.int .i64) W A S.length S) :
    (∀ W : World, (Instr.slice 22 (.slice A S.length co) none (some (.int .i64 (j : Int))) none).run Tryz.prog W = .ok (.slice A j co) W) ∧ (∀ W, Kd.C (Kd.int .i64) W A S.length S → Kd.C (Kd.int .i64) W A j (S.take j)) ∧
    ∃ A2 c2, (∀ W : World, (Instr.slice 22 (.slice A S.length co) (some (.int .i64 (j : Int))) none none).run Tryz.prog W = .ok (.slice A2 (S.length - j) c2) W) ∧ ∀ W, Kd.C (Kd.int .i64) W A S.length S → Kd.C (Kd.int .i64) W A2 (S.length - j) (S.drop j) := by
  obtain ⟨i0, hi0, hz0, hz1, hz2⟩ := info_parts infoInt
  have h1 := cut_to (P := Tryz.prog) 22 3 .i64 Tryz.underlying22 hi0 A S.length co (j : Int) (by omega) (by omega) hco
  have h2 := cut_from (P := Tryz.prog) 22 3 .i64 Tryz.underlying22 hi0 1 hz1 A S.length co (j : Int) (by omega) (by omega)
  rw [Int.toNat_natCast] at h1 h2
  refine ⟨h1, fun W h => ?_, _, _, h2, fun W h => ?_⟩
  · have := Kd.C_take (m := j) h hj
    rwa [show (S.take j).length = j from by rw [List.length_take]; omega] at this
  · have := Kd.C_drop (m := j) (c := co) h hj hco
    rwa [show (S.drop j).length = S.length - j from List.length_drop] at this
def cleanseref27_Set.f (l0 : List Int) : Option (List Int) := if l0.length ≤ 1000000 then some (Hyp.setOf l0) else none
set_option maxRecDepth 100000 in
set_option maxHeartbeats 8000000 in
theorem cleanseref27_Set.calls (A0 : Option Addr) (c0 : Nat) (l0 : List Int) (r : List Int) (w : World) (hr0 : Kd.C (Kd.int .i64) w A0 l0.length l0) (hc0 : l0.length ≤ c0) (h : cleanseref27_Set.f l0 = some r) :
    Calls Tryz.prog 28 #[.slice A0 l0.length c0] w fun e w' => ∃ v0_ : Value, e = .returned (v0_) ∧ Kd.R (Kd.int .i64) 3 w' w.heap.size (fun _ => True) v0_ r ∧ Below w.heap.size w w' := by
  unfold cleanseref27_Set.f at h
  split at h
  case isFalse => cases h
  rename_i hll
  have HR := Lib.hid (Option.some.inj h).symm
  have HR0 := Lib.hid hr0
  clear h hr0
  have S0 : Hid (RSet w (Hyp.setOf (l0.take 0)) (.slice none 0 0) w) := Lib.hid ⟨by rw [List.take_zero, Hyp.setOf_of_inc List.Pairwise.nil]; exact Kd.R_nil _ _ _ _ _, Below.refl _ _⟩
  go_enter Tryz.func28, Tryz.ntmps28
  go_wp2
  go_loopg [3, 4] l0.length (fun gg s3 s4 wr => ∃ i : Nat, s4 = .int .i64 (i : Int) ∧ i ≤ l0.length ∧ l0.length - i ≤ gg ∧ Hid (RSet w (Hyp.setOf (l0.take i)) s3 wr))
  case atStart => exact ⟨0, rfl, by omega, by omega, S0⟩
  case round =>
    clear S0
    obtain ⟨i, rfl, hi, hgi, S1⟩ := hrel
    obtain ⟨Ao, co, rfl⟩ := Kd.R_slice S1.out.1
    by_cases hlt : i < l0.length
    · have hltz : (i : Int) < (l0.length : Int) := by omega
      obtain ⟨bl, ol, rfl, hbl, hcl⟩ := C_int HR0.out (show 0 < l0.length by omega)
      have hcw := hcl i hlt
      have hsm := Hyp.set_same hlt
      have hsp := fun j => Hyp.set_put (j := j) hlt
      have hinc := Hyp.setOf_inc (l0.take i)
      have hSl : (Hyp.setOf (l0.take i)).length ≤ i := by have := Hyp.setOf_le (l0.take i); rw [List.length_take] at this; omega
      obtain ⟨T, hT⟩ : ∃ T, T = Hyp.setOf (l0.take (i + 1)) := ⟨_, rfl⟩
      rw [← hT] at hsm hsp
      have HT := Lib.hid hT
      clear hT hcl
      generalize Hyp.setOf (l0.take i) = S at *
      obtain ⟨x, hx⟩ : ∃ x, x = l0.getD i 0 := ⟨_, rfl⟩
      rw [← hx] at hcw hsm hsp
      clear hx
      have HSM := Lib.hid hsm
      have HSP := Lib.hid hsp
      have HINC := Lib.hid hinc
      have HCW := Lib.hid hcw
      clear hsm hsp hinc hcw
      have SJ : Hid (∀ y ∈ S.take 0, y < x) := Lib.hid (by simp)
      go_wp2
      go_loopg [5] S.length (fun gg s5 wx => ∃ j : Nat, s5 = .int .i64 (j : Int) ∧ j ≤ S.length ∧ S.length - j ≤ gg ∧ Hid (∀ y ∈ S.take j, y < x) ∧ Hid (RSet w S (.slice Ao S.length co) wx))
      case atStart => exact ⟨0, rfl, by omega, by omega, SJ, S1⟩
      case round =>
        clear S1 SJ
        obtain ⟨j, rfl, hj, hgj, SJ, S2⟩ := hrel
        have hcx := (S2.out.2.cell (p := ⟨bl, ol + i, none⟩) hbl).trans HCW.out
        by_cases hin : j < S.length ∧ S.getD j 0 ≤ x
        · obtain ⟨hjl, hle⟩ := hin
          have hjlz : (j : Int) < (S.length : Int) := by omega
          have hjlb : decide ((j : Int) < (S.length : Int)) = true := decide_eq_true hjlz
          obtain ⟨bs, os, rfl, hbs, hcs⟩ := C_int (Kd.R_reads' S2.out.1).2.2 (show 0 < S.length by omega)
          have hcy := hcs j hjl
          have hmem : S.getD j 0 ∈ S := by rw [Hyp.getD_get S j hjl]; exact List.getElem_mem hjl
          have htk : S.take (j + 1) = S.take j ++ [S.getD j 0] := by rw [List.take_succ_eq_append_getElem hjl, Hyp.getD_get S j hjl]
          have HTK := Lib.hid htk
          have HMEM := Lib.hid hmem
          clear hcs htk hmem
          generalize S.getD j 0 = y at *
          by_cases hyx : y < x
          · have hyxb : decide (y < x) = true := decide_eq_true hyx
            go_wp2
            go_quiet (fail)
            go_wp2
            go_roundg (S.length - (j + 1))
            case measure => omega
            case rel => exact ⟨j + 1, by go_num, by omega, Nat.le_refl _, Lib.hid (by
              rw [HTK.out]
              intro z hz
              rcases List.mem_append.1 hz with hz | hz
              · exact SJ.out z hz
              · rw [List.mem_singleton.1 hz]; exact hyx), Lib.hid (S2.out.drewN _)⟩
          · obtain rfl : y = x := by omega
            have hyxb : decide (y < y) = false := decide_eq_false hyx
            have hyyb : (y == y) = true := beq_iff_eq.mpr rfl
            go_wp2
            go_quiet (fail)
            go_wp2
            go_quiet (fail)
            go_wp2
            go_roundg (l0.length - (i + 1))
            case measure => omega
            case rel => exact ⟨i + 1, by go_num, by omega, Nat.le_refl _, by rw [← HT.out, HSM.out HMEM.out]; exact Lib.hid (S2.out.drewN _)⟩
        · have HPUT := HSP.out j SJ.out (Hyp.inc_drop HINC.out (fun h => by omega))
          have HP := Lib.hid HPUT
          clear HPUT
          by_cases hjl : j < S.length
          case' pos =>
            have hjlz : (j : Int) < (S.length : Int) := by omega
            have hjlb : decide ((j : Int) < (S.length : Int)) = true := decide_eq_true hjlz
            obtain ⟨bs, os, hA, hbs, hcs⟩ := C_int (Kd.R_reads' S2.out.1).2.2 (show 0 < S.length by omega)
            have hcy := hcs j hjl
            subst hA
            clear hcs
            have hyx : ¬ S.getD j 0 < x := by omega
            have hne : ¬ S.getD j 0 = x := by omega
            clear hin
            generalize S.getD j 0 = y at *
            have hyxb : decide (y < x) = false := decide_eq_false hyx
            have hyyb : (y == x) = false := beq_eq_false_iff_ne.mpr hne
            go_wp2
            go_quiet (fail)
            go_wp2
            go_quiet (fail)
          case' neg =>
            have hjlz : ¬ (j : Int) < (S.length : Int) := by omega
            have hjlb : decide ((j : Int) < (S.length : Int)) = false := decide_eq_false hjlz
            go_wp2
            go_quiet (fail)
            go_wp2
            go_quiet (fail)
          all_goals
            go_wp2_with ((with_reducible refine gate_dst (N := 45) rfl ?_); refine hold_here ?_)
            refine hold_out ?_
            first | refine RSet.gen ((S2.out.drewN _).drewN _) ?_ | refine RSet.gen (S2.out.drewN _) ?_
            clear S2 hcx hgj hjlz hjlb
            intro wz hz
            have hcx := (hz.2.cell (p := ⟨bl, ol + i, none⟩) hbl).trans HCW.out
            obtain ⟨_, hco, hCz⟩ := Kd.R_reads' hz.1
            have hzs := hz.2.size
            refine Kd.R_lit (Kd.int .i64) wz.heap.size 3 rfl (N := 45) rfl (xs := ([] : List Int)) (inner := []) (ok := fun _ => True) (okp := fun _ => True) (by first | (go_simp; done) | (go_simp; rfl)) (Reps.none _ _) (fun _ hk => hk) trivial (Below.refl _ _) (Nat.le_refl _) (by simp) ?_
            intro v1 wA hv1 hbA _ _
            have S1A := Kd.R_elder' hz.1 (Kd.R_base hv1) hbA
            have N1A := Kd.R_lower (Kd.R_new' hv1 (Kd.R_lt hz.1)) hzs
            have BA := below_step hz.2 hbA
            have CA := Kd.C_below hCz hbA
            obtain ⟨hcut, hC1, A2, c2, hcut2, hC2⟩ := Hyp.cuts hj hco hCz
            have HC1 := Lib.hid hC1
            have HC2 := Lib.hid hC2
            have HCUT2 := Lib.hid hcut2
            clear hz hv1 hbA hCz hcx hcut2 hC1 hC2
            have HS1 := Lib.hid S1A
            have HN1 := Lib.hid N1A
            have HBA := Lib.hid BA
            have HCA := Lib.hid CA
            clear S1A N1A BA CA
            go_wp2_with (at_builtin; refine hold_here ?_)
            refine hold_out ?_
            have hjt : (S.take j).length = j := by rw [List.length_take]; omega
            have hjd : (S.drop j).length = S.length - j := List.length_drop
            refine Kd.R_append_rows (Kd.int .i64) (w0 := w) w.heap.size rfl (.tmp 45) (.tmp 48) 22 3 (.int .i64 0) 8 rfl Tryz.underlying22 infoInt rfl (by decide) (by decide) v1 [] (S.take j) _ j _ (fun k_ => True ∧ some k_ ≠ (Value.slice _ S.length co).ownBlock) (fun _ => False) rfl rfl HN1.out (HC1.out _ HCA.out) (fun _ _ h => h) (fun _ h => h.elim) (fun k hk => ⟨trivial, Kd.fresh' (Kd.R_lt HS1.out) k hk⟩) HBA.out HBA.out.size (by rw [List.length_nil]; omega) ?_
            intro v2 wB hv2 hbB hgB hatB
            have HSB := Lib.hid (Kd.R_after (ok := fun _ => True) HS1.out hgB hatB)
            have HNB := Lib.hid hv2
            have HBB := Lib.hid hbB
            have hcxB := (hbB.cell (p := ⟨bl, ol + i, none⟩) hbl).trans HCW.out
            clear hv2 hbB hgB hatB hcut HS1 HN1 HBA HCA HC1
            go_wp2_with (at_builtin; refine hold_here ?_)
            refine hold_out ?_
            refine Kd.R_append (Kd.int .i64) (W := wB) (w0 := w) w.heap.size rfl (.tmp 50) (.tmp 55) 22 3 (.int .i64 0) 8 rfl Tryz.underlying22 infoInt rfl (by decide) (by decide) v2 (S.take j) x [.int .i64 x] (fun k_ => True ∧ some k_ ≠ (Value.slice _ S.length co).ownBlock) (fun _ => False) rfl rfl rfl (fun _ h => h.elim) (fun k hk => ⟨trivial, Kd.fresh' (Kd.R_lt HSB.out) k hk⟩) HNB.out HBB.out HBB.out.size (by omega) ?_
            intro v3 wC hv3 hbC hgC hatC
            have HSC := Lib.hid (Kd.R_after (ok := fun _ => True) HSB.out hgC hatC)
            have HNC := Lib.hid hv3
            have HBC := Lib.hid hbC
            have hcut2 := HCUT2.out
            clear hv3 hbC hgC hatC HSB HNB HBB hcxB
            go_wp2_with (at_builtin; refine hold_here ?_)
            refine hold_out ?_
            refine Kd.R_append_rows (Kd.int .i64) (w0 := w) w.heap.size rfl (.tmp 57) (.tmp 60) 22 3 (.int .i64 0) 8 rfl Tryz.underlying22 infoInt rfl (by decide) (by decide) v3 (S.take j ++ [x]) (S.drop j) A2 (S.length - j) c2 (fun k_ => True ∧ some k_ ≠ (Value.slice _ S.length co).ownBlock) (fun _ => False) rfl rfl HNC.out (HC2.out _ (Kd.R_reads' HSC.out).2.2) (fun _ _ h => h) (fun _ h => h.elim) (fun k hk => ⟨trivial, Kd.fresh' (Kd.R_lt HSC.out) k hk⟩) HBC.out HBC.out.size (by rw [List.length_append, hjt, List.length_singleton]; omega) ?_
            intro v4 wD hv4 hbD hgD hatD
            rw [HP.out] at hv4
            have S5 : Hid (RSet w T v4 wD) := Lib.hid ⟨Kd.R_mono hv4 (fun _ _ => trivial), hbD⟩
            clear hv4 hbD hgD hatD HSC HNC HBC hcut2
            go_wp2
            go_roundg (l0.length - (i + 1))
            case measure => omega
            case rel => exact ⟨i + 1, by go_num, by omega, Nat.le_refl _, by rw [← HT.out]; exact S5⟩
    · have hltz : ¬ (i : Int) < (l0.length : Int) := by omega
      obtain rfl : i = l0.length := by omega
      rw [List.take_length] at S1 ⊢
      go_wp2
      go_ret
      exact ⟨_, rfl, by rw [HR.out]; exact S1.out.1, S1.out.2⟩
end Go.Proofs.YtgjbnmobhafajaaGreatDoor
end
