/- The texts of this claim, MC. -/
import Derived.Test.YtgjbnmobhafajaaGreatDoorQzMB
set_option linter.unusedVariables false
set_option linter.unusedSimpArgs false
section
section
namespace Go.Proofs.YtgjbnmobhafajaaGreatDoor
open Go Go.RowKit Go.Sort Go.Shelf Go.Proofs.YtgjbnmobhafajaaGreatDoorW.PrintWords Go.Proofs.YtgjbnmobhafajaaGreatDoorW.PrintLast
def Hyp.badCost (c : Int) : Bool := decide (c < 0) || decide (1000000000 < c)
theorem weighed1.gives (x : Int) (w : World) : Calls Tryz.prog 41 #[.int .i64 x] w fun e w' => e = .returned (.bool (Hyp.badCost x)) ∧ w' = w := by
  obtain ⟨r, hr⟩ : ∃ r, r = Hyp.badCost x := ⟨_, rfl⟩
  rw [← hr]
  have HR := Lib.hid hr
  clear hr
  go_enter Tryz.func41, Tryz.ntmps41
  by_cases h0 : x < 0
  · go_wp2
    go_ret
    exact ⟨by rw [HR.out]; simp [Hyp.badCost, h0], rfl⟩
  · by_cases h1 : x > 1000000000
    · go_wp2
      go_ret
      exact ⟨by rw [HR.out]; simp [Hyp.badCost, h0, h1], rfl⟩
    · go_wp2
      go_ret
      exact ⟨by rw [HR.out]; simp [Hyp.badCost, h0, h1], rfl⟩
def Hyp.weighedB (n : Int) (cost : List Int) : Bool := decide (0 ≤ n) && decide (n ≤ 4000) && decide ((cost.length : Int) = n) && !cost.any Hyp.badCost
def hyper_weighed.f (a0 : Int) (l1 : List Int) : Option Bool := some (Hyp.weighedB a0 l1)
theorem hyper_weighed.calls (a0 : Int) (A1 : Option Addr) (c1 : Nat) (l1 : List Int) (r : Bool) (w : World) (hr1 : Kd.C (Kd.int .i64) w A1 l1.length l1) (hc1 : l1.length ≤ c1) (h : hyper_weighed.f a0 l1 = some r) :
    Calls Tryz.prog 22 #[.int .i64 a0, .slice A1 l1.length c1] w fun e w' => e = .returned (.bool r) ∧ Drawn0 w w' := by
  have hr : r = Hyp.weighedB a0 l1 := by unfold hyper_weighed.f at h; exact (Option.some.inj h).symm
  clear h
  have hm := C_max hr1
  have hcall : ∀ W, W = w → Calls Tryz.prog 40 #[.slice A1 l1.length c1, .func (.func 41) #[] #[]] W fun e w' => e = .returned (.bool (l1.any Hyp.badCost)) ∧ ∃ q, w' = W.drewN q := by
    rintro W rfl
    by_cases h0 : 0 < l1.length
    · obtain ⟨b, off, rfl, hb, hcs⟩ := C_int hr1 h0
      refine (Tryz.slices_ContainsFunc_f40 (Value.int .i64) Hyp.badCost 41 #[] (fun args w => by simp [go_sem]) b off l1.length c1 l1 W (fun W x _ => (weighed1.gives x W).mono fun e w' ⟨h1, h2⟩ => ⟨h1, 0, h2⟩) (Nat.le_refl _) hm (fun j hj => ?_)).mono ?_
      · rw [hcs j hj, getElem!_pos l1 j hj, List.getD_eq_getElem?_getD, List.getElem?_eq_getElem hj]; rfl
      · rintro e w' ⟨rfl, q, rfl⟩
        exact ⟨by rw [List.take_length], q, rfl⟩
    · have : l1 = [] := List.eq_nil_of_length_eq_zero (by omega)
      subst this
      refine (Tryz.slices_ContainsFunc_empty_f40 (α := Nat) A1 c1 _ W).mono ?_
      rintro e w' ⟨rfl, rfl⟩
      exact ⟨rfl, 0, rfl⟩
  have HR := Lib.hid hr
  have HC := Lib.hid hcall
  clear hr hcall hr1
  go_enter Tryz.func22, Tryz.ntmps22
  by_cases h0 : 0 ≤ a0
  · by_cases h1 : a0 ≤ 4000
    · by_cases h2 : (l1.length : Int) = a0
      · obtain ⟨bb, hbb⟩ : ∃ bb, bb = l1.any Hyp.badCost := ⟨_, rfl⟩
        rw [← hbb] at HC
        have HBB := Lib.hid hbb
        clear hbb
        go_wp2_with fail
        refine (HC.out _ rfl).mono ?_
        rintro e w' ⟨rfl, q, rfl⟩
        go_wp2
        go_ret
        exact ⟨by rw [HR.out]; simp [Hyp.weighedB, h0, h1, h2, ← HBB.out], q, rfl⟩
      · go_wp2
        go_ret
        exact ⟨by (rw [HR.out]; simp [Hyp.weighedB, h0, h1, h2]; try (intros; omega)), 0, rfl⟩
    · go_wp2
      go_ret
      exact ⟨by (rw [HR.out]; simp [Hyp.weighedB, h0]; try (intros; omega)), 0, rfl⟩
  · go_wp2
    go_ret
    exact ⟨by (rw [HR.out]; simp [Hyp.weighedB]; try (intros; omega)), 0, rfl⟩
def slices_Clone_int_int.f (l0 : List Int) : Option (List Int) := if l0.length ≤ 1099511627776 then some l0 else none
theorem slices_Clone_int_int.calls (A0 : Option Addr) (c0 : Nat) (l0 : List Int) (r : List Int) (w : World) (hr0 : Kd.C (Kd.int .i64) w A0 l0.length l0) (hc0 : l0.length ≤ c0) (h : slices_Clone_int_int.f l0 = some r) :
    Calls Tryz.prog 25 #[.slice A0 l0.length c0] w fun e w' => ∃ v0_ : Value, e = .returned (v0_) ∧ Kd.R (Kd.int .i64) 3 w' w.heap.size (fun _ => True) v0_ r ∧ Below w.heap.size w w' := by
  unfold slices_Clone_int_int.f at h
  split at h
  · rename_i hl
    have hr : r = l0 := (Option.some.inj h).symm
    subst hr
    by_cases h0 : 0 < r.length
    · obtain ⟨b, off, rfl, hb, hcs⟩ := C_int hr0 h0
      refine (Tryz.slices_Clone_int b off r.length c0 r w (Nat.le_refl _) (by omega) hcs).mono ?_
      rintro e w' ⟨v, rfl, hown, _, hbl⟩
      rw [List.take_length] at hown
      exact ⟨v, rfl, R_mk hown, hbl⟩
    · have : r = [] := List.eq_nil_of_length_eq_zero (by omega)
      subst this
      cases A0 with
      | none =>
        refine (Tryz.slices_Clone_int_nil 0 c0 w).mono ?_
        rintro e w' ⟨rfl, rfl⟩
        exact ⟨_, rfl, Kd.R_nil _ _ _ _ _, Below.refl _ _⟩
      | some a =>
        refine (Tryz.slices_Clone_int_zero a c0 w).mono ?_
        rintro e w' ⟨v, rfl, hown, _, hbl⟩
        exact ⟨v, rfl, R_mk hown, hbl⟩
  · cases h
theorem slices_Equal.calls (A0 : Option Addr) (c0 : Nat) (l0 : List Int) (A1 : Option Addr) (c1 : Nat) (l1 : List Int) (w : World) (hr0 : Kd.C (Kd.int .i64) w A0 l0.length l0) (hr1 : Kd.C (Kd.int .i64) w A1 l1.length l1) :
    Calls Tryz.prog 30 #[.slice A0 l0.length c0, .slice A1 l1.length c1] w fun e w' => e = .returned (.bool (l0 == l1)) ∧ ∃ q, w' = w.drewN q := by
  by_cases hl : l0.length = l1.length
  · by_cases h0 : 0 < l0.length
    · obtain ⟨b0, o0, rfl, _, hc0⟩ := C_int hr0 h0
      obtain ⟨b1, o1, rfl, _, hc1⟩ := C_int hr1 (by omega)
      refine (Tryz.slices_Equal_int b0 o0 l0.length c0 b1 o1 l1.length c1 l0 l1 w (Nat.le_refl _) (Nat.le_refl _) (C_max hr0) (C_max hr1) hc0 hc1).mono ?_
      rintro e w' ⟨rfl, q, rfl⟩
      exact ⟨by rw [List.take_length, List.take_length], q, rfl⟩
    · have e0 : l0 = [] := List.eq_nil_of_length_eq_zero (by omega)
      have e1 : l1 = [] := List.eq_nil_of_length_eq_zero (by omega)
      subst e0 e1
      refine (Tryz.slices_Equal_int_empty A0 A1 c0 0 c1 w (by omega)).mono ?_
      rintro e w' ⟨rfl, rfl⟩
      exact ⟨rfl, 0, rfl⟩
  · refine (Tryz.slices_Equal_int_lens A0 A1 l0.length c0 l1.length c1 w hl).mono ?_
    rintro e w' ⟨rfl, rfl⟩
    refine ⟨?_, 0, rfl⟩
    have : (l0 == l1) = false := by
      rw [Bool.eq_false_iff]
      intro h
      exact hl (by rw [eq_of_beq h])
    rw [this]
theorem Hyp.take_eq (xs ys : List (List Int)) (k : Nat) (h : xs.take k = ys.take k) (hx : k < xs.length) (hy : k < ys.length) (he : (xs.getD k [] == ys.getD k []) = true) : xs.take (k + 1) = ys.take (k + 1) := by
  rw [List.take_succ_eq_append_getElem hx, List.take_succ_eq_append_getElem hy, h]
  have e1 : xs.getD k [] = xs[k] := by rw [List.getD_eq_getElem?_getD, List.getElem?_eq_getElem hx]; rfl
  have e2 : ys.getD k [] = ys[k] := by rw [List.getD_eq_getElem?_getD, List.getElem?_eq_getElem hy]; rfl
  rw [← e1, ← e2, eq_of_beq he]
set_option maxRecDepth 100000 in
set_option maxHeartbeats 1000000 in
theorem slices_EqualFunc.calls (A0 : Option Addr) (c0 : Nat) (l0 : List (List Int)) (A1 : Option Addr) (c1 : Nat) (l1 : List (List Int)) (w : World) (hr0 : Kd.C (Kd.slice 3 (Kd.int .i64)) w A0 l0.length l0) (hr1 : Kd.C (Kd.slice 3 (Kd.int .i64)) w A1 l1.length l1) :
    Calls Tryz.prog 29 #[.slice A0 l0.length c0, .slice A1 l1.length c1, .func (.func 30) #[] #[]] w fun e w' => e = .returned (.bool (l0 == l1)) ∧ ∃ q, w' = w.drewN q := by
  have HF0 := Lib.hid (fun k (hk : k < l0.length) => C_rows hr0 (show 0 < l0.length by omega))
  have HF1 := Lib.hid (fun k (hk : k < l1.length) => C_rows hr1 (show 0 < l1.length by omega))
  have hm0 := C_max hr0
  have hm1 := C_max hr1
  obtain ⟨res, hres⟩ : ∃ r, r = (l0 == l1) := ⟨_, rfl⟩
  rw [← hres]
  have HRES := Lib.hid hres
  clear hres hr0 hr1
  go_enter Tryz.func29, Tryz.ntmps29
  by_cases hl : l0.length = l1.length
  · have HL := Lib.hid hl
    rw [← hl]
    clear hl
    go_wp2
    go_loopg [17] l0.length (fun g s17 wr => ∃ k : Nat, s17 = .int .i64 k ∧ k ≤ l0.length ∧ l0.length - k ≤ g ∧ Hid (l0.take k = l1.take k) ∧ ∃ q, wr = w.drewN q)
    case atStart => exact ⟨0, rfl, by omega, by omega, Lib.hid rfl, 0, rfl⟩
    case round =>
      obtain ⟨k, rfl, hk, hg, HT, q, rfl⟩ := hrel
      by_cases hlt : k < l0.length
      · have hltz : (k : Int) < (l0.length : Int) := by omega
        have hlt1 : k < l1.length := by rw [← HL.out]; exact hlt
        obtain ⟨b0, o0, rfl, hb0, hcs0⟩ := HF0.out k hlt
        obtain ⟨b1, o1, rfl, hb1, hcs1⟩ := HF1.out k hlt1
        obtain ⟨Ax, cx, hcx, hlx, hCx⟩ := hcs0 k hlt
        obtain ⟨Ay, cy, hcy, hly, hCy⟩ := hcs1 k hlt1
        clear hcs0 hcs1
        have HTE := Lib.hid (fun he => Hyp.take_eq l0 l1 k HT.out hlt hlt1 he)
        have HNE : Hid ((l0.getD k [] == l1.getD k []) = false → (l0 == l1) = false) := Lib.hid (fun h => by
          rw [Bool.eq_false_iff] at h ⊢
          intro e
          exact h (by rw [eq_of_beq e]; simp))
        clear hlt1
        generalize l0.getD k [] = x at *
        generalize l1.getD k [] = y at *
        have HEQ := Lib.hid (slices_Equal.calls Ax cx x Ay cy y (w.drewN q) (Kd.C_below hCx (pw_below_drewN (Below.refl _ _) q)) (Kd.C_below hCy (pw_below_drewN (Below.refl _ _) q)))
        clear hCx hCy
        go_wp2_with fail
        refine HEQ.out.mono ?_
        rintro e w' ⟨rfl, q2, rfl⟩
        obtain ⟨bb, hbb⟩ : ∃ bb, bb = (x == y) := ⟨_, rfl⟩
        rw [← hbb] at HTE HNE ⊢
        clear hbb HEQ
        cases bb with
        | true =>
          go_wp2
          go_roundg (l0.length - (k + 1))
          case measure => omega
          case rel => exact ⟨k + 1, by go_num, by omega, by omega, Lib.hid (HTE.out (by trivial)), _, rfl⟩
        | false =>
          go_wp2
          go_ret
          exact ⟨by rw [HRES.out, HNE.out (by trivial)]; rfl, _, rfl⟩
      · have hltz : ¬ (k : Int) < (l0.length : Int) := by omega
        obtain rfl : k = l0.length := by omega
        go_wp2
        go_ret
        refine ⟨?_, _, rfl⟩
        have h1 := HT.out
        rw [List.take_length, HL.out, List.take_length] at h1
        rw [HRES.out, h1]
        simp
  · have hlz : ¬ (l0.length : Int) = (l1.length : Int) := by omega
    go_wp2
    go_ret
    refine ⟨?_, 0, rfl⟩
    have : (l0 == l1) = false := by
      rw [Bool.eq_false_iff]
      intro h
      exact hl (by rw [eq_of_beq h])
    rw [HRES.out, this]; rfl
instance (l : List Int) : Decidable (Hyp.Inc l) := by unfold Hyp.Inc; infer_instance
def Hyp.isSetB (l : List Int) (n : Int) : Bool := (l.all fun v => decide (0 ≤ v) && decide (v < n)) && decide (Hyp.Inc l)
end Go.Proofs.YtgjbnmobhafajaaGreatDoor
end
section
namespace Go.Proofs.YtgjbnmobhafajaaGreatDoor
open Go Go.RowKit Go.Sort Go.Shelf Go.Proofs.YtgjbnmobhafajaaGreatDoorW.PrintWords Go.Proofs.YtgjbnmobhafajaaGreatDoorW.PrintLast
def Hyp.SetUpTo (l : List Int) (n : Int) (k : Nat) : Prop := (∀ x ∈ l.take k, 0 ≤ x ∧ x < n) ∧ Hyp.Inc (l.take k)
theorem Hyp.getD_get (l : List Int) (k : Nat) (h : k < l.length) : l.getD k 0 = l[k] := by rw [List.getD_eq_getElem?_getD, List.getElem?_eq_getElem h]; rfl
theorem Hyp.isSetB_iff (l : List Int) (n : Int) : Hyp.isSetB l n = true ↔ (∀ x ∈ l, 0 ≤ x ∧ x < n) ∧ Hyp.Inc l := by
  simp [Hyp.isSetB]
theorem Hyp.setUp_more {l : List Int} {n : Int} {k : Nat} (h : Hyp.SetUpTo l n k) (hk : k < l.length) (h0 : 0 ≤ l.getD k 0) (h1 : l.getD k 0 < n) (h2 : 0 < k → l.getD (k - 1) 0 < l.getD k 0) : Hyp.SetUpTo l n (k + 1) := by
  obtain ⟨a, b⟩ := h
  have e := Hyp.getD_get l k hk
  unfold Hyp.SetUpTo
  rw [List.take_succ_eq_append_getElem hk]
  refine ⟨fun x hx => ?_, List.pairwise_append.2 ⟨b, List.pairwise_singleton _ _, fun x hx y hy => ?_⟩⟩
  · rcases List.mem_append.1 hx with hx | hx
    · exact a x hx
    · simp at hx; subst hx; rw [← e]; exact ⟨h0, h1⟩
  · simp at hy; subst hy
    rw [← e]
    obtain ⟨j, hj, rfl⟩ := List.mem_iff_getElem.1 hx
    rw [List.length_take] at hj
    rw [List.getElem_take]
    have hk0 : 0 < k := by omega
    have h3 := h2 hk0
    rw [Hyp.getD_get l (k - 1) (by omega)] at h3
    by_cases hjk : j = k - 1
    · subst hjk; exact h3
    · have := List.pairwise_iff_getElem.1 b j (k - 1) (by rw [List.length_take]; omega) (by rw [List.length_take]; omega) (by omega)
      rw [List.getElem_take, List.getElem_take] at this
      omega
theorem Hyp.setUp_bad {l : List Int} {n : Int} {k : Nat} (hk : k < l.length) (h : l.getD k 0 < 0 ∨ n ≤ l.getD k 0 ∨ (0 < k ∧ l.getD k 0 ≤ l.getD (k - 1) 0)) : Hyp.isSetB l n = false := by
  rw [Bool.eq_false_iff]
  intro hs
  obtain ⟨h1, h2⟩ := (Hyp.isSetB_iff l n).1 hs
  have h3 := h1 _ (List.getElem_mem hk)
  rw [← Hyp.getD_get l k hk] at h3
  rcases h with h | h | ⟨h, h4⟩
  · omega
  · omega
  · rw [Hyp.getD_get l k hk, Hyp.getD_get l (k - 1) (by omega)] at h4
    have := List.pairwise_iff_getElem.1 h2 (k - 1) k (by omega) hk (by omega)
    omega
def hyper_isSet.f (l0 : List Int) (a1 : Int) : Option Bool := some (Hyp.isSetB l0 a1)
set_option maxRecDepth 100000 in
set_option maxHeartbeats 1000000 in
theorem hyper_isSet.calls (A0 : Option Addr) (c0 : Nat) (l0 : List Int) (a1 : Int) (r : Bool) (w : World) (hr0 : Kd.C (Kd.int .i64) w A0 l0.length l0) (hc0 : l0.length ≤ c0) (h : hyper_isSet.f l0 a1 = some r) :
    Calls Tryz.prog 23 #[.slice A0 l0.length c0, .int .i64 a1] w fun e w' => e = .returned (.bool r) ∧ Drawn0 w w' := by
  have hr : r = Hyp.isSetB l0 a1 := by unfold hyper_isSet.f at h; exact (Option.some.inj h).symm
  have HR := Lib.hid hr
  have HF := Lib.hid (fun k (hk : k < l0.length) => C_int hr0 (show 0 < l0.length by omega))
  have hm := C_max hr0
  clear h hr hr0
  go_enter Tryz.func23, Tryz.ntmps23
  go_wp2
  go_loopg [9] l0.length (fun g s9 wr => ∃ k : Nat, s9 = .int .i64 k ∧ k ≤ l0.length ∧ l0.length - k ≤ g ∧ Hid (Hyp.SetUpTo l0 a1 k) ∧ ∃ q, wr = w.drewN q)
  case atStart => exact ⟨0, rfl, by omega, by omega, Lib.hid ⟨fun x hx => by simp at hx, List.Pairwise.nil⟩, 0, rfl⟩
  case round =>
    obtain ⟨k, rfl, hk, hg, HS, q, rfl⟩ := hrel
    by_cases hlt : k < l0.length
    · have hltz : (k : Int) < (l0.length : Int) := by omega
      obtain ⟨b, off, rfl, hb, hcs⟩ := HF.out k hlt
      have hcell := hcs k hlt
      have hprev := hcs (k - 1) (by omega)
      clear hcs
      have HMORE := Lib.hid (fun h0 h1 h2 => Hyp.setUp_more HS.out hlt h0 h1 h2)
      have HBAD := Lib.hid (fun h => Hyp.setUp_bad (l := l0) (n := a1) hlt h)
      generalize l0.getD k 0 = v at *
      generalize l0.getD (k - 1) 0 = u at *
      by_cases h0 : v < 0
      · go_wp2
        go_ret
        exact ⟨by rw [HR.out, HBAD.out (.inl h0)]; rfl, q, rfl⟩
      · by_cases h1 : a1 ≤ v
        · go_wp2
          go_ret
          exact ⟨by rw [HR.out, HBAD.out (.inr (.inl h1))]; rfl, q, rfl⟩
        · by_cases hk0 : 0 < k
          · have hk0z : (0 : Int) < (k : Int) := by omega
            have hlow : (0 : Int) ≤ (k : Int) - 1 := by omega
            have e2 : ((k : Int) - 1).toNat = k - 1 := by omega
            by_cases h2 : v ≤ u
            · go_wp2
              go_ret
              exact ⟨by rw [HR.out, HBAD.out (.inr (.inr ⟨hk0, h2⟩))]; rfl, q, rfl⟩
            · go_wp2
              go_roundg (l0.length - (k + 1))
              case measure => omega
              case rel => exact ⟨k + 1, by go_num, by omega, by omega, Lib.hid (HMORE.out (by omega) (by omega) (fun _ => by omega)), q, rfl⟩
          · have hk0z : ¬ (0 : Int) < (k : Int) := by omega
            go_wp2
            go_roundg (l0.length - (k + 1))
            case measure => omega
            case rel => exact ⟨k + 1, by go_num, by omega, by omega, Lib.hid (HMORE.out (by omega) (by omega) (fun h => absurd h hk0)), q, rfl⟩
    · have hltz : ¬ (k : Int) < (l0.length : Int) := by omega
      obtain rfl : k = l0.length := by omega
      go_wp2
      go_ret
      refine ⟨?_, q, rfl⟩
      obtain ⟨h1, h2⟩ := HS.out
      rw [List.take_length] at h1 h2
      rw [HR.out, (Hyp.isSetB_iff l0 a1).2 ⟨h1, h2⟩]; rfl
def Hyp.validB (n : Int) (cost : List Int) (edges : List (List Int)) : Bool :=
  Hyp.weighedB n cost && decide (edges.length ≤ 20000) && (edges.all fun e => !e.isEmpty && Hyp.isSetB e n) && (Hyp.minimal edges == edges)
def hyper_Valid.f (a0_0 : Int) (l0_1 : List Int) (l0_2 : List (List Int)) : Option Bool :=
  if a0_0 ≤ 100 ∧ l0_2.length ≤ 1048576 ∧ ∀ x ∈ l0_2, x.length ≤ 1048576 then some (Hyp.validB a0_0 l0_1 l0_2) else none
def hyper_Minimal.f (l0 : List (List Int)) : Option (List (List Int)) :=
  if l0.length ≤ 1048576 ∧ (∀ x ∈ l0, x.length ≤ 1048576) ∧ (∀ x ∈ l0, ∀ y ∈ x, 0 ≤ y ∧ y < 100) then some (Hyp.minimal l0) else none
theorem hyper_Minimal.calls (A0 : Option Addr) (c0 : Nat) (l0 : List (List Int)) (r : List (List Int)) (w : World) (hr0 : Kd.C (Kd.slice 3 (Kd.int .i64)) w A0 l0.length l0) (hc0 : l0.length ≤ c0) (h : hyper_Minimal.f l0 = some r) :
    Calls Tryz.prog 18 #[.slice A0 l0.length c0] w fun e w' => ∃ v0_ : Value, e = .returned (v0_) ∧ Kd.S (Kd.slice 3 (Kd.int .i64)) 22 w' w.heap.size (fun _ => True) v0_ r ∧ Below w.heap.size w w' := by
  unfold hyper_Minimal.f at h
  split at h
  · rename_i hc
    obtain ⟨h1, h2, h3⟩ := hc
    cases h
    exact hyper_Minimal.gen A0 c0 l0 w hr0 hc0 h1 h2 (fun x hx => .inl (h3 x hx))
  · cases h
set_option maxRecDepth 100000 in
set_option maxHeartbeats 4000000 in
theorem hyper_Valid.calls (a0_0 : Int) (A0_1 : Option Addr) (c0_1 : Nat) (l0_1 : List Int) (A0_2 : Option Addr) (c0_2 : Nat) (l0_2 : List (List Int)) (r : Bool) (w : World) (hr0_1 : Kd.C (Kd.int .i64) w A0_1 l0_1.length l0_1) (hc0_1 : l0_1.length ≤ c0_1) (hr0_2 : Kd.C (Kd.slice 3 (Kd.int .i64)) w A0_2 l0_2.length l0_2) (hc0_2 : l0_2.length ≤ c0_2) (h : hyper_Valid.f a0_0 l0_1 l0_2 = some r) :
    Calls Tryz.prog 15 #[.agg #[.int .i64 a0_0, .slice A0_1 l0_1.length c0_1, .slice A0_2 l0_2.length c0_2]] w fun e w' => e = .returned (.bool r) ∧ Below w.heap.size w w' := by
  unfold hyper_Valid.f at h
  split at h
  case isFalse => cases h
  rename_i hcc
  obtain ⟨hn100, hlen, hel⟩ := hcc
  have hr : r = Hyp.validB a0_0 l0_1 l0_2 := (Option.some.inj h).symm
  have HR := Lib.hid hr
  have HEL := Lib.hid hel
  have HRD := Lib.hid hr0_2
  have HW := Lib.hid (fun W (hb : Below w.heap.size w W) => hyper_weighed.calls a0_0 A0_1 c0_1 l0_1 _ W (Kd.C_below hr0_1 hb) hc0_1 rfl)
  clear h hr hel hr0_1 hr0_2
  go_enter Tryz.func15, Tryz.ntmps15
  go_wp2_with fail
  refine (HW.out _ (below_alloc (Below.refl _ w) _)).mono ?_
  rintro e w' ⟨rfl, q, rfl⟩
  have hmx : Tryz.prog.follows .mixedOrders = true := by kernel_rfl
  by_cases hwd : Hyp.weighedB a0_0 l0_1 = true
  · rw [hwd]
    have HWD := Lib.hid hwd
    clear hwd
    by_cases hle : (20000 : Int) < (l0_2.length : Int)
    · go_wp2
      go_ret
      refine ⟨?_, by repeat first | exact Below.refl _ _ | apply below_drew | apply pw_below_drewN | apply below_alloc⟩
      have : Hyp.validB a0_0 l0_1 l0_2 = false := by
        unfold Hyp.validB
        rw [HWD.out, decide_eq_false (show ¬ l0_2.length ≤ 20000 by omega)]; rfl
      rw [HR.out, this]; rfl
    · have HR2 : Hid (r = ((l0_2.all fun e => !e.isEmpty && Hyp.isSetB e a0_0) && (Hyp.minimal l0_2 == l0_2))) := Lib.hid (by
        rw [HR.out]; unfold Hyp.validB
        rw [HWD.out, decide_eq_true (show l0_2.length ≤ 20000 by omega)]; rfl)
      go_wp2
      go_loopg [4, 20] l0_2.length (fun g s4 s20 wr => ∃ k : Nat, s20 = .int .i64 k ∧ k ≤ l0_2.length ∧ l0_2.length - k ≤ g ∧ Hid (∀ e ∈ l0_2.take k, (!e.isEmpty && Hyp.isSetB e a0_0) = true) ∧ ∃ q, wr = (w.alloc (.cells #[.int .i64 a0_0, .slice A0_1 l0_1.length c0_1, .slice A0_2 l0_2.length c0_2] 25)).drewN q)
      case atStart => exact ⟨0, rfl, by omega, by omega, Lib.hid (fun e he => by simp at he), q, rfl⟩
      case round =>
        clear q
        obtain ⟨k, rfl, hk, hg, HS, q, rfl⟩ := hrel
        by_cases hlt : k < l0_2.length
        · have hltz : (k : Int) < (l0_2.length : Int) := by omega
          obtain ⟨b, off, rfl, hb, hcs⟩ := C_rows HRD.out (show 0 < l0_2.length by omega)
          obtain ⟨Ax, cx, hcell, hlx, hCx⟩ := hcs k hlt
          have hbne : b ≠ w.heap.size := by omega
          have hcw := ((below_alloc (Below.refl _ w) (.cells #[.int .i64 a0_0, .slice A0_1 l0_1.length c0_1, .slice (some ⟨b, off, none⟩) l0_2.length c0_2] 25)).cell (p := ⟨b, off + k, none⟩) hb).trans hcell
          have hmem : l0_2.getD k [] ∈ l0_2 := by rw [List.getD_eq_getElem?_getD, List.getElem?_eq_getElem hlt]; exact List.getElem_mem hlt
          have HMORE : Hid ((!(l0_2.getD k []).isEmpty && Hyp.isSetB (l0_2.getD k []) a0_0) = true → ∀ e ∈ l0_2.take (k + 1), (!e.isEmpty && Hyp.isSetB e a0_0) = true) := Lib.hid (fun h e he => by
            rw [List.take_succ_eq_append_getElem hlt] at he
            rcases List.mem_append.1 he with he | he
            · exact HS.out e he
            · simp at he; subst he
              rw [List.getD_eq_getElem?_getD, List.getElem?_eq_getElem hlt] at h
              exact h)
          have HBAD : Hid ((!(l0_2.getD k []).isEmpty && Hyp.isSetB (l0_2.getD k []) a0_0) = false → r = false) := Lib.hid (fun h => by
            rw [HR2.out]
            have : (l0_2.all fun e => !e.isEmpty && Hyp.isSetB e a0_0) = false := by
              rw [List.all_eq_false]
              exact ⟨_, hmem, by rw [h]; simp⟩
            rw [this]; rfl)
          generalize l0_2.getD k [] = x at *
          have HIS := Lib.hid (fun W (hb : Below w.heap.size w W) => hyper_isSet.calls Ax cx x a0_0 _ W (Kd.C_below hCx hb) hlx rfl)
          clear hcs hcell hCx hmem
          by_cases hx0 : x.length = 0
          · have hx0z : (x.length : Int) = 0 := by omega
            have hxe : x = [] := List.eq_nil_of_length_eq_zero hx0
            go_wp2
            go_ret
            refine ⟨?_, by repeat first | exact Below.refl _ _ | apply below_drew | apply pw_below_drewN | apply below_alloc⟩
            rw [HBAD.out (by rw [hxe]; rfl)]; rfl
          · have hx0z : ¬ (x.length : Int) = 0 := by omega
            have hxe : (!x.isEmpty) = true := by cases x <;> simp_all
            rw [hxe, Bool.true_and] at HMORE HBAD
            clear hxe
            go_wp2_with fail
            refine (HIS.out _ (by repeat first | exact Below.refl _ _ | apply below_drew | apply pw_below_drewN | apply below_alloc)).mono ?_
            rintro e w' ⟨rfl, q2, rfl⟩
            generalize Hyp.isSetB x a0_0 = bb at *
            cases bb with
            | true =>
              go_wp2
              go_roundg (l0_2.length - (k + 1))
              case measure => omega
              case rel => exact ⟨k + 1, by go_num, by omega, by omega, Lib.hid (HMORE.out (by trivial)), _, rfl⟩
            | false =>
              go_wp2
              go_ret
              refine ⟨?_, by repeat first | exact Below.refl _ _ | apply below_drew | apply pw_below_drewN | apply below_alloc⟩
              rw [HBAD.out (by trivial)]; rfl
        · have hltz : ¬ (k : Int) < (l0_2.length : Int) := by omega
          obtain rfl : k = l0_2.length := by omega
          rw [List.take_length] at HS
          have HMF : Hid (hyper_Minimal.f l0_2 = some (Hyp.minimal l0_2)) := Lib.hid (by
            unfold hyper_Minimal.f
            rw [if_pos ⟨hlen, HEL.out, fun x hx y hy => by
              have := HS.out x hx
              rw [Bool.and_eq_true] at this
              have := ((Hyp.isSetB_iff x a0_0).1 this.2).1 y hy
              omega⟩])
          have HMIN := Lib.hid (fun W (hb : Below w.heap.size w W) => hyper_Minimal.calls A0_2 c0_2 l0_2 _ W (Kd.C_below HRD.out hb) hc0_2 HMF.out)
          have HRES : Hid (r = (Hyp.minimal l0_2 == l0_2)) := Lib.hid (by
            rw [HR2.out]
            have : (l0_2.all fun e => !e.isEmpty && Hyp.isSetB e a0_0) = true := List.all_eq_true.2 HS.out
            rw [this]; rfl)
          generalize Hyp.minimal l0_2 = ml at *
          clear HS HMF HR2
          have hbx : ((w.alloc (.cells #[.int .i64 a0_0, .slice A0_1 l0_1.length c0_1, .slice A0_2 l0_2.length c0_2] 25)).drewN q).cell? ⟨w.heap.size, 2, none⟩ = some (.slice A0_2 l0_2.length c0_2) := by
            show (w.alloc _).cell? _ = _
            have h := World.alloc_heap_new w (.cells #[.int .i64 a0_0, .slice A0_1 l0_1.length c0_1, .slice A0_2 l0_2.length c0_2] 25)
            unfold World.cell?; rw [h]; rfl
          have hB1 : Below w.heap.size w ((w.alloc (.cells #[.int .i64 a0_0, .slice A0_1 l0_1.length c0_1, .slice A0_2 l0_2.length c0_2] 25)).drewN q) := pw_below_drewN (below_alloc (Below.refl _ w) _) q
          have hsz : w.heap.size < ((w.alloc (.cells #[.int .i64 a0_0, .slice A0_1 l0_1.length c0_1, .slice A0_2 l0_2.length c0_2] 25)).drewN q).heap.size := by
            show w.heap.size < (w.alloc _).heap.size
            simp
          generalize (w.alloc (.cells #[.int .i64 a0_0, .slice A0_1 l0_1.length c0_1, .slice A0_2 l0_2.length c0_2] 25)).drewN q = W1 at *
          have HB1 := Lib.hid hB1
          clear hB1
          go_wp2
          go_region_with (first
            | (go_at_call 18; refine (HMIN.out _ HB1.out.drew).mono ?_; rintro e w' ⟨v, rfl, hS, hbm⟩
               have hbm2 : Below W1.heap.size W1 w' := (Below.refl _ W1).drew.trans hbm
               obtain ⟨Am, cm, rfl, hlm, hCm⟩ := Kd.S_reads hS
               have hbx' := (hbm2.cell (p := ⟨w.heap.size, 2, none⟩) hsz).trans hbx
               have HCM := Lib.hid hCm
               have HBM := Lib.hid hbm2
               clear hS hbm hbm2 hCm)
            | (go_at_call 29; refine (slices_EqualFunc.calls Am cm ml A0_2 c0_2 l0_2 _ HCM.out (Kd.C_below HRD.out (HB1.out.trans (HBM.out.mono (by omega))))).mono ?_; rintro e w2 ⟨rfl, q3, rfl⟩))
          all_goals go_wp2
          all_goals go_ret
          all_goals exact ⟨by rw [HRES.out]; rfl, by repeat first | exact HB1.out.trans (HBM.out.mono (by omega)) | apply below_drew | apply pw_below_drewN⟩
  · have hwf : Hyp.weighedB a0_0 l0_1 = false := by simpa using hwd
    rw [hwf]
    have HWD := Lib.hid hwf
    clear hwf hwd
    go_wp2
    go_ret
    refine ⟨?_, by repeat first | exact Below.refl _ _ | apply below_drew | apply pw_below_drewN | apply below_alloc⟩
    have : Hyp.validB a0_0 l0_1 l0_2 = false := by
      unfold Hyp.validB
      rw [HWD.out]; rfl
    rw [HR.out, this]; rfl
end Go.Proofs.YtgjbnmobhafajaaGreatDoor
end
end
