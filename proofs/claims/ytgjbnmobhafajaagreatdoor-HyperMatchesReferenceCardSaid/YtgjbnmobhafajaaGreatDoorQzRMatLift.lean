/- The texts of this claim, RMatLift. -/
import Derived.Test.YtgjbnmobhafajaaGreatDoorQzKaOpen
import Derived.Test.YtgjbnmobhafajaaGreatDoorQzSgMat
import Derived.SevenTiedAt
import Derived.ChangeSame
import Derived.RowKitTokens
section
namespace Go.Proofs.YtgjbnmobhafajaaGreatDoor
open Go Go.ChangeShapes Go.WideShapes Go.ChangeAt Go.RowKit Go.Proofs.YtgjbnmobhafajaaGreatDoorW.PrintWords Go.Proofs.YtgjbnmobhafajaaGreatDoorW.PrintLast
def HyperMatchesReferencePure : Prop := ∀ (n0 : Int) (c0 : List Int) (es0 : List (List Int)) (n1 : Int) (l2 : List Int) (l3 : List (List Int)) (l4 : List Int), -9223372036854775808 ≤ n0 ∧ n0 ≤ 9223372036854775807 → WfL c0 → (∀ e ∈ es0, WfL e) → c0.length ≤ 9223372036854775807 → es0.length ≤ 9223372036854775807 → -9223372036854775808 ≤ n1 ∧ n1 ≤ 9223372036854775807 → WfL l2 → l2.length ≤ 9223372036854775807 → (∀ e ∈ l3, WfL e) → l3.length ≤ 9223372036854775807 → WfL l4 → l4.length ≤ 9223372036854775807 →
  ∃ k, Hy.cleanselaw27_HyperMatchesReference.f k n0 c0 es0 n1 l2 l3 l4 = some true
set_option maxRecDepth 1000000 in
theorem hyperMatchesReference_lifted (P : HyperMatchesReferencePure) (os : Os) (started : os.Started) (H : Type) (enc : TypeId × Value → H) :
    ReturnsInHanded {} Tryz.checked os 3 .any (fun w args => (Rows.hyperMatchesReferenceSpec.pre enc Tryz.prog Tryz.f3 Rows.hyperMatchesReferenceRow.domain false w args ∧ laidMet Tryz.prog Rows.hyperMatchesReferenceRow.laid w) ∧ sizedMet enc Tryz.prog Tryz.f3 (OpenSpec.ofChange Rows.hyperMatchesReferenceSpec) false w args)
      (Rows.hyperMatchesReferenceSpec.post enc Tryz.prog Tryz.f3 false true false false) := by
  refine returnsInHanded_of_change_and (C := Tryz.checked) (X := fun w _ => laidMet Tryz.prog Rows.hyperMatchesReferenceRow.laid w) (fun _ _ _ hh h => h.of_heap hh) ownK started (by kernel_rfl) Tryz.func3
    (ChangeSpec.witness_at (enc := enc) (C := Tryz.checked) (os := os) (X := fun w _ => laidMet Tryz.prog Rows.hyperMatchesReferenceRow.laid w) false (laidWorld os) #[.agg #[.int .i64 0, .slice none 0 0, .slice none 0 0], .int .i64 0, .slice none 0 0, .slice none 0 0, .slice none 0 0] 80 rfl (by kernel_rfl) (by kernel_rfl) (by kernel_rfl) (by kernel_rfl) (by kernel_rfl) (laidWorld_met os _)) ?_
  intro W base args ds gs before hval0 hW hD0 hD1 hD2 hD3
  have hval : ∀ (j : Nat) t v, Tryz.f3.params[j]? = some t → args[j]? = some v → Value.okWide Tryz.prog W .any base t v := hval0
  have hW' := hW
  obtain ⟨p, q, hA0, hV, rfl, hfz, hnd⟩ := hW
  have hA : DataW.TrodAll enc Tryz.prog W 0 (fun _ => true) true Tryz.f3.params.toList args.toList ds p := hA0
  rw [Tryz.params3] at hA hval
  obtain ⟨v0, vs0, d0, ds0, p0, q0, hargs, rfl, rfl, h0, r0⟩ := trodAll_cons hA
  obtain ⟨v1, vs1, d1, ds1, p1, q1, rfl, rfl, rfl, h1, r1⟩ := trodAll_cons r0
  obtain ⟨v2, vs2, d2, ds2, p2, q2, rfl, rfl, rfl, h2, r2⟩ := trodAll_cons r1
  obtain ⟨v3, vs3, d3, ds3, p3, q3, rfl, rfl, rfl, h3, r3⟩ := trodAll_cons r2
  obtain ⟨v4, vs4, d4, ds4, p4, q4, rfl, rfl, rfl, h4, r4⟩ := trodAll_cons r3
  obtain ⟨rfl, rfl, rfl⟩ := trodAll_nil r4
  obtain rfl : args = #[v0, v1, v2, v3, v4] := by cases args; simp_all
  obtain ⟨rfl, rfl⟩ := trodVars_none hV
  have lt0 : ∀ x ∈ p0, x.block < W.heap.size := by obtain ⟨m, hm⟩ := h0; exact DataW.trod_lt m _ _ _ hm
  obtain ⟨n0, A0a, c0a, l0a, A0b, c0b, l0b, rfl, wn0, hc0a, hC0a, hw0a, hc0b, hC0b, hw0b⟩ := open_graphI (hval 0 25 v0 rfl rfl) h0
  obtain ⟨n1, rfl, rfl, rfl, wn1⟩ := open_int Tryz.underlying3 (hval 1 3 v1 rfl rfl) h1
  have lt2 : ∀ x ∈ p2, x.block < W.heap.size := by obtain ⟨m, hm⟩ := h2; exact DataW.trod_lt m _ _ _ hm
  obtain ⟨x2, y2, z2, rfl⟩ := okWide_slice Tryz.underlying22 (hval 2 22 v2 rfl rfl)
  have k2 := h2
  obtain ⟨f2, g2⟩ := h2
  obtain ⟨A2, c2, l2, e2, hc2, hC2, hw2⟩ := open_rowI (v := .slice x2 y2 z2) g2
  obtain ⟨rfl, rfl, rfl⟩ : x2 = A2 ∧ y2 = l2.length ∧ z2 = c2 := by simpa using e2
  have lt3 : ∀ x ∈ p3, x.block < W.heap.size := by obtain ⟨m, hm⟩ := h3; exact DataW.trod_lt m _ _ _ hm
  obtain ⟨x3, y3, z3, rfl⟩ := okWide_slice Tryz.underlying23 (hval 3 23 v3 rfl rfl)
  have k3 := h3
  obtain ⟨f3, g3⟩ := h3
  obtain ⟨A3, c3, l3, e3, hc3, hC3, hw3⟩ := open_rowsI (v := .slice x3 y3 z3) g3
  obtain ⟨rfl, rfl, rfl⟩ : x3 = A3 ∧ y3 = l3.length ∧ z3 = c3 := by simpa using e3
  have lt4 : ∀ x ∈ p4, x.block < W.heap.size := by obtain ⟨m, hm⟩ := h4; exact DataW.trod_lt m _ _ _ hm
  obtain ⟨x4, y4, z4, rfl⟩ := okWide_slice Tryz.underlying22 (hval 4 22 v4 rfl rfl)
  have k4 := h4
  obtain ⟨f4, g4⟩ := h4
  obtain ⟨A4, c4, l4, e4, hc4, hC4, hw4⟩ := open_rowI (v := .slice x4 y4 z4) g4
  obtain ⟨rfl, rfl, rfl⟩ : x4 = A4 ∧ y4 = l4.length ∧ z4 = c4 := by simpa using e4
  obtain ⟨k, hk⟩ := P n0 l0a l0b n1 l2 l3 l4 wn0 hw0a hw0b hC0a.2.1 hC0b.2.1 (bounds_i64 wn1) hw2 hC2.2.1 hw3 hC3.2.1 hw4 hC4.2.1
  have hTab : Lib.TabIs Tryz.prog W "internal/strconv.uint64pow10" .u64 Lib.pow10Tab := laid_pow10 hD2
  refine (Hy.cleanselaw27_HyperMatchesReference.calls k n0 A0a c0a l0a A0b c0b l0b n1 x2 z2 l2 x3 z3 l3 x4 z4 l4 true W hC0a hc0a hC0b hc0b hC2 hc2 hC3 hc3 hC4 hc4 hTab hk).mono fun e W' ⟨he, bel⟩ => ?_
  subst he
  exact ⟨_, rfl, _, _, _, [], _, [], hW', trodAll_mk1 (shut_bool Tryz.underlying4 _), trodAll_cons_mk (Below.trod laidOut (by kernel_rfl) (of_decide_eq_true (by kernel_rfl)) h0 bel lt0) (trodAll_cons_mk (shut_int Tryz.underlying3 wn1) (trodAll_cons_mk (Below.trod laidOut (by kernel_rfl) (of_decide_eq_true (by kernel_rfl)) k2 bel lt2) (trodAll_cons_mk (Below.trod laidOut (by kernel_rfl) (of_decide_eq_true (by kernel_rfl)) k3 bel lt3) (trodAll_cons_mk (Below.trod laidOut (by kernel_rfl) (of_decide_eq_true (by kernel_rfl)) k4 bel lt4) trodAll_mk0)))), rfl, bel.frame _, fun h => by cases h⟩
end Go.Proofs.YtgjbnmobhafajaaGreatDoor
end
