/- The texts of this claim, RCompLift. -/
import Derived.Test.YtgjbnmobhafajaaDoorQsKaOpen
import Derived.Test.YtgjbnmobhafajaaDoorQsKbOpenU
import Derived.Test.YtgjbnmobhafajaaDoorQsHyComp
import Derived.SevenTiedAt
import Derived.ChangeSame
import Derived.RowKitTokens
set_option linter.unusedVariables false
set_option linter.unusedSimpArgs false
section
namespace Go.Proofs.YtgjbnmobhafajaaDoor
open Go Go.ChangeShapes Go.WideShapes Go.ChangeAt Go.RowKit Go.Proofs.YtgjbnmobhafajaaDoorW.PrintWords Go.Proofs.YtgjbnmobhafajaaDoorW.PrintLast
def HyperComponentsPure : Prop := ∀ (n0 : Int) (c0 : List Int) (es0 : List (List Int)) (l1 : List Int), -9223372036854775808 ≤ n0 ∧ n0 ≤ 9223372036854775807 → WfL c0 → (∀ e ∈ es0, WfL e) → c0.length ≤ 9223372036854775807 → es0.length ≤ 9223372036854775807 → WfU l1 → l1.length ≤ 9223372036854775807 →
  ∃ k, Hy.cleanselaw27_HyperComponents.f k n0 c0 es0 l1 = some true
set_option maxRecDepth 1000000 in
theorem hyperComponents_lifted (P : HyperComponentsPure) (os : Os) (started : os.Started) (H : Type) (enc : TypeId × Value → H) :
    ReturnsInHanded {} Tryd.checked os 6 .any (fun w args => (Rows.hyperComponentsSpec.pre enc Tryd.prog Tryd.f6 Rows.hyperComponentsRow.domain false w args ∧ laidMet Tryd.prog Rows.hyperComponentsRow.laid w) ∧ sizedMet enc Tryd.prog Tryd.f6 (OpenSpec.ofChange Rows.hyperComponentsSpec) false w args)
      (Rows.hyperComponentsSpec.post enc Tryd.prog Tryd.f6 false true false false) := by
  refine returnsInHanded_of_change_and (C := Tryd.checked) (X := fun w _ => laidMet Tryd.prog Rows.hyperComponentsRow.laid w) (fun _ _ _ hh h => h.of_heap hh) ownK started (by kernel_rfl) Tryd.func6
    (ChangeSpec.witness_at (enc := enc) (C := Tryd.checked) (os := os) (X := fun w _ => laidMet Tryd.prog Rows.hyperComponentsRow.laid w) false (laidWorld os) #[.agg #[.int .i64 0, .slice none 0 0, .slice none 0 0], .slice none 0 0] 80 rfl (by kernel_rfl) (by kernel_rfl) (by kernel_rfl) (by kernel_rfl) (by kernel_rfl) (laidWorld_met os _)) ?_
  intro W base args ds gs before hval0 hW hD0 hD1 hD2 hD3
  have hval : ∀ (j : Nat) t v, Tryd.f6.params[j]? = some t → args[j]? = some v → Value.okWide Tryd.prog W .any base t v := hval0
  have hW' := hW
  obtain ⟨p, q, hA0, hV, rfl, hfz, hnd⟩ := hW
  have hA : DataW.TrodAll enc Tryd.prog W 0 (fun _ => true) true Tryd.f6.params.toList args.toList ds p := hA0
  rw [Tryd.params6] at hA hval
  obtain ⟨v0, vs0, d0, ds0, p0, q0, hargs, rfl, rfl, h0, r0⟩ := trodAll_cons hA
  obtain ⟨v1, vs1, d1, ds1, p1, q1, rfl, rfl, rfl, h1, r1⟩ := trodAll_cons r0
  obtain ⟨rfl, rfl, rfl⟩ := trodAll_nil r1
  obtain rfl : args = #[v0, v1] := by cases args; simp_all
  obtain ⟨rfl, rfl⟩ := trodVars_none hV
  have lt0 : ∀ x ∈ p0, x.block < W.heap.size := by obtain ⟨m, hm⟩ := h0; exact DataW.trod_lt m _ _ _ hm
  obtain ⟨n0, A0a, c0a, l0a, A0b, c0b, l0b, rfl, wn0, hc0a, hC0a, hw0a, hc0b, hC0b, hw0b⟩ := open_graphI (hval 0 33 v0 rfl rfl) h0
  have lt1 : ∀ x ∈ p1, x.block < W.heap.size := by obtain ⟨m, hm⟩ := h1; exact DataW.trod_lt m _ _ _ hm
  obtain ⟨x1, y1, z1, rfl⟩ := okWide_slice Tryd.underlying41 (hval 1 41 v1 rfl rfl)
  have k1 := h1
  obtain ⟨f1, g1⟩ := h1
  obtain ⟨A1, c1, l1, e1, hc1, hC1, hw1⟩ := open_rowU (v := .slice x1 y1 z1) g1
  obtain ⟨rfl, rfl, rfl⟩ : x1 = A1 ∧ y1 = l1.length ∧ z1 = c1 := by simpa using e1
  obtain ⟨k, hk⟩ := P n0 l0a l0b l1 wn0 hw0a hw0b hC0a.2.1 hC0b.2.1 hw1 hC1.2.1
  refine (Hy.cleanselaw27_HyperComponents.calls k n0 A0a c0a l0a A0b c0b l0b x1 z1 l1 true W hC0a hc0a hC0b hc0b hC1 hc1 hk).mono fun e W' ⟨he, bel⟩ => ?_
  subst he
  exact ⟨_, rfl, _, _, _, [], _, [], hW', trodAll_mk1 (shut_bool Tryd.underlying4 _), trodAll_cons_mk (Below.trod laidOut (by kernel_rfl) (of_decide_eq_true (by kernel_rfl)) h0 bel lt0) (trodAll_cons_mk (Below.trod laidOut (by kernel_rfl) (of_decide_eq_true (by kernel_rfl)) k1 bel lt1) trodAll_mk0), rfl, bel.frame _, fun h => by cases h⟩
end Go.Proofs.YtgjbnmobhafajaaDoor
end
