/- The texts of this claim, RMinLift. -/
import Derived.Test.YtgjbnmobhafajaaDoorQsKaOpen
import Derived.Test.YtgjbnmobhafajaaDoorQsHyMin
import Derived.SevenTiedAt
import Derived.ChangeSame
import Derived.RowKitTokens
set_option linter.unusedVariables false
set_option linter.unusedSimpArgs false
section
namespace Go.Proofs.YtgjbnmobhafajaaDoor
open Go Go.ChangeShapes Go.WideShapes Go.ChangeAt Go.RowKit Go.Proofs.YtgjbnmobhafajaaDoorW.PrintWords Go.Proofs.YtgjbnmobhafajaaDoorW.PrintLast
def HyperMinimalPure : Prop := ∀ (l0 : List (List Int)), (∀ e ∈ l0, WfL e) → l0.length ≤ 9223372036854775807 →
  ∃ k, Hy.cleanselaw27_HyperMinimal.f k l0 = some true
set_option maxRecDepth 1000000 in
theorem hyperMinimal_lifted (P : HyperMinimalPure) (os : Os) (started : os.Started) (H : Type) (enc : TypeId × Value → H) :
    ReturnsInHanded {} Tryd.checked os 3 .any (fun w args => (Rows.hyperMinimalSpec.pre enc Tryd.prog Tryd.f3 Rows.hyperMinimalRow.domain false w args ∧ laidMet Tryd.prog Rows.hyperMinimalRow.laid w) ∧ sizedMet enc Tryd.prog Tryd.f3 (OpenSpec.ofChange Rows.hyperMinimalSpec) false w args)
      (Rows.hyperMinimalSpec.post enc Tryd.prog Tryd.f3 false true false false) := by
  refine returnsInHanded_of_change_and (C := Tryd.checked) (X := fun w _ => laidMet Tryd.prog Rows.hyperMinimalRow.laid w) (fun _ _ _ hh h => h.of_heap hh) ownK started (by kernel_rfl) Tryd.func3
    (ChangeSpec.witness_at (enc := enc) (C := Tryd.checked) (os := os) (X := fun w _ => laidMet Tryd.prog Rows.hyperMinimalRow.laid w) false (laidWorld os) #[.slice none 0 0] 80 rfl (by kernel_rfl) (by kernel_rfl) (by kernel_rfl) (by kernel_rfl) (by kernel_rfl) (laidWorld_met os _)) ?_
  intro W base args ds gs before hval0 hW hD0 hD1 hD2 hD3
  have hval : ∀ (j : Nat) t v, Tryd.f3.params[j]? = some t → args[j]? = some v → Value.okWide Tryd.prog W .any base t v := hval0
  have hW' := hW
  obtain ⟨p, q, hA0, hV, rfl, hfz, hnd⟩ := hW
  have hA : DataW.TrodAll enc Tryd.prog W 0 (fun _ => true) true Tryd.f3.params.toList args.toList ds p := hA0
  rw [Tryd.params3] at hA hval
  obtain ⟨v0, vs0, d0, ds0, p0, q0, hargs, rfl, rfl, h0, r0⟩ := trodAll_cons hA
  obtain ⟨rfl, rfl, rfl⟩ := trodAll_nil r0
  obtain rfl : args = #[v0] := by cases args; simp_all
  obtain ⟨rfl, rfl⟩ := trodVars_none hV
  have lt0 : ∀ x ∈ p0, x.block < W.heap.size := by obtain ⟨m, hm⟩ := h0; exact DataW.trod_lt m _ _ _ hm
  obtain ⟨x0, y0, z0, rfl⟩ := okWide_slice Tryd.underlying22 (hval 0 22 v0 rfl rfl)
  have k0 := h0
  obtain ⟨f0, g0⟩ := h0
  obtain ⟨A0, c0, l0, e0, hc0, hC0, hw0⟩ := open_rowsI (v := .slice x0 y0 z0) g0
  obtain ⟨rfl, rfl, rfl⟩ : x0 = A0 ∧ y0 = l0.length ∧ z0 = c0 := by simpa using e0
  obtain ⟨k, hk⟩ := P l0 hw0 hC0.2.1
  have hTab : Lib.TabIs Tryd.prog W "internal/strconv.uint64pow10" .u64 Lib.pow10Tab := laid_pow10 hD2
  refine (Hy.cleanselaw27_HyperMinimal.calls k x0 z0 l0 true W hC0 hc0 hTab hk).mono fun e W' ⟨he, bel⟩ => ?_
  subst he
  exact ⟨_, rfl, _, _, _, [], _, [], hW', trodAll_mk1 (shut_bool Tryd.underlying4 _), trodAll_cons_mk (Below.trod laidOut (by kernel_rfl) (of_decide_eq_true (by kernel_rfl)) k0 bel lt0) trodAll_mk0, rfl, bel.frame _, fun h => by cases h⟩
end Go.Proofs.YtgjbnmobhafajaaDoor
end
