/- The texts of this claim, KbOpenU. -/
import Derived.Test.YtgjbnmobhafajaaDoorQsKaOpen
set_option linter.unusedVariables false
set_option linter.unusedSimpArgs false
section
namespace Go.Proofs.YtgjbnmobhafajaaDoor
open Go Go.ChangeShapes Go.WideShapes Go.ChangeAt Go.RowKit Go.Proofs.YtgjbnmobhafajaaDoorW.PrintWords Go.Proofs.YtgjbnmobhafajaaDoorW.PrintLast
variable {H : Type} {enc : TypeId × Value → H}
def WfU (l : List Int) : Prop := ∀ x ∈ l, 0 ≤ x ∧ x ≤ 255
theorem open_rowU {W : World} {fuel : Nat} {v : Value} {x : DataW H × List MemPlace} (h : DataW.trod enc Tryd.prog W 0 (fun _ => true) true fuel 41 [v] = some x) :
    ∃ A c l, v = .slice A l.length c ∧ l.length ≤ c ∧ Kd.C (Kd.int .u8) W A l.length l ∧ WfU l := by
  rcases open_ints Tryd.underlying41 Tryd.underlying5 (by kernel_rfl) h with ⟨hcs, _⟩ | ⟨a, l, c, zs, hcs, _, hl, hm, hz, _, hcell, hwz⟩
  · simp at hcs
    exact ⟨none, 0, [], hcs, Nat.le_refl _, ⟨rfl, by simp, fun h => absurd h (Nat.lt_irrefl 0)⟩, fun x hx => by simp at hx⟩
  · simp at hcs
    have hz' : zs.length = c := by simpa using hz
    have hlen : (zs.take l).length = l := by rw [List.length_take]; omega
    refine ⟨some a, c, zs.take l, by rw [hlen]; exact hcs, by omega, ⟨rfl, by rw [hlen]; unfold maxLen at hm; omega, fun hn => ⟨a, rfl, fun j p hj => ⟨[.int .u8 p], rfl, rfl, fun q u hq => ?_⟩⟩⟩, fun y hy => bounds_u8 (hwz y (List.mem_of_mem_take hy))⟩
    have hlt : j < (zs.take l).length := (List.getElem?_eq_some_iff.1 hj).1
    rw [hlen] at hlt
    rw [List.getElem?_take_of_lt hlt] at hj
    have hc := hcell j (by omega)
    rw [List.getD_eq_getElem?_getD, hj] at hc
    cases q with
    | succ q => simp at hq
    | zero =>
      simp at hq
      subst hq
      rw [show j * (Kd.int .u8).sz + 0 = j from by show j * 1 + 0 = j; omega]
      exact hc
end Go.Proofs.YtgjbnmobhafajaaDoor
end
