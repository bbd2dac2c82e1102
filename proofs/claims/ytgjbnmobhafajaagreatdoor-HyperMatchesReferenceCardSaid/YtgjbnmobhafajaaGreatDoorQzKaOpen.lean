/- The texts of this claim, KaOpen. -/
import Derived.Test.YtgjbnmobhafajaaGreatDoorWWords
import Derived.Test.YtgjbnmobhafajaaGreatDoorWLast
import Derived.Test.YtgjbnmobhafajaaGreatDoorRows
import Derived.Test.YtgjbnmobhafajaaGreatDoorTie
import Derived.WalkKit
import Derived.ProofKit
import Derived.OpenShut
import Derived.Below
import Derived.Deep.Slices
import Derived.Lib.SmallJoins
import Derived.Lib.LaidTab
import Derived.Lib.ItoaNum
import Derived.LaidLaws
import Derived.LaidHandle
import Derived.Handed
import Derived.Deep.DeepLaidRun
import Derived.ChangeVars
import Derived.JoinedOf
import Derived.Stop.LaidErr
section
namespace Go.Proofs.YtgjbnmobhafajaaGreatDoor
open Go Go.ChangeShapes Go.WideShapes Go.ChangeAt Go.RowKit Go.Proofs.YtgjbnmobhafajaaGreatDoorW.PrintWords Go.Proofs.YtgjbnmobhafajaaGreatDoorW.PrintLast
variable {H : Type} {enc : TypeId × Value → H}
def WfL (l : List Int) : Prop := ∀ x ∈ l, -9223372036854775808 ≤ x ∧ x ≤ 9223372036854775807
theorem open_rowI {W : World} {fuel : Nat} {v : Value} {x : DataW H × List MemPlace} (h : DataW.trod enc Tryz.prog W 0 (fun _ => true) true fuel 22 [v] = some x) :
    ∃ A c l, v = .slice A l.length c ∧ l.length ≤ c ∧ Kd.C (Kd.int .i64) W A l.length l ∧ WfL l := by
  rcases open_ints Tryz.underlying22 Tryz.underlying3 (by kernel_rfl) h with ⟨hcs, _⟩ | ⟨a, l, c, zs, hcs, _, hl, hm, hz, _, hcell, hwz⟩
  · simp at hcs
    exact ⟨none, 0, [], hcs, Nat.le_refl _, ⟨rfl, by simp, fun h => absurd h (Nat.lt_irrefl 0)⟩, fun x hx => by simp at hx⟩
  · simp at hcs
    have hz' : zs.length = c := by simpa using hz
    have hlen : (zs.take l).length = l := by rw [List.length_take]; omega
    refine ⟨some a, c, zs.take l, by rw [hlen]; exact hcs, by omega, ⟨rfl, by rw [hlen]; unfold maxLen at hm; omega, fun hn => ⟨a, rfl, fun j p hj => ⟨[.int .i64 p], rfl, rfl, fun q u hq => ?_⟩⟩⟩, fun y hy => bounds_i64 (hwz y (List.mem_of_mem_take hy))⟩
    have hlt : j < (zs.take l).length := (List.getElem?_eq_some_iff.1 hj).1
    rw [hlen] at hlt
    rw [List.getElem?_take_of_lt hlt] at hj
    have hc := hcell j (by omega)
    rw [List.getD_eq_getElem?_getD, hj] at hc
    cases q with
    | succ q => simp at hq
    | zero =>
      simp at hq
      subst hq
      rw [show j * (Kd.int .i64).sz + 0 = j from by show j * 1 + 0 = j; omega]
      exact hc
theorem open_rowsI {W : World} {fuel : Nat} {v : Value} {x : DataW H × List MemPlace} (h : DataW.trod enc Tryz.prog W 0 (fun _ => true) true fuel 23 [v] = some x) :
    ∃ A c l, v = .slice A l.length c ∧ l.length ≤ c ∧ Kd.C (Kd.slice 3 (Kd.int .i64)) W A l.length l ∧ ∀ e ∈ l, WfL e := by
  rcases Deep.open_slice1 Tryz.underlying23 (by kernel_rfl) h with ⟨hcs, _⟩ | ⟨a, len, cap, m, n, V, D, Pl, hcs, _, hl, hm, hmm, _, hx⟩
  · simp at hcs
    exact ⟨none, 0, [], hcs, Nat.le_refl _, ⟨rfl, by simp, fun h => absurd h (Nat.lt_irrefl 0)⟩, fun x hx => by simp at hx⟩
  · simp at hcs
    have hmc : len ≤ m := by rw [hmm]; simpa using hl
    have hall : ∀ i, i < len → ∃ A c l, V i = .slice A l.length c ∧ l.length ≤ c ∧ Kd.C (Kd.int .i64) W A l.length l ∧ WfL l := fun i hi => open_rowI (hx i (by omega)).2
    have hf : ∃ f : Nat → List Int, ∀ i, i < len → ∃ A c, V i = .slice A (f i).length c ∧ (f i).length ≤ c ∧ Kd.C (Kd.int .i64) W A (f i).length (f i) ∧ WfL (f i) := by
      refine ⟨fun i => if h : i < len then Classical.choose (Classical.choose_spec (Classical.choose_spec (hall i h))) else [], fun i hi => ?_⟩
      have := Classical.choose_spec (Classical.choose_spec (Classical.choose_spec (hall i hi)))
      simp only [dif_pos hi]
      exact ⟨_, _, this⟩
    obtain ⟨f, hf⟩ := hf
    have hlen : ((List.range len).map f).length = len := by simp
    refine ⟨some a, cap, (List.range len).map f, by rw [hlen]; exact hcs, by omega, ⟨rfl, by rw [hlen]; unfold maxLen at hm; omega, fun hn => ⟨a, rfl, fun j p hj => ?_⟩⟩, fun e he => ?_⟩
    · have hlt : j < ((List.range len).map f).length := (List.getElem?_eq_some_iff.1 hj).1
      rw [hlen] at hlt
      have hp : f j = p := by
        rw [List.getElem?_map, List.getElem?_range hlt] at hj
        simpa using hj
      obtain ⟨A, c, h1, h2, h3, _⟩ := hf j hlt
      rw [hp] at h1 h2 h3
      refine ⟨[V j], rfl, ⟨A, c, by rw [h1], h2, h3⟩, fun q u hq => ?_⟩
      cases q with
      | succ q => simp at hq
      | zero =>
        simp at hq
        subst hq
        rw [show j * (Kd.slice 3 (Kd.int .i64)).sz + 0 = j from by show j * 1 + 0 = j; omega]
        exact (hx j (by omega)).1
    · obtain ⟨j, hj, rfl⟩ := List.mem_map.1 he
      obtain ⟨_, _, _, _, _, h4⟩ := hf j (List.mem_range.1 hj)
      exact h4
set_option linter.constructorNameAsVariable false
set_option maxRecDepth 1000000 in
theorem open_graphI {W : World} {base : Nat} {v : Value} {d : DataW H} {p : List MemPlace} (hv : Value.okWide Tryz.prog W .any base 25 v) (h : DataW.Trod enc Tryz.prog W 0 (fun _ => true) true 25 v d p) :
    ∃ n A1 c1 l1 A2 c2 l2, v = .agg #[.int .i64 n, .slice A1 l1.length c1, .slice A2 l2.length c2] ∧ (-9223372036854775808 ≤ n ∧ n ≤ 9223372036854775807) ∧ l1.length ≤ c1 ∧ Kd.C (Kd.int .i64) W A1 l1.length l1 ∧ WfL l1 ∧ l2.length ≤ c2 ∧ Kd.C (Kd.slice 3 (Kd.int .i64)) W A2 l2.length l2 ∧ ∀ e ∈ l2, WfL e := by
  obtain ⟨v0, v1, v2, y0, y1, y2, n, rfl, _, _, h0, h1, h2⟩ := Joins.open_agg3 Tryz.underlying25 (by kernel_rfl) (by kernel_rfl) hv h
  obtain ⟨A1, c1, l1, rfl, hc1, hC1, hw1⟩ := open_rowI h1
  obtain ⟨A2, c2, l2, rfl, hc2, hC2, hw2⟩ := open_rowsI h2
  obtain ⟨s, hcs, _, hw0⟩ := DataW.trod_int Tryz.underlying3 h0
  simp at hcs
  subst hcs
  exact ⟨s, A1, c1, l1, A2, c2, l2, rfl, bounds_i64 hw0, hc1, hC1, hw1, hc2, hC2, hw2⟩
def laidList : List (String × DataW Unit) := [("math/bits.deBruijn32tab", Rows.laid_math_bits_deBruijn32tab), ("math/bits.deBruijn64tab", Rows.laid_math_bits_deBruijn64tab), ("internal/strconv.uint64pow10", Rows.laid_internal_strconv_uint64pow10)]
def litsOf : DataW Unit → List Value
  | .agg ds => ds.map fun d => match d with | .lit (.int k z) => Value.int k z | _ => .slice none 0 0
  | _ => []
noncomputable def laidWorld (os : Os) : World :=
  let w0 := World.holding Tryz.prog os ⟨#[], #[], []⟩
  let put := fun (d : DataW Unit) (o : Obj) => match o with
      | .cells _ t frozen => Obj.cells (litsOf d).toArray t frozen
      | o => o
  { w0 with heap := ((w0.heap.modify 0 (put Rows.laid_internal_strconv_uint64pow10)).modify 1 (put Rows.laid_math_bits_deBruijn32tab)).modify 2 (put Rows.laid_math_bits_deBruijn64tab) }
set_option maxRecDepth 1000000 in
theorem laidWorld_met (os : Os) (args : Array Value) : laidMet Tryz.prog laidList ((laidWorld os).forCall (fun _ _ => 0) ⟨#[], args, []⟩).memory :=
  laidMet_of_run3 80 (by kernel_rfl) (by kernel_rfl) (by kernel_rfl)
theorem ownK : ownKnob Tryz.prog.godebug = none := by kernel_rfl
theorem laidOut : laidOutB Tryz.prog = true := by kernel_rfl
theorem laid_pow10 {w : World} (h : laidMet Tryz.prog laidList w) : Lib.TabIs Tryz.prog w "internal/strconv.uint64pow10" .u64 Lib.pow10Tab := Lib.tabIs_of_head (show Tryz.prog.globalNamed "internal/strconv.uint64pow10" = some 0 by kernel_rfl) (show (Tryz.prog.globals[0]?).map (·.type) = some 109 by kernel_rfl) (show Tryz.prog.underlying 109 = some (.array 20 83) by kernel_rfl) (by kernel_rfl) (by kernel_rfl) (by kernel_rfl) h.tail.tail
end Go.Proofs.YtgjbnmobhafajaaGreatDoor
end
