/- The texts of this claim, SiFixed. -/
import Derived.Test.YtgjbnmobhafajaaGreatDoorQzSaFixed
section
namespace Go.Proofs.YtgjbnmobhafajaaGreatDoor
open Go Go.RowKit Go.Sort Go.Shelf Go.Proofs.YtgjbnmobhafajaaGreatDoorW.PrintWords Go.Proofs.YtgjbnmobhafajaaGreatDoorW.PrintLast
def cleanseref27_Fixed.f (a0_0 : Int) (l0_1 : List Int) (l0_2 : List (List Int)) : Option (List Int × List Int) :=
  if a0_0 ≤ 1000 ∧ l0_1.length ≤ 1000 ∧ l0_2.length ≤ 1000 ∧ (∀ x ∈ l0_2, x.length ≤ 1000) then some (Hyp.fixedF a0_0 l0_1 l0_2) else none
theorem cleanseref27_Fixed.calls (a0_0 : Int) (A0_1 : Option Addr) (c0_1 : Nat) (l0_1 : List Int) (A0_2 : Option Addr) (c0_2 : Nat) (l0_2 : List (List Int)) (r1 : List Int) (r2 : List Int) (w : World) (hr0_1 : Kd.C (Kd.int .i64) w A0_1 l0_1.length l0_1) (hc0_1 : l0_1.length ≤ c0_1) (hr0_2 : Kd.C (Kd.slice 3 (Kd.int .i64)) w A0_2 l0_2.length l0_2) (hc0_2 : l0_2.length ≤ c0_2) (h : cleanseref27_Fixed.f a0_0 l0_1 l0_2 = some (r1, r2)) :
    Calls Tryz.prog 12 #[.agg #[.int .i64 a0_0, .slice A0_1 l0_1.length c0_1, .slice A0_2 l0_2.length c0_2]] w fun e w' => ∃ v0_ v1_ : Value, e = .returned (.tuple #[v0_, v1_]) ∧ Kd.R (Kd.int .i64) 3 w' w.heap.size (fun k_ => some k_ ≠ (v1_ : Value).ownBlock) v0_ r1 ∧ Kd.R (Kd.int .i64) 3 w' w.heap.size (fun k_ => some k_ ≠ (v0_ : Value).ownBlock) v1_ r2 ∧ Below w.heap.size w w' := by
  unfold cleanseref27_Fixed.f at h
  split at h
  case isFalse => cases h
  rename_i hc
  obtain ⟨K, hK⟩ := Hy.fixed_f a0_0 l0_1 l0_2 hc.1 hc.2.1 hc.2.2.1 hc.2.2.2
  exact Hy.cleanseref27_Fixed.calls K a0_0 A0_1 c0_1 l0_1 A0_2 c0_2 l0_2 r1 r2 w hr0_1 hc0_1 hr0_2 hc0_2 ((hK K (Nat.le_refl _)).trans h)
end Go.Proofs.YtgjbnmobhafajaaGreatDoor
end
