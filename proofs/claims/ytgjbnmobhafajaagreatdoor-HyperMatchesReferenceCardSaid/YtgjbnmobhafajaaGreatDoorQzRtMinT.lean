/- The texts of this claim, RtMinT. -/
import Derived.Test.YtgjbnmobhafajaaGreatDoorQzME
section
namespace Go.Proofs.YtgjbnmobhafajaaGreatDoor
open Go Go.RowKit Go.Sort Go.Shelf Go.Proofs.YtgjbnmobhafajaaGreatDoorW.PrintWords Go.Proofs.YtgjbnmobhafajaaGreatDoorW.PrintLast
def hyper_MinimalT.f (l0 : List (List Int)) : Option (List (List Int)) :=
  if l0.length ≤ 1048576 ∧ (∀ x ∈ l0, x.length ≤ 1048576) ∧ (∀ x ∈ l0, ∀ y ∈ x, -9223372036854775808 ≤ y ∧ y ≤ 9223372036854775807) then some (Hyp.minimal l0) else none
theorem hyper_MinimalT.calls {w0 : World} (hTab : Lib.TabIs Tryz.prog w0 "internal/strconv.uint64pow10" .u64 Lib.pow10Tab) (A0 : Option Addr) (c0 : Nat) (l0 : List (List Int)) (r : List (List Int)) (w : World) (hr0 : Kd.C (Kd.slice 3 (Kd.int .i64)) w A0 l0.length l0) (hc0 : l0.length ≤ c0) (h : hyper_MinimalT.f l0 = some r) (hb0 : Below w0.heap.size w0 w) :
    Calls Tryz.prog 18 #[.slice A0 l0.length c0] w fun e w' => ∃ v0_ : Value, e = .returned (v0_) ∧ Kd.S (Kd.slice 3 (Kd.int .i64)) 22 w' w.heap.size (fun _ => True) v0_ r ∧ Below w.heap.size w w' := by
  unfold hyper_MinimalT.f at h
  split at h
  · rename_i hc
    obtain ⟨h1, h2, h3⟩ := hc
    cases h
    have hT : ∀ x ∈ l0, TextOk w0 x := fun x hx => .inr ⟨h3 x hx, hTab⟩
    exact hyper_Minimal.gen A0 c0 l0 w hr0 hc0 h1 h2 (fun x hx => (hT x hx).below hb0)
  · cases h
end Go.Proofs.YtgjbnmobhafajaaGreatDoor
end
