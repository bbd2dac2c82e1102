/- The texts of this claim, SfMat. -/
import Derived.Test.YtgjbnmobhafajaaGreatDoorQzSaValid
import Derived.Test.YtgjbnmobhafajaaGreatDoorQzRtMinT
section
namespace Go.Proofs.YtgjbnmobhafajaaGreatDoor
open Go Go.RowKit Go.Sort Go.Shelf Go.Proofs.YtgjbnmobhafajaaGreatDoorW.PrintWords Go.Proofs.YtgjbnmobhafajaaGreatDoorW.PrintLast
theorem Hyp.make_few {n : Int} {cost : List Int} {es : List (List Int)} {r1 : Int} {r2 : List Int} {r3 : List (List Int)} {r4 : Int} (h : Hyp.makeF n cost es = (r1, r2, r3, r4)) (he : ∀ e ∈ es, e.length ≤ 10) : r2.length ≤ cost.length ∧ r3.length ≤ es.length ∧ ∀ e ∈ r3, e.length ≤ 10 := by
  unfold Hyp.makeF at h
  have ml := Hyp.minimal_len es
  split at h
  · split at h
    · cases h; exact ⟨by simp, by simp, fun e he => by simp at he⟩
    · cases h
      refine ⟨Nat.le_refl _, ml, fun e h => ?_⟩
      obtain ⟨x, hx, _, rfl⟩ := Hyp.minimal_from h
      have := he x hx
      have := Hyp.setOf_le x
      omega
  · cases h; exact ⟨by simp, by simp, fun e he => by simp at he⟩
theorem Hyp.part_few {n : Int} {cost : List Int} {es : List (List Int)} {vs : List Int} {r1 : Int} {r2 : List Int} {r3 : List (List Int)} {r4 : Int} (h : Hyp.partF n cost es vs = (r1, r2, r3, r4)) (he : ∀ e ∈ es, e.length ≤ 10) : r2.length ≤ vs.length ∧ r3.length ≤ es.length ∧ ∀ e ∈ r3, e.length ≤ 10 := by
  unfold Hyp.partF at h
  split at h
  · cases h
    refine ⟨by simp [Hyp.costsOf], by unfold Hyp.partE; rw [List.length_map]; exact List.length_filter_le _ _, fun e h => ?_⟩
    obtain ⟨x, hx, rfl⟩ := List.mem_map.1 h
    rw [List.length_map]
    exact he x (List.mem_filter.1 hx).1
  · cases h; exact ⟨by simp, by simp, fun e he => by simp at he⟩
theorem Hyp.comps_few (n : Nat) (es : List (List Int)) : (Hyp.components n es).length ≤ n ∧ ∀ e ∈ Hyp.components n es, e.length ≤ n := by
  unfold Hyp.components
  split
  · rename_i h
    generalize Classical.choose h = r
    unfold Hyp.compsUp Hyp.rootsUp
    refine ⟨by rw [List.length_map]; have := List.length_filter_le (fun t => r t == t) (List.range n); simpa using this, fun e he => ?_⟩
    obtain ⟨t, _, rfl⟩ := List.mem_map.1 he
    unfold Hyp.group
    rw [List.length_map]
    have := List.length_filter_le (fun x => r x == t) (List.range n)
    simpa using this
  · exact ⟨by simp, fun e he => by simp at he⟩
structure GBox (W : World) (G : Nat) (n : Int) (A : Option Addr) (c : Nat) (l : List Int) (A' : Option Addr) (c' : Nat) (es : List (List Int)) : Prop where
  at_ : GraphAt W G n (.slice A l.length c) (.slice A' es.length c')
  c1 : l.length ≤ c
  c2 : es.length ≤ c'
  r1 : Kd.C (Kd.int .i64) W A l.length l
  r2 : Kd.C (Kd.slice 3 (Kd.int .i64)) W A' es.length es
theorem GBox.below {W W' : World} {G : Nat} {n : Int} {A A' : Option Addr} {c c' : Nat} {l : List Int} {es : List (List Int)} (h : GBox W G n A c l A' c' es) (hb : Below W.heap.size W W') : GBox W' G n A c l A' c' es :=
  ⟨h.at_.below hb, h.c1, h.c2, Kd.C_below h.r1 hb, Kd.C_below h.r2 hb⟩
structure LRow (W : World) (A : Option Addr) (c : Nat) (l : List Int) : Prop where
  c1 : l.length ≤ c
  r1 : Kd.C (Kd.int .i64) W A l.length l
theorem LRow.below {W W' : World} {A : Option Addr} {c : Nat} {l : List Int} (h : LRow W A c l) (hb : Below W.heap.size W W') : LRow W' A c l := ⟨h.c1, Kd.C_below h.r1 hb⟩
structure LRows (W : World) (A : Option Addr) (c : Nat) (l : List (List Int)) : Prop where
  c1 : l.length ≤ c
  r1 : Kd.C (Kd.slice 3 (Kd.int .i64)) W A l.length l
theorem LRows.below {W W' : World} {A : Option Addr} {c : Nat} {l : List (List Int)} (h : LRows W A c l) (hb : Below W.heap.size W W') : LRows W' A c l := ⟨h.c1, Kd.C_below h.r1 hb⟩
structure Came (wb W : World) : Prop where
  b : Below wb.heap.size wb W
theorem Came.below {wb W W' : World} (h : Came wb W) (hb : Below W.heap.size W W') : Came wb W' := ⟨h.b.trans (hb.mono h.b.size)⟩
theorem GBox.stored {W w3 : World} {G : Nat} (hG : W.heap.size ≤ G) (hb : Below W.heap.size W w3) (hbox : w3.heap[G]? = some (.cells #[.int .i64 0, .slice none 0 0, .slice none 0 0] 25 (0, 0))) (n : Int) {A A' : Option Addr} {c c' : Nat} {l : List Int} {es : List (List Int)} (h1 : LRow W A c l) (h2 : LRows W A' c' es) :
    ∃ w5, w5 = ((w3.setCell ⟨G, 0, none⟩ (.int .i64 n)).setCell ⟨G, 1, none⟩ (.slice A l.length c)).setCell ⟨G, 2, none⟩ (.slice A' es.length c') ∧ GBox w5 G n A c l A' c' es ∧ Below W.heap.size W w5 := by
  obtain ⟨hGA, hbA⟩ := graph_stored hG hb hbox n (.slice A l.length c) (.slice A' es.length c')
  exact ⟨_, rfl, ⟨hGA, h1.c1, h2.c1, Kd.C_below h1.r1 hbA, Kd.C_below h2.r1 hbA⟩, hbA⟩
theorem drawn_below {w w' : World} (h : Drawn0 w w') : Below w.heap.size w w' := by
  obtain ⟨n, rfl⟩ := h
  exact pw_below_drewN (Below.refl _ _) n
end Go.Proofs.YtgjbnmobhafajaaGreatDoor
end
