/- The texts of this claim, MD. -/
import Derived.Test.YtgjbnmobhafajaaGreatDoorQzMC
import Derived.RegionTactic
import Derived.ChangeAlike
import Derived.Deep.OwnRows
import Derived.Carry
import Derived.Test.YtgjbnmobhafajaaGreatDoorQzHzSlim
import Derived.Deep.RegionLaw
import Derived.Test.YtgjbnmobhafajaaGreatDoorQzHm
set_option linter.unusedVariables false
set_option linter.unusedSimpArgs false
section
section
namespace Go.Proofs.YtgjbnmobhafajaaGreatDoor
open Go Go.RowKit Go.Sort Go.Shelf Go.Proofs.YtgjbnmobhafajaaGreatDoorW.PrintWords Go.Proofs.YtgjbnmobhafajaaGreatDoorW.PrintLast
structure Hyp.RootIs (up : List Nat) (r : Nat → Nat) : Prop where
  le : ∀ i, i < up.length → up.getD i 0 ≤ i
  fix : ∀ i, i < up.length → up.getD i 0 = i → r i = i
  step : ∀ i, i < up.length → r (up.getD i 0) = r i
theorem Hyp.RootIs.root {up : List Nat} {r : Nat → Nat} (h : Hyp.RootIs up r) : ∀ n i, i < n → i < up.length → r i ≤ i ∧ r (r i) = r i := by
  intro n
  induction n with
  | zero => intro i h; omega
  | succ n ih =>
    intro i hi hl
    have h1 := h.le i hl
    by_cases he : up.getD i 0 = i
    · rw [h.fix i hl he]; exact ⟨Nat.le_refl _, h.fix i hl he⟩
    · obtain ⟨h2, h3⟩ := ih (up.getD i 0) (by omega) (by omega)
      rw [h.step i hl] at h2 h3
      exact ⟨by omega, h3⟩
theorem Hyp.RootIs.rle {up : List Nat} {r : Nat → Nat} (h : Hyp.RootIs up r) {i : Nat} (hi : i < up.length) : r i ≤ i := (h.root (i + 1) i (Nat.lt_succ_self i) hi).1
theorem Hyp.RootIs.rr {up : List Nat} {r : Nat → Nat} (h : Hyp.RootIs up r) {i : Nat} (hi : i < up.length) : r (r i) = r i := (h.root (i + 1) i (Nat.lt_succ_self i) hi).2
theorem getD_set_nat (l : List Nat) (i j v : Nat) : (l.set i v).getD j 0 = if i = j ∧ j < l.length then v else l.getD j 0 := by
  rw [List.getD_eq_getElem?_getD, List.getElem?_set, List.getD_eq_getElem?_getD]
  by_cases h : i = j
  · subst h
    by_cases h2 : i < l.length
    · simp [h2]
    · simp [h2]
  · simp [h]
theorem Hyp.RootIs.halve {up : List Nat} {r : Nat → Nat} (h : Hyp.RootIs up r) {i : Nat} (hi : i < up.length) : Hyp.RootIs (up.set i (up.getD (up.getD i 0) 0)) r := by
  have h1 := h.le i hi
  have h2 := h.le (up.getD i 0) (by omega)
  refine ⟨fun j hj => ?_, fun j hj he => ?_, fun j hj => ?_⟩
  · rw [List.length_set] at hj
    rw [getD_set_nat]
    split
    · rename_i hc; omega
    · exact h.le j hj
  · rw [List.length_set] at hj
    rw [getD_set_nat] at he
    split at he
    · rename_i hc
      obtain ⟨rfl, _⟩ := hc
      exact h.fix i hi (by omega)
    · exact h.fix j hj he
  · rw [List.length_set] at hj
    rw [getD_set_nat]
    split
    · rename_i hc
      obtain ⟨rfl, _⟩ := hc
      rw [h.step _ (by omega), h.step i hi]
    · exact h.step j hj
def Hyp.join (r : Nat → Nat) (M m : Nat) (x : Nat) : Nat := if r x = M then m else r x
theorem Hyp.RootIs.join {up : List Nat} {r : Nat → Nat} (h : Hyp.RootIs up r) {a b : Nat} (ha : a < up.length) (hb : b < up.length) (ra : r a = a) (rb : r b = b) : Hyp.RootIs (up.set (max a b) (min a b)) (Hyp.join r (max a b) (min a b)) := by
  have hM : r (max a b) = max a b := by rcases Nat.le_total a b with h | h <;> simp [Nat.max_eq_right, Nat.max_eq_left, h, ra, rb]
  have hm : r (min a b) = min a b := by rcases Nat.le_total a b with h | h <;> simp [Nat.min_eq_right, Nat.min_eq_left, h, ra, rb]
  have hle : min a b ≤ max a b := by omega
  have hMl : max a b < up.length := by omega
  generalize max a b = M at *
  generalize min a b = m at *
  refine ⟨fun j hj => ?_, fun j hj he => ?_, fun j hj => ?_⟩
  · rw [List.length_set] at hj
    rw [getD_set_nat]
    split
    · rename_i hc; omega
    · exact h.le j hj
  · rw [List.length_set] at hj
    rw [getD_set_nat] at he
    unfold Hyp.join
    split at he
    · rename_i hc
      obtain ⟨rfl, _⟩ := hc
      rw [if_pos hM]; exact he
    · rename_i hc
      have hne : M ≠ j := fun e => hc ⟨e, hj⟩
      rw [h.fix j hj he, if_neg (fun e => hne e.symm)]
  · rw [List.length_set] at hj
    rw [getD_set_nat]
    unfold Hyp.join
    split
    · rename_i hc
      obtain ⟨rfl, _⟩ := hc
      rw [hM, if_pos rfl, hm]
      split
      · rfl
      · rfl
    · rw [h.step j hj]
def upCells (up : List Nat) : Array Value := (up.map fun (x : Nat) => Value.int .i64 (x : Int)).toArray
theorem upCells_get (up : List Nat) (i : Nat) (hi : i < up.length) : (upCells up)[i]? = some (.int .i64 ((up.getD i 0 : Nat) : Int)) := by
  simp [upCells, hi]
theorem upCells_set (up : List Nat) (i v : Nat) : (upCells up).setIfInBounds i (.int .i64 (v : Int)) = upCells (up.set i v) := by
  simp [upCells, List.map_set]
structure UpAt (w : World) (U g : Nat) (up : List Nat) : Prop where
  var : w.cell? ⟨U, 0, none⟩ = some (.slice (some ⟨g, 0, none⟩) up.length up.length)
  blk : w.heap[g]? = some (.cells (upCells up) 3 (0, 0))
theorem UpAt.cell {w : World} {U g : Nat} {up : List Nat} (h : UpAt w U g up) (i : Nat) (hi : i < up.length) : w.cell? ⟨g, i, none⟩ = some (.int .i64 ((up.getD i 0 : Nat) : Int)) ∧ w.frozen? ⟨g, i, none⟩ = false := by
  have hb := h.blk
  constructor
  · unfold World.cell?
    rw [hb]
    exact upCells_get up i hi
  · unfold World.frozen?
    rw [hb]; rfl
theorem UpAt.set {w : World} {U g : Nat} {up : List Nat} (h : UpAt w U g up) (hne : U ≠ g) (i v : Nat) : UpAt (w.setCell ⟨g, i, none⟩ (.int .i64 (v : Int))) U g (up.set i v) := by
  refine ⟨?_, ?_⟩
  · rw [List.length_set, World.cell?_setCell_other _ _ _ _ (by intro e; simp only [Addr.mk.injEq] at e; exact hne e.1.symm)]
    exact h.var
  · rw [setCell_eq]
    unfold mapBlock
    simp only [Array.getElem?_modify, if_true, h.blk, Option.map_some, onCells, upCells_set]
theorem UpAt.drewN {w : World} {U g : Nat} {up : List Nat} (h : UpAt w U g up) (q : Nat) : UpAt (w.drewN q) U g up := ⟨h.var, h.blk⟩
def TopPost (w : World) (U g : Nat) (n : Nat) (r : Nat → Nat) (w' : World) : Prop := ∃ up', up'.length = n ∧ Hyp.RootIs up' r ∧ UpAt w' U g up' ∧ w.grownBy w' (some g) ∧ w'.heap.size = w.heap.size
set_option maxRecDepth 100000 in
set_option maxHeartbeats 2000000 in
theorem top.calls (U g : Nat) (up : List Nat) (r : Nat → Nat) (i : Nat) (hi : i < up.length) (hn : up.length ≤ 1000000) (hne : U ≠ g) (w : World) (hR : Hyp.RootIs up r) (hU : UpAt w U g up) :
    Calls Tryz.prog 39 #[.int .i64 (i : Int), .pointer (some ⟨U, 0, none⟩)] w fun e w' => e = .returned (.int .i64 (r i : Nat)) ∧ TopPost w U g up.length r w' := by
  obtain ⟨n, hnn⟩ : ∃ n, n = up.length := ⟨_, rfl⟩
  obtain ⟨ri, hri⟩ : ∃ x, x = r i := ⟨_, rfl⟩
  rw [← hnn, ← hri]
  rw [← hnn] at hi hn
  have S0 : Hid (TopPost w U g n r w) := Lib.hid ⟨up, hnn.symm, hR, hU, ⟨rfl, rfl, rfl, Nat.le_refl _, fun _ _ _ => rfl⟩, rfl⟩
  have HRI := Lib.hid hri
  clear hR hU hnn hri
  have hmx : Tryz.prog.follows .mixedOrders = true := by kernel_rfl
  go_enter Tryz.func39, Tryz.ntmps39
  go_wp2
  go_loopg [0] i (fun gg s0 wr => ∃ j : Nat, s0 = .int .i64 (j : Int) ∧ j < n ∧ j ≤ gg ∧ Hid (r j = ri) ∧ Hid (TopPost w U g n r wr))
  case atStart => exact ⟨i, rfl, hi, Nat.le_refl _, Lib.hid HRI.out.symm, S0⟩
  case round =>
    clear S0
    obtain ⟨j, rfl, hj, hjg, HJ, S1⟩ := hrel
    obtain ⟨up1, hl1, hR1, hU1, hg1, hs1⟩ := S1.out
    clear S1
    have hvar := hU1.var
    rw [hl1] at hvar
    have hcj := (hU1.cell j (by omega)).1
    have hfj := (hU1.cell j (by omega)).2
    have hle := hR1.le j (by omega)
    have hfix := hR1.fix j (by omega)
    have hstep := hR1.step j (by omega)
    have hcp := (hU1.cell (up1.getD j 0) (by omega)).1
    have hstep2 := hR1.step (up1.getD j 0) (by omega)
    have hle2 := hR1.le (up1.getD j 0) (by omega)
    have HH := Lib.hid (hR1.halve (i := j) (by omega))
    have HUS := Lib.hid (hU1.set hne j (up1.getD (up1.getD j 0) 0))
    have HG := Lib.hid hg1
    have HS := Lib.hid hs1
    have HFIX := Lib.hid hfix
    have HST := Lib.hid hstep
    have HST2 := Lib.hid hstep2
    have HR1 := Lib.hid hR1
    have HU1 := Lib.hid hU1
    have HL1 := Lib.hid hl1
    clear hfix hstep hstep2 hR1 hU1 hg1 hs1 hl1
    obtain ⟨p2, hp2⟩ : ∃ x, x = up1.getD (up1.getD j 0) 0 := ⟨_, rfl⟩
    rw [← hp2] at hcp HH HUS HST2 hle2
    clear hp2
    obtain ⟨p, hp⟩ : ∃ x, x = up1.getD j 0 := ⟨_, rfl⟩
    rw [← hp] at hcj hcp hle HFIX HST HST2 hle2
    clear hp
    by_cases he : p = j
    · have hez : (p : Int) = (j : Int) := by omega
      go_wp2
      go_ret
      refine ⟨?_, up1, HL1.out, HR1.out, HU1.out, HG.out, HS.out⟩
      have := HFIX.out he
      rw [← HJ.out, this]; rfl
    · have hez : ¬ (p : Int) = (j : Int) := by omega
      go_wp2
      go_region
      have hv2 := HUS.out.var
      rw [List.length_set, HL1.out] at hv2
      have hc2 := (HUS.out.cell j (by rw [List.length_set, HL1.out]; exact hj)).1
      rw [getD_set_nat, if_pos ⟨rfl, by rw [HL1.out]; exact hj⟩] at hc2
      have S2 : Hid (TopPost w U g n r (wr.setCell ⟨g, j, none⟩ (.int .i64 (p2 : Int))).drew) := Lib.hid
        ⟨_, by rw [List.length_set]; exact HL1.out, HH.out, ⟨HUS.out.var, HUS.out.blk⟩, ⟨HG.out.os, HG.out.tape, HG.out.output, by show w.heap.size ≤ (wr.setCell _ _).heap.size; simp; rw [HS.out]; exact Nat.le_refl _, fun k hk hne2 => by
          show (wr.setCell _ _).heap[k]? = _
          rw [Below.heap_setCell _ _ _ _ (by intro e; exact hne2 (by rw [e]))]
          exact HG.out.block k hk hne2⟩, by show (wr.setCell _ _).heap.size = _; simp; exact HS.out⟩
      have HJ2 : Hid (r p2 = ri) := Lib.hid (by rw [HST2.out, HST.out, HJ.out])
      clear HUS HH HG HS HR1 HU1 HST HST2 HFIX
      go_wp2
      go_roundg p2
      case measure => omega
      case rel => exact ⟨p2, rfl, by omega, Nat.le_refl _, HJ2, S2⟩
end Go.Proofs.YtgjbnmobhafajaaGreatDoor
end
section
namespace Go.Proofs.YtgjbnmobhafajaaGreatDoor
open Go Go.RowKit Go.Sort Go.Shelf Go.Proofs.YtgjbnmobhafajaaGreatDoorW.PrintWords Go.Proofs.YtgjbnmobhafajaaGreatDoorW.PrintLast
structure Hyp.IsRoot (n : Nat) (edges : List (List Int)) (r : Nat → Nat) : Prop where
  le : ∀ x, x < n → r x ≤ x
  rr : ∀ x, x < n → r (r x) = r x
  con : ∀ e ∈ edges, ∀ x ∈ e, r x.toNat = r (e.getD 0 0).toNat
  cls : ∀ c : Nat → Nat, (∀ e ∈ edges, ∀ x ∈ e, c x.toNat = c (e.getD 0 0).toNat) → ∀ x, x < n → c (r x) = c x
theorem Hyp.IsRoot.unique {n : Nat} {edges : List (List Int)} {r s : Nat → Nat} (h : Hyp.IsRoot n edges r) (k : Hyp.IsRoot n edges s) : ∀ x, x < n → r x = s x := by
  intro x hx
  have h1 := h.cls s k.con x hx
  have h2 := k.cls r h.con x hx
  have h3 := k.le (r x) (Nat.lt_of_le_of_lt (h.le x hx) hx)
  have h4 := h.le (s x) (Nat.lt_of_le_of_lt (k.le x hx) hx)
  omega
structure Hyp.Conn (n : Nat) (edges : List (List Int)) (k j : Nat) (r : Nat → Nat) : Prop where
  done : ∀ e ∈ edges.take k, ∀ x ∈ e, r x.toNat = r (e.getD 0 0).toNat
  cur : ∀ x ∈ (edges.getD k []).take j, r x.toNat = r ((edges.getD k []).getD 0 0).toNat
  cls : ∀ c : Nat → Nat, (∀ e ∈ edges, ∀ x ∈ e, c x.toNat = c (e.getD 0 0).toNat) → ∀ x, x < n → c (r x) = c x
theorem Hyp.Conn.start (n : Nat) (edges : List (List Int)) : Hyp.Conn n edges 0 0 id := ⟨fun e he => by simp at he, fun x hx => by simp at hx, fun c _ x _ => rfl⟩
theorem Hyp.Conn.next {n : Nat} {edges : List (List Int)} {k : Nat} {r : Nat → Nat} (h : Hyp.Conn n edges k (edges.getD k []).length r) (hk : k < edges.length) : Hyp.Conn n edges (k + 1) 0 r := by
  refine ⟨fun e he => ?_, fun x hx => by simp at hx, h.cls⟩
  rw [List.take_succ_eq_append_getElem hk] at he
  rcases List.mem_append.1 he with he | he
  · exact h.done e he
  · simp at he; subst he
    have e1 : edges.getD k [] = edges[k] := by rw [List.getD_eq_getElem?_getD, List.getElem?_eq_getElem hk]; rfl
    have := h.cur
    rw [List.take_length, e1] at this
    exact this
theorem Hyp.Conn.join {n : Nat} {edges : List (List Int)} {k j : Nat} {r : Nat → Nat} (h : Hyp.Conn n edges k j r) (hk : k < edges.length) (hj : j < (edges.getD k []).length) (hin : ∀ x ∈ edges.getD k [], 0 ≤ x ∧ x < (n : Int))
    (rr : ∀ x, x < n → r (r x) = r x) {a b : Nat} (ha : a = r ((edges.getD k []).getD 0 0).toNat) (hb : b = r ((edges.getD k []).getD j 0).toNat) : Hyp.Conn n edges k (j + 1) (Hyp.join r (max a b) (min a b)) := by
  have keep : ∀ x y, r x = r y → Hyp.join r (max a b) (min a b) x = Hyp.join r (max a b) (min a b) y := by
    intro x y e; unfold Hyp.join; rw [e]
  have e1 : edges.getD k [] = edges[k] := by rw [List.getD_eq_getElem?_getD, List.getElem?_eq_getElem hk]; rfl
  have hem : edges.getD k [] ∈ edges := by rw [e1]; exact List.getElem_mem hk
  have hcur := h.cur
  have hdone := h.done
  have hcls := h.cls
  suffices hs : ∀ x ∈ (edges.getD k []).take (j + 1), Hyp.join r (max a b) (min a b) x.toNat = Hyp.join r (max a b) (min a b) ((edges.getD k []).getD 0 0).toNat by
    refine ⟨fun e he x hx => keep _ _ (hdone e he x hx), hs, ?_⟩
    generalize edges.getD k [] = E at *
    have m0 : E.getD 0 0 ∈ E := by rw [Hyp.getD_get E 0 (by omega)]; exact List.getElem_mem _
    have mj : E.getD j 0 ∈ E := by rw [Hyp.getD_get E j hj]; exact List.getElem_mem _
    have i0 := hin _ m0
    have ij := hin _ mj
    intro c hc x hx
    have hca : c a = c b := by
      rw [ha, hb, hcls c hc _ (by omega), hcls c hc _ (by omega)]
      exact (hc _ hem _ mj).symm
    unfold Hyp.join
    split
    · rename_i hm
      have : c (min a b) = c (max a b) := by
        rcases Nat.le_total a b with h | h
        · rw [Nat.max_eq_right h, Nat.min_eq_left h]; exact hca
        · rw [Nat.max_eq_left h, Nat.min_eq_right h]; exact hca.symm
      rw [this, ← hm, hcls c hc x hx]
    · exact hcls c hc x hx
  generalize edges.getD k [] = E at *
  have new : Hyp.join r (max a b) (min a b) (E.getD j 0).toNat = Hyp.join r (max a b) (min a b) (E.getD 0 0).toNat := by
    unfold Hyp.join
    rw [← ha, ← hb]
    rcases Nat.lt_trichotomy a b with h | h | h
    · rw [Nat.max_eq_right (by omega), Nat.min_eq_left (by omega), if_pos rfl, if_neg (by omega)]
    · subst h; rfl
    · rw [Nat.max_eq_left (by omega), Nat.min_eq_right (by omega), if_neg (by omega), if_pos rfl]
  intro x hx
  rw [List.take_succ_eq_append_getElem hj] at hx
  rcases List.mem_append.1 hx with hx | hx
  · exact keep _ _ (hcur x hx)
  · simp at hx; subst hx
    rw [← Hyp.getD_get E j hj]; exact new
def Hyp.rootsUp (r : Nat → Nat) (i : Nat) : List Nat := (List.range i).filter fun t => r t == t
def Hyp.group (r : Nat → Nat) (i t : Nat) : List Int := ((List.range i).filter fun x => r x == t).map fun (x : Nat) => (x : Int)
def Hyp.compsUp (r : Nat → Nat) (i : Nat) : List (List Int) := (Hyp.rootsUp r i).map (Hyp.group r i)
def Hyp.rank (r : Nat → Nat) (t : Nat) : Nat := (Hyp.rootsUp r t).length
def Hyp.placeF (r : Nat → Nat) (i : Nat) (k : Int) : Option Int := if 0 ≤ k ∧ k < i ∧ r k.toNat = k.toNat then some (Hyp.rank r k.toNat : Int) else none
theorem Hyp.group_succ (r : Nat → Nat) (i t : Nat) : Hyp.group r (i + 1) t = Hyp.group r i t ++ if r i = t then [(i : Int)] else [] := by
  unfold Hyp.group
  rw [List.range_succ, List.filter_append, List.map_append]
  congr 1
  by_cases h : r i = t <;> simp [h]
theorem Hyp.rootsUp_succ (r : Nat → Nat) (i : Nat) : Hyp.rootsUp r (i + 1) = Hyp.rootsUp r i ++ if r i = i then [i] else [] := by
  unfold Hyp.rootsUp
  rw [List.range_succ, List.filter_append]
  congr 1
  by_cases h : r i = i <;> simp [h]
theorem Hyp.rootsUp_len (r : Nat → Nat) (i : Nat) : (Hyp.rootsUp r i).length ≤ i := by
  have := List.length_filter_le (fun t => r t == t) (List.range i)
  simpa [Hyp.rootsUp] using this
theorem Hyp.mem_rootsUp {r : Nat → Nat} {i t : Nat} : t ∈ Hyp.rootsUp r i ↔ t < i ∧ r t = t := by simp [Hyp.rootsUp]
theorem Hyp.rootsUp_get {r : Nat → Nat} : ∀ {i t : Nat}, t < i → r t = t → (Hyp.rootsUp r i)[Hyp.rank r t]? = some t := by
  intro i
  induction i with
  | zero => intro t h; omega
  | succ i ih =>
    intro t ht hr
    rw [Hyp.rootsUp_succ]
    by_cases e : t = i
    · subst e
      rw [if_pos hr]
      unfold Hyp.rank
      simp
    · have h := ih (t := t) (by omega) hr
      rw [List.getElem?_append_left (List.getElem?_eq_some_iff.1 h).1]
      exact h
theorem Hyp.compsUp_len (r : Nat → Nat) (i : Nat) : (Hyp.compsUp r i).length = Hyp.rank r i := by simp [Hyp.compsUp, Hyp.rank]
theorem Hyp.compsUp_new {r : Nat → Nat} {i : Nat} (hi : r i = i) (hle : ∀ x, x < i → r x ≤ x) : Hyp.compsUp r (i + 1) = Hyp.compsUp r i ++ [[(i : Int)]] := by
  unfold Hyp.compsUp
  rw [Hyp.rootsUp_succ, if_pos hi, List.map_append]
  congr 1
  · refine List.map_congr_left fun t ht => ?_
    have := (Hyp.mem_rootsUp.1 ht).1
    rw [Hyp.group_succ, if_neg (by omega), List.append_nil]
  · simp only [List.map_singleton, List.cons.injEq, and_true]
    rw [Hyp.group_succ, if_pos hi]
    have : Hyp.group r i i = [] := by
      unfold Hyp.group
      rw [List.map_eq_nil_iff, List.filter_eq_nil_iff]
      intro x hx
      have := List.mem_range.1 hx
      have := hle x this
      simp; omega
    rw [this]; rfl
theorem Hyp.compsUp_old {r : Nat → Nat} {i : Nat} (hi : r i < i) (hrr : r (r i) = r i) : Hyp.rank r (r i) < (Hyp.compsUp r i).length ∧ Hyp.compsUp r (i + 1) = (Hyp.compsUp r i).set (Hyp.rank r (r i)) ((Hyp.compsUp r i).getD (Hyp.rank r (r i)) [] ++ [(i : Int)]) := by
  have hg := Hyp.rootsUp_get (i := i) hi hrr
  obtain ⟨hlt, hge⟩ := List.getElem?_eq_some_iff.1 hg
  refine ⟨by simpa [Hyp.compsUp] using hlt, ?_⟩
  unfold Hyp.compsUp
  rw [Hyp.rootsUp_succ, if_neg (by omega), List.append_nil]
  refine List.ext_getElem (by simp) fun m h1 h2 => ?_
  rw [List.length_map] at h1
  rw [List.getElem_set, List.getElem_map, Hyp.group_succ]
  have hnd : (Hyp.rootsUp r i).Nodup := List.Nodup.sublist List.filter_sublist List.nodup_range
  by_cases hm : Hyp.rank r (r i) = m
  · subst hm
    rw [if_pos rfl, if_pos hge.symm, List.getD_eq_getElem?_getD, List.getElem?_map, hg, hge]
    rfl
  · rw [if_neg hm, List.getElem_map, if_neg, List.append_nil]
    intro e
    rcases Nat.lt_trichotomy (Hyp.rank r (r i)) m with h | h | h
    · exact List.pairwise_iff_getElem.1 hnd _ _ hlt (by simpa using h1) h (hge.trans e)
    · exact hm h
    · exact List.pairwise_iff_getElem.1 hnd _ _ (by simpa using h1) hlt h (hge.trans e).symm
theorem Hyp.compsUp_congr {n : Nat} {r s : Nat → Nat} (h : ∀ x, x < n → r x = s x) : Hyp.compsUp r n = Hyp.compsUp s n := by
  have h1 : Hyp.rootsUp r n = Hyp.rootsUp s n := List.filter_congr fun x hx => by rw [h x (List.mem_range.1 hx)]
  unfold Hyp.compsUp
  rw [h1]
  refine List.map_congr_left fun t _ => ?_
  unfold Hyp.group
  congr 1
  exact List.filter_congr fun x hx => by rw [h x (List.mem_range.1 hx)]
theorem Hyp.placeF_old {r : Nat → Nat} {i t : Nat} (ht : t < i) (hr : r t = t) : Hyp.placeF r i (t : Int) = some (Hyp.rank r t : Int) := by
  unfold Hyp.placeF
  rw [if_pos ⟨by omega, by omega, by simpa using hr⟩]; simp
theorem Hyp.placeF_new (r : Nat → Nat) (i : Nat) : Hyp.placeF r i (i : Int) = none := by
  unfold Hyp.placeF
  rw [if_neg (by omega)]
theorem Hyp.placeF_put {r : Nat → Nat} {i : Nat} (hi : r i = i) : (fun x => if x = (i : Int) then some (Hyp.rank r i : Int) else Hyp.placeF r i x) = Hyp.placeF r (i + 1) := by
  funext x
  unfold Hyp.placeF
  by_cases e : x = (i : Int)
  · subst e
    simp [hi]
    omega
  · rw [if_neg e]
    have : (x < (i : Int) + 1) ↔ (x < (i : Int)) := by omega
    simp only [Int.natCast_add, Int.cast_ofNat_Int, this]
theorem Hyp.placeF_skip {r : Nat → Nat} {i : Nat} (hi : r i ≠ i) : Hyp.placeF r i = Hyp.placeF r (i + 1) := by
  funext x
  unfold Hyp.placeF
  by_cases e : x = (i : Int)
  · subst e
    rw [if_neg (by omega), if_neg (by rintro ⟨_, _, h⟩; exact hi (by simpa using h))]
  · have : (x < (i : Int) + 1) ↔ (x < (i : Int)) := by omega
    simp only [Int.natCast_add, Int.cast_ofNat_Int, this]
structure RowsN (w : World) (base : Nat) (xs : List Row) : Prop where
  own : ∀ x ∈ xs, w.ownsRow base 3 1 x.v x.l.length (nums .i64 x.l)
  apart : xs.Pairwise fun x y => x.v.ownBlock = none ∨ x.v.ownBlock ≠ y.v.ownBlock
theorem RowsN.nil (w : World) (base : Nat) : RowsN w base [] := ⟨fun x hx => by simp at hx, List.Pairwise.nil⟩
theorem RowsN.step {w w1 : World} {base : Nat} {xs : List Row} (h : RowsN w base xs) (hm : ∀ k cells, base ≤ k → k < w.heap.size → w.heap[k]? = some (.cells cells 3 (0, 0)) → w1.heap[k]? = w.heap[k]?) : RowsN w1 base xs := by
  refine ⟨fun x hx => ?_, h.apart⟩
  have ho := h.own x hx
  refine own_move ho (fun k hk => ?_)
  obtain ⟨cells, hc⟩ := own_typed ho k hk
  exact hm k cells (own_base ho k hk) (own_lt ho k hk) hc
theorem RowsN.below {w w1 : World} {base : Nat} {xs : List Row} (h : RowsN w base xs) (hb : Below w.heap.size w w1) : RowsN w1 base xs := h.step (fun k _ _ hk _ => hb.block k hk)
theorem RowsN.snoc_nil {w : World} {base : Nat} {xs : List Row} (h : RowsN w base xs) : RowsN w base (xs ++ [⟨.slice none 0 0, []⟩]) := by
  refine ⟨fun y hy => ?_, List.pairwise_append.2 ⟨h.apart, List.pairwise_singleton _ _, fun y hy z hz => ?_⟩⟩
  · rcases List.mem_append.1 hy with hy | hy
    · exact h.own y hy
    · simp at hy; subst hy; exact own_nil _ _ _ _
  · simp at hz; subst hz
    cases hb : y.v.ownBlock with
    | none => exact .inl rfl
    | some b => exact .inr (by simp [Value.ownBlock])
theorem RowsN.put {W w1 : World} {base : Nat} {xs : List Row} (h : RowsN W base xs) (k : Nat) (hk : k < xs.length) (x' : Row) (ho : w1.ownsRow base 3 1 x'.v x'.l.length (nums .i64 x'.l))
    (hg : W.grownBy w1 xs[k].v.ownBlock) (hat : x'.v.ownBlock = xs[k].v.ownBlock ∨ ∃ b, x'.v.ownBlock = some b ∧ W.heap.size ≤ b) : RowsN w1 base (xs.set k x') := by
  have hap := List.pairwise_iff_getElem.1 h.apart
  have sym : ∀ i j (hi : i < xs.length) (hj : j < xs.length), i ≠ j → xs[i].v.ownBlock = none ∨ xs[i].v.ownBlock ≠ xs[j].v.ownBlock := by
    intro i j hi hj hij
    rcases Nat.lt_or_gt_of_ne hij with hl | hl
    · exact hap i j hi hj hl
    · rcases hap j i hj hi hl with e | e
      · cases hb : xs[i].v.ownBlock with
        | none => exact .inl rfl
        | some b => exact .inr (by rw [e]; simp)
      · exact .inr (fun e2 => e e2.symm)
  refine ⟨fun y hy => ?_, List.pairwise_iff_getElem.2 fun i j hi hj hij => ?_⟩
  · obtain ⟨j, hj, rfl⟩ := List.mem_iff_getElem.1 hy
    rw [List.length_set] at hj
    rw [List.getElem_set]
    split
    · exact ho
    · rename_i hne
      have hoj := h.own _ (List.getElem_mem hj)
      refine own_move hoj (fun b hb => hg.block b (own_lt hoj b hb) (fun e => ?_))
      rcases sym j k hj hk (fun e => hne e.symm) with e2 | e2
      · rw [e2] at hb; cases hb
      · exact e2 (by rw [hb]; exact e)
  · rw [List.length_set] at hi hj
    rw [List.getElem_set, List.getElem_set]
    split
    · rename_i hki
      rw [if_neg (by omega)]
      subst hki
      rcases hat with e | ⟨b, e, hb⟩
      · rw [e]; exact sym k j hi hj (by omega)
      · refine .inr (fun e2 => ?_)
        rw [e] at e2
        have := own_lt (h.own _ (List.getElem_mem hj)) b e2.symm
        omega
    · split
      · rename_i hki hkj
        subst hkj
        rcases hat with e | ⟨b, e, hb⟩
        · rw [e]; exact sym i k hi hj (by omega)
        · cases hc : xs[i].v.ownBlock with
          | none => exact .inl rfl
          | some c =>
            refine .inr (fun e2 => ?_)
            rw [e] at e2
            injection e2 with e2
            have := own_lt (h.own _ (List.getElem_mem hi)) c hc
            omega
      · exact sym i j hi hj (by omega)
theorem RowsN.toS {w : World} {base : Nat} {xs : List Row} {v : Value} (h : RowsN w base xs) (ho : w.ownsRow base 22 1 v xs.length (xs.map Row.v)) : Kd.S (Kd.slice 3 (Kd.int .i64)) 22 w base (fun _ => True) v (xs.map Row.l) := by
  have hf : ∃ f : Nat → Nat, ∀ i x, xs[i]? = some x → ∀ k, x.v.ownBlock = some k → f k = i := by
    refine ⟨fun k => xs.findIdx fun x => x.v.ownBlock == some k, fun i x hi k hk => ?_⟩
    obtain ⟨hlt, rfl⟩ := List.getElem?_eq_some_iff.1 hi
    rw [List.findIdx_eq hlt]
    refine ⟨by simpa using hk, fun j hj => ?_⟩
    rcases List.pairwise_iff_getElem.1 h.apart j i (by omega) hlt hj with e | e
    · rw [e]; simp
    · rw [hk] at e
      simpa using e
  obtain ⟨f, hf⟩ := hf
  refine ⟨f, fun k _ => trivial, xs.map Row.v, by rw [List.length_zipIdx, List.length_map]; exact ho, by show (xs.map Row.v).length = ((xs.map Row.l).zipIdx).length * 1; simp, fun j p hj => ?_⟩
  rw [List.getElem?_zipIdx, List.getElem?_map] at hj
  cases hx : xs[j]? with
  | none => rw [hx] at hj; simp at hj
  | some x =>
    rw [hx] at hj
    simp at hj
    subst hj
    have hlt : j < xs.length := (List.getElem?_eq_some_iff.1 hx).1
    have hxe : xs[j] = x := (List.getElem?_eq_some_iff.1 hx).2
    have ho1 := h.own x (List.mem_of_getElem? hx)
    have hc : ((xs.map Row.v).drop (j * 1)).take 1 = [x.v] := by
      rw [Nat.mul_one, List.drop_eq_getElem_cons (by simpa using hlt)]
      simp [hxe]
    show ∃ v', ((xs.map Row.v).drop (j * 1)).take 1 = [v'] ∧ _
    refine ⟨x.v, hc, ?_⟩
    have hne : ∀ k, x.v.ownBlock = some k → some k ≠ v.ownBlock := by
      intro k hk e
      obtain ⟨c1, h1⟩ := own_typed ho1 k hk
      obtain ⟨c2, h2⟩ := own_typed ho k e.symm
      rw [h1] at h2
      simp at h2
    exact Kd.R_of_own (enc := Value.int .i64) ho1 (fun k hk => ⟨⟨trivial, hne k hk⟩, hf j x hx k hk⟩)
theorem own_set {w : World} {base g n cap : Nat} {e : TypeId} {ys : List Value} (h : w.ownsRow base e 1 (.slice (some ⟨g, 0, none⟩) n cap) n ys) (k : Nat) (hk : k < n) (v : Value) : (w.setCell ⟨g, k, none⟩ v).ownsRow base e 1 (.slice (some ⟨g, 0, none⟩) n cap) n (ys.set k v) := by
  obtain ⟨_, _, hb, hn, hm, hl, cur, hh, hc, ht⟩ := own_block h
  refine ⟨by simp [hl], .inr ⟨g, cap, cur.setIfInBounds k v, rfl, hb, ?_, hn, hm, by simp [hc], ?_⟩⟩
  · rw [setCell_eq]
    unfold mapBlock
    simp only [Array.getElem?_modify, if_true, hh, Option.map_some, onCells]
  · rw [Nat.mul_one, Array.toList_setIfInBounds, List.take_set, ht]
end Go.Proofs.YtgjbnmobhafajaaGreatDoor
end
section
namespace Go.Proofs.YtgjbnmobhafajaaGreatDoor
open Go Go.RowKit Go.Sort Go.Shelf Go.Proofs.YtgjbnmobhafajaaGreatDoorW.PrintWords Go.Proofs.YtgjbnmobhafajaaGreatDoorW.PrintLast
attribute [local go_sem] max2_int min2_int max_two min_two
open Classical in
noncomputable def Hyp.components (n : Nat) (edges : List (List Int)) : List (List Int) := if h : ∃ r, Hyp.IsRoot n edges r then Hyp.compsUp (Classical.choose h) n else []
theorem Hyp.components_eq {n : Nat} {edges : List (List Int)} {r : Nat → Nat} (h : Hyp.IsRoot n edges r) : Hyp.components n edges = Hyp.compsUp r n := by
  have hex : ∃ r, Hyp.IsRoot n edges r := ⟨r, h⟩
  unfold Hyp.components
  rw [dif_pos hex]
  exact Hyp.compsUp_congr ((Classical.choose_spec hex).unique h)
noncomputable def hyper_Components.f (a0_0 : Int) (l0_1 : List Int) (l0_2 : List (List Int)) : Option (List (List Int)) :=
  if a0_0 ≤ 100 ∧ l0_2.length ≤ 1048576 ∧ ∀ x ∈ l0_2, x.length ≤ 1048576 then some (if Hyp.validB a0_0 l0_1 l0_2 = true then Hyp.components a0_0.toNat l0_2 else []) else none
theorem Hyp.valid_parts {n : Int} {cost : List Int} {edges : List (List Int)} (h : Hyp.validB n cost edges = true) :
    0 ≤ n ∧ n ≤ 4000 ∧ (cost.length : Int) = n ∧ (∀ c ∈ cost, Hyp.badCost c = false) ∧ edges.length ≤ 20000 ∧ (∀ e ∈ edges, e ≠ [] ∧ (∀ x ∈ e, 0 ≤ x ∧ x < n) ∧ Hyp.Inc e) ∧ Hyp.minimal edges = edges := by
  unfold Hyp.validB Hyp.weighedB at h
  simp only [Bool.and_eq_true, decide_eq_true_eq, Bool.not_eq_true', List.any_eq_false, List.all_eq_true, beq_iff_eq] at h
  obtain ⟨⟨⟨⟨⟨⟨h1, h2⟩, h3⟩, h4⟩, h5⟩, h6⟩, h7⟩ := h
  refine ⟨h1, h2, h3, fun c hc => by simpa using h4 c hc, h5, fun e he => ?_, h7⟩
  obtain ⟨h8, h9⟩ := h6 e he
  obtain ⟨h10, h11⟩ := (Hyp.isSetB_iff e n).1 h9
  exact ⟨by intro e0; rw [e0] at h8; simp at h8, h10, h11⟩
theorem infoInt : (Tryz.prog.info? 3).map (fun i => (i.zero, i.size, i.bytes)) = some (some (.int .i64 0), 1, 8) := by kernel_rfl
theorem made_up (n : Nat) : madeCells #[Value.int .i64 0] n = upCells (List.replicate n 0) := by
  refine Array.ext (by simp [madeCells, upCells]) fun i h1 h2 => ?_
  simp [madeCells, upCells, Nat.mod_one]
def Hold (p : Prop) : Prop := p
theorem hold_here {p : Prop} (h : Hold p) : p := h
theorem hold_out {p : Prop} (h : p) : Hold p := h
def CompA (wb w1 : World) (n k : Nat) (W : World) : Prop := UpAt W (w1.heap.size + 1) w1.heap.size ((List.range n).map fun i => if i < k then i else 0) ∧ Below wb.heap.size wb W ∧ w1.heap.size + 2 ≤ W.heap.size
def CompB (wb w1 : World) (n : Nat) (edges : List (List Int)) (k j : Nat) (W : World) : Prop :=
  ∃ up r, up.length = n ∧ Hyp.RootIs up r ∧ Hyp.Conn n edges k j r ∧ UpAt W (w1.heap.size + 1) w1.heap.size up ∧ Below wb.heap.size wb W ∧ w1.heap.size + 2 ≤ W.heap.size
def CompC (wb w1 wC : World) (n : Nat) (r : Nat → Nat) (i : Nat) (v : Value) (W : World) : Prop :=
  ∃ up xs nm, up.length = n ∧ Hyp.RootIs up r ∧ UpAt W (w1.heap.size + 1) w1.heap.size up ∧ xs.map Row.l = Hyp.compsUp r i ∧ W.ownsRow (wC.heap.size + 1) 22 1 v xs.length (xs.map Row.v) ∧ RowsN W (wC.heap.size + 1) xs ∧
    Places W wC.heap.size nm (Hyp.placeF r i) ∧ nm ≤ i ∧ Below wb.heap.size wb W ∧ wC.heap.size + 1 ≤ W.heap.size
theorem range_if (n k : Nat) (hk : k < n) : ((List.range n).map fun i => if i < k then i else 0).set k k = (List.range n).map fun i => if i < k + 1 then i else 0 := by
  refine List.ext_getElem (by simp) fun i h1 h2 => ?_
  simp at h1
  rw [List.getElem_set]
  simp only [List.getElem_map, List.getElem_range]
  split
  · rename_i h; subst h; rw [if_pos (by omega)]
  · rename_i h
    by_cases hi : i < k
    · rw [if_pos hi, if_pos (by omega)]
    · rw [if_neg hi, if_neg (by omega)]
theorem range_root (n : Nat) : Hyp.RootIs ((List.range n).map fun i => if i < n then i else 0) id := by
  have hg : ∀ i, i < n → ((List.range n).map fun i => if i < n then i else 0).getD i 0 = i := fun i hi => by
    rw [List.getD_eq_getElem?_getD, List.getElem?_eq_getElem (by simpa using hi)]; simp [hi]
  refine ⟨fun i hi => ?_, fun i hi _ => rfl, fun i hi => ?_⟩
  · rw [hg i (by simpa using hi)]; exact Nat.le_refl _
  · rw [hg i (by simpa using hi)]
theorem UpAt.step {W W' : World} {U g : Nat} {up : List Nat} (h : UpAt W U g up) (h1 : W'.heap[U]? = W.heap[U]?) (h2 : W'.heap[g]? = W.heap[g]?) : UpAt W' U g up := ⟨(cell_same h1).trans h.var, h2.trans h.blk⟩
theorem UpAt.lt {W : World} {U g : Nat} {up : List Nat} (h : UpAt W U g up) : U < W.heap.size ∧ g < W.heap.size := ⟨World.block_lt_of_cell? _ _ h.var, (Array.getElem?_eq_some_iff.1 h.blk).1⟩
def CompD (wb w1 wC : World) (n : Nat) (r : Nat → Nat) (i k : Nat) (v : Value) (W : World) : Prop :=
  ∃ up xs nm, up.length = n ∧ Hyp.RootIs up r ∧ UpAt W (w1.heap.size + 1) w1.heap.size up ∧ (k < xs.length ∧ (xs.map Row.l).set k ((xs.map Row.l).getD k [] ++ [(i : Int)]) = Hyp.compsUp r (i + 1) ∧ ((xs.map Row.l).getD k []).length ≤ i) ∧ W.ownsRow (wC.heap.size + 1) 22 1 v xs.length (xs.map Row.v) ∧ RowsN W (wC.heap.size + 1) xs ∧
    Places W wC.heap.size nm (Hyp.placeF r (i + 1)) ∧ nm ≤ i + 1 ∧ Below wb.heap.size wb W ∧ wC.heap.size + 1 ≤ W.heap.size
theorem CompD.row {wb w1 wC : World} {n : Nat} {r : Nat → Nat} {i k : Nat} {v : Value} {W : World} (h : CompD wb w1 wC n r i k v W) (hw1 : w1.heap.size + 2 ≤ wC.heap.size) (hwb : wb.heap.size ≤ w1.heap.size) :
    ∃ gO m cap u l, v = .slice (some ⟨gO, 0, none⟩) m cap ∧ k < m ∧ m ≤ cap ∧ W.cell? ⟨gO, k, none⟩ = some u ∧ (∃ A c, u = .slice A l.length c) ∧ W.frozen? ⟨gO, k, none⟩ = false ∧ l.length ≤ i ∧ gO < W.heap.size ∧
      Kd.R (Kd.int .i64) 3 W (wC.heap.size + 1) (fun _ => True) u l ∧ Below wb.heap.size wb W ∧ wC.heap.size + 1 ≤ W.heap.size ∧
      ∀ v2 w2, Kd.R (Kd.int .i64) 3 w2 (wC.heap.size + 1) (fun _ => True) v2 (l ++ [(i : Int)]) → W.grownBy w2 u.ownBlock → (v2.ownBlock = u.ownBlock ∨ ∃ b, v2.ownBlock = some b ∧ W.heap.size ≤ b) →
        ∃ u2, w2.cell? ⟨gO, k, none⟩ = some u2 ∧ w2.frozen? ⟨gO, k, none⟩ = false ∧ CompC wb w1 wC n r (i + 1) v (w2.setCell ⟨gO, k, none⟩ v2) := by
  obtain ⟨up, xs, nm, hul, hRI, hUP, ⟨hk, hset, hlen⟩, hown, hrows, hpl, hnm, hbel, hsz⟩ := h
  rcases own_nil_or hown with ⟨_, hn0, _⟩ | ⟨gO, cap, rfl⟩
  · omega
  have hkl : (xs.map Row.l).getD k [] = xs[k].l := by rw [List.getD_eq_getElem?_getD, List.getElem?_map, List.getElem?_eq_getElem hk]; rfl
  rw [hkl] at hset hlen
  have hok := hrows.own _ (List.getElem_mem hk)
  obtain ⟨hcell, hfr⟩ := own_cells hown k (by simpa using hk)
  rw [List.getElem_map, Nat.zero_add] at hcell
  rw [Nat.zero_add] at hfr
  have hcap := (own_block hown).2.2.2.1
  have hglt := own_lt hown gO rfl
  have hgb := own_base hown gO rfl
  refine ⟨gO, xs.length, cap, xs[k].v, xs[k].l, rfl, hk, hcap, hcell, own_slice hok, hfr, hlen, hglt, Kd.R_of_own (enc := Value.int .i64) hok (fun _ _ => trivial), hbel, hsz, ?_⟩
  intro v2 w2 hR2 hg2 hat
  have hne : some gO ≠ xs[k].v.ownBlock := by
    intro e
    obtain ⟨c1, h1⟩ := own_typed hok gO e.symm
    obtain ⟨c2, h2⟩ := own_typed hown gO rfl
    rw [h1] at h2
    simp at h2
  have hbk : ∀ q, xs[k].v.ownBlock = some q → wC.heap.size + 1 ≤ q := fun q hq => own_base hok q hq
  have hold : ∀ q, q < wC.heap.size + 1 → w2.heap[q]? = W.heap[q]? := fun q hq => hg2.block q (by omega) (fun e => by have := hbk q e.symm; omega)
  have hown2 := own_move hown (fun q hq => by have e : gO = q := by simpa [Value.ownBlock] using hq
                                              subst e; exact hg2.block _ hglt hne)
  obtain ⟨hc2, hf2⟩ := own_cells hown2 k (by simpa using hk)
  rw [Nat.zero_add] at hc2 hf2
  have holdS : ∀ q, q < wC.heap.size + 1 → (w2.setCell ⟨gO, k, none⟩ v2).heap[q]? = w2.heap[q]? := fun q hq => Below.heap_setCell _ _ _ _ (by show q ≠ gO; omega)
  obtain ⟨hU, hG⟩ := hUP.lt
  refine ⟨_, hc2, hf2, up, xs.set k ⟨v2, xs[k].l ++ [(i : Int)]⟩, nm, hul, hRI, ?_, ?_, ?_, ?_, ?_, by omega, ?_, ?_⟩
  · exact (hUP.step (hold _ (by omega)) (hold _ (by omega))).step (holdS _ (by omega)) (holdS _ (by omega))
  · rw [List.map_set]; exact hset
  · rw [List.map_set, List.length_set]; exact own_set hown2 k hk v2
  · have hr2 := hrows.put k hk ⟨v2, xs[k].l ++ [(i : Int)]⟩ (R_int hR2) hg2 hat
    obtain ⟨c2, h2⟩ := own_typed hown2 gO rfl
    refine hr2.step (fun q cells _ _ hc => Below.heap_setCell _ _ _ _ (fun e => ?_))
    rw [show q = gO from e, h2] at hc
    simp at hc
  · exact (hpl.step (hold _ (by omega))).step (holdS _ (by omega))
  · exact (hbel.grown hg2 (by omega) (fun q e => by have := hbk q e; omega)).setCell (by show wb.heap.size ≤ gO; omega) _
  · have := hg2.size; simp; omega
set_option maxRecDepth 100000 in
set_option maxHeartbeats 8000000 in
theorem hyper_Components.calls (a0_0 : Int) (A0_1 : Option Addr) (c0_1 : Nat) (l0_1 : List Int) (A0_2 : Option Addr) (c0_2 : Nat) (l0_2 : List (List Int)) (r : List (List Int)) (w : World) (hr0_1 : Kd.C (Kd.int .i64) w A0_1 l0_1.length l0_1) (hc0_1 : l0_1.length ≤ c0_1) (hr0_2 : Kd.C (Kd.slice 3 (Kd.int .i64)) w A0_2 l0_2.length l0_2) (hc0_2 : l0_2.length ≤ c0_2) (h : hyper_Components.f a0_0 l0_1 l0_2 = some r) :
    Calls Tryz.prog 20 #[.agg #[.int .i64 a0_0, .slice A0_1 l0_1.length c0_1, .slice A0_2 l0_2.length c0_2]] w fun e w' => ∃ v0_ : Value, e = .returned (v0_) ∧ Kd.S (Kd.slice 3 (Kd.int .i64)) 22 w' w.heap.size (fun _ => True) v0_ r ∧ Below w.heap.size w w' := by
  unfold hyper_Components.f at h
  split at h
  case isFalse => cases h
  rename_i hcc
  have hr := (Option.some.inj h).symm
  have HR := Lib.hid hr
  obtain ⟨wb, hwb⟩ : ∃ wb, wb = w.alloc (.cells #[.int .i64 a0_0, .slice A0_1 l0_1.length c0_1, .slice A0_2 l0_2.length c0_2] 25) := ⟨_, rfl⟩
  have hbw : Below w.heap.size w wb := by rw [hwb]; exact below_alloc (Below.refl _ w) _
  have hsb : wb.heap.size = w.heap.size + 1 := by rw [hwb]; simp
  have hbox : wb.heap[w.heap.size]? = some (.cells #[.int .i64 a0_0, .slice A0_1 l0_1.length c0_1, .slice A0_2 l0_2.length c0_2] 25 (0, 0)) := by rw [hwb]; exact World.alloc_heap_new w _
  have hbx0 : wb.cell? ⟨w.heap.size, 0, none⟩ = some (.int .i64 a0_0) := by unfold World.cell?; rw [hbox]; rfl
  have hbx2 : wb.cell? ⟨w.heap.size, 2, none⟩ = some (.slice A0_2 l0_2.length c0_2) := by unfold World.cell?; rw [hbox]; rfl
  have HV := Lib.hid (hyper_Valid.calls a0_0 A0_1 c0_1 l0_1 A0_2 c0_2 l0_2 (Hyp.validB a0_0 l0_1 l0_2) wb (Kd.C_below hr0_1 hbw) hc0_1 (Kd.C_below hr0_2 hbw) hc0_2 (by unfold hyper_Valid.f; rw [if_pos hcc]))
  have HRD := Lib.hid (Kd.C_below hr0_2 hbw)
  have HWB := Lib.hid hwb
  have HBW := Lib.hid hbw
  have HCC := Lib.hid hcc
  clear h hr hr0_1 hr0_2 hwb hbw hbox hcc
  obtain ⟨iR, hiR, hzR0, hzR1, hzR2⟩ := info_parts infoR
  go_enter Tryz.func20, Tryz.ntmps20
  go_wp2_with fail
  rw [← HWB.out]
  refine HV.out.mono ?_
  rintro e w1 ⟨rfl, hb1⟩
  have hsz1 := hb1.size
  by_cases hvd : Hyp.validB a0_0 l0_1 l0_2 = true
  · obtain ⟨hn0, _, _, _, _, hedges, _⟩ := Hyp.valid_parts hvd
    rw [hvd, if_pos rfl] at HR
    rw [hvd]
    clear hvd
    obtain ⟨n, rfl⟩ := Int.eq_ofNat_of_zero_le hn0
    have hn100 : n ≤ 100 := by have := HCC.out.1; omega
    rw [show ((n : Int)).toNat = n from rfl] at HR
    have HED := Lib.hid hedges
    clear hedges hn0
    have HB1 := Lib.hid hb1
    have hb0w := (hb1.cell (p := ⟨w.heap.size, 0, none⟩) (by show w.heap.size < _; omega)).trans hbx0
    clear hb1
    have hmk := run_make_row' (P := Tryz.prog) 22 3 (.int .i64 0) 8 Tryz.underlying22 infoInt rfl .i64 .i64 n (by omega) (by omega)
    rw [made_up] at hmk
    have SA : Hid (CompA wb w1 n 0 ((w1.alloc (.cells (upCells (List.replicate n 0)) 3)).alloc (.cells #[.slice (some ⟨w1.heap.size, 0, none⟩) n n] 22))) := Lib.hid (by
      have e0 : ((List.range n).map fun i => if i < 0 then i else 0) = List.replicate n 0 := by
        refine List.ext_getElem (by simp) fun i h1 h2 => ?_
        simp
      refine ⟨?_, (HB1.out.alloc hsz1 _).alloc (by simp; omega) _, by simp⟩
      rw [e0]
      refine ⟨?_, ?_⟩
      · have := (box_new (w1.alloc (.cells (upCells (List.replicate n 0)) 3)) (.slice (some ⟨w1.heap.size, 0, none⟩) n n) 22).1
        rw [World.size_alloc] at this
        rw [List.length_replicate]; exact this
      · rw [Below.heap_alloc _ _ _ (by simp)]
        exact World.alloc_heap_new w1 _)
    go_wp2
    go_loopg [4, 25] n (fun gg s4 s25 wr => ∃ k : Nat, s25 = .int .i64 (k : Int) ∧ k ≤ n ∧ n - k ≤ gg ∧ Hid (CompA wb w1 n k wr))
    case atStart => exact ⟨0, rfl, by omega, by omega, SA⟩
    case round =>
      clear SA hmk
      obtain ⟨k, rfl, hk, hg, S1⟩ := hrel
      obtain ⟨hup, hbel, hszr⟩ := S1.out
      clear S1
      have hlen : ((List.range n).map fun i => if i < k then i else 0).length = n := by simp
      have hvar := hup.var
      rw [hlen] at hvar
      have HUP := Lib.hid hup
      have HBE := Lib.hid hbel
      by_cases hlt : k < n
      · have hltz : (k : Int) < (n : Int) := by omega
        obtain ⟨hck, hfk⟩ := hup.cell k (by rw [hlen]; exact hlt)
        have S2 : Hid (CompA wb w1 n (k + 1) (wr.setCell ⟨w1.heap.size, k, none⟩ (.int .i64 (k : Int)))) := Lib.hid ⟨by
          have := HUP.out.set (by omega) k k
          rw [range_if n k hlt] at this
          exact this, HBE.out.setCell (by show wb.heap.size ≤ w1.heap.size; omega) _, by simp; exact hszr⟩
        clear hup hbel HUP HBE hlen
        generalize ((List.range n).map fun i => if i < k then i else 0).getD k 0 = u at hck
        go_wp2
        go_roundg (n - (k + 1))
        case measure => omega
        case rel => exact ⟨k + 1, by go_num, by omega, Nat.le_refl _, S2⟩
      · have hltz : ¬ (k : Int) < (n : Int) := by omega
        obtain rfl : n = k := by omega
        have SB : Hid (CompB wb w1 n l0_2 0 0 wr) := Lib.hid ⟨_, id, hlen, range_root n, Hyp.Conn.start _ _, hup, hbel, hszr⟩
        have hb2w := (hbel.cell (p := ⟨w.heap.size, 2, none⟩) (by show w.heap.size < _; omega)).trans hbx2
        clear hup hbel HUP HBE hlen hvar hb0w hk hg hlt hltz hszr
        go_wp2
        go_loopg [37] l0_2.length (fun gg s37 wx => ∃ k : Nat, s37 = .int .i64 (k : Int) ∧ k ≤ l0_2.length ∧ l0_2.length - k ≤ gg ∧ Hid (CompB wb w1 n l0_2 k 0 wx))
        case atStart => exact ⟨0, rfl, by omega, by omega, SB⟩
        case round =>
          clear SB hb2w
          obtain ⟨k, rfl, hk, hg, S3⟩ := hrel
          by_cases hlt : k < l0_2.length
          · have hltz : (k : Int) < (l0_2.length : Int) := by omega
            obtain ⟨b, off, rfl, hbb, hcs⟩ := C_rows HRD.out (show 0 < l0_2.length by omega)
            obtain ⟨Ax, cx, hcell, hlx, hCx⟩ := hcs k hlt
            have hbl3 : Below wb.heap.size wb wr := by obtain ⟨_, _, _, _, _, _, h, _⟩ := S3.out; exact h
            have hcw := (hbl3.cell (p := ⟨b, off + k, none⟩) hbb).trans hcell
            have hmem : l0_2.getD k [] ∈ l0_2 := by rw [List.getD_eq_getElem?_getD, List.getElem?_eq_getElem hlt]; exact List.getElem_mem hlt
            obtain ⟨hxne, hxin, _⟩ := HED.out _ hmem
            have hxl := HCC.out.2.2 _ hmem
            have HJ := Lib.hid (fun j r (h : Hyp.Conn n l0_2 k j r) (hj : j < (l0_2.getD k []).length) (rr : ∀ x, x < n → r (r x) = r x) (a b : Nat) (ha : a = r ((l0_2.getD k []).getD 0 0).toNat) (hb : b = r ((l0_2.getD k []).getD j 0).toNat) => h.join hlt hj hxin rr ha hb)
            have HNX := Lib.hid (fun r (h : Hyp.Conn n l0_2 k (l0_2.getD k []).length r) => h.next hlt)
            obtain ⟨x, hx⟩ : ∃ x, x = l0_2.getD k [] := ⟨_, rfl⟩
            rw [← hx] at hcw hlx hCx hxne hxin hxl HJ HNX
            clear hcs hcell hmem hx hbl3
            have hx0 : 0 < x.length := List.length_pos_iff.2 hxne
            obtain ⟨bx, ox, rfl, hbbx, hcx⟩ := C_int hCx hx0
            have HCX := Lib.hid hcx
            have HXIN : Hid (∀ j, j < x.length → 0 ≤ x.getD j 0 ∧ x.getD j 0 < (n : Int)) := Lib.hid (fun j hj => by rw [Hyp.getD_get x j hj]; exact hxin _ (List.getElem_mem hj))
            clear hCx hcx hxin hxne
            go_wp2
            go_loopg [43] x.length (fun gg s43 wx => ∃ j : Nat, s43 = .int .i64 (j : Int) ∧ j ≤ x.length ∧ x.length - j ≤ gg ∧ Hid (CompB wb w1 n l0_2 k j wx))
            case atStart => exact ⟨0, rfl, by omega, by omega, S3⟩
            case round =>
              clear S3 hcw
              obtain ⟨j, rfl, hj, hgj, S4⟩ := hrel
              obtain ⟨up, r, hul, hRI, hCN, hUP, hBL, hSZ⟩ := S4.out
              clear S4
              by_cases hltj : j < x.length
              · have hltjz : (j : Int) < (x.length : Int) := by omega
                have hcj := (hBL.cell (p := ⟨bx, ox + j, none⟩) hbbx).trans (HCX.out j hltj)
                have hc0 := (hBL.cell (p := ⟨bx, ox + 0, none⟩) hbbx).trans (HCX.out 0 hx0)
                rw [Nat.add_zero] at hc0
                obtain ⟨h00, h01⟩ := HXIN.out 0 hx0
                obtain ⟨hj0, hj1⟩ := HXIN.out j hltj
                have HJJ := Lib.hid (fun a b ha hb => HJ.out j r hCN hltj (fun y hy => hRI.rr (by omega)) a b ha hb)
                obtain ⟨u, hu⟩ := Int.eq_ofNat_of_zero_le h00
                obtain ⟨v, hv⟩ := Int.eq_ofNat_of_zero_le hj0
                rw [hu] at hc0 h01 HJJ
                rw [hv] at hcj hj1 HJJ
                simp only [Int.toNat_natCast] at HJJ
                clear hu hv h00 hj0
                have HRI := Lib.hid hRI
                have HUP := Lib.hid hUP
                have HBL := Lib.hid hBL
                clear hRI hCN hUP hBL
                go_wp2_with fail
                refine (top.calls (w1.heap.size + 1) w1.heap.size up r u (by omega) (by omega) (by omega) _ HRI.out HUP.out).mono ?_
                rintro e wA ⟨rfl, up1, hl1, hR1, hU1, hG1, hs1⟩
                rw [hul] at hl1
                have HR1 := Lib.hid hR1
                have HU1 := Lib.hid hU1
                have HG1 := Lib.hid hG1
                clear hR1 hU1 hG1
                go_wp2_with fail
                refine (top.calls (w1.heap.size + 1) w1.heap.size up1 r v (by omega) (by omega) (by omega) _ HR1.out HU1.out).mono ?_
                rintro e wB ⟨rfl, up2, hl2, hR2, hU2, hG2, hs2⟩
                rw [hl1] at hl2
                have hra : r u < n := by have := HRI.out.rle (i := u) (by omega); omega
                have hrb : r v < n := by have := HRI.out.rle (i := v) (by omega); omega
                have HRAR : Hid (r (r u) = r u) := Lib.hid (HRI.out.rr (by omega))
                have HRBR : Hid (r (r v) = r v) := Lib.hid (HRI.out.rr (by omega))
                have hvar := hU2.var
                rw [hl2] at hvar
                have HBB : Hid (Below wb.heap.size wb wB) := Lib.hid ((HBL.out.grown HG1.out (by omega) (fun q e => by cases e; omega)).grown hG2 (by omega) (fun q e => by cases e; omega))
                have SN : Hid (CompB wb w1 n l0_2 k (j + 1) (wB.setCell ⟨w1.heap.size, max (r u) (r v), none⟩ (.int .i64 ((min (r u) (r v) : Nat) : Int)))) := Lib.hid
                  ⟨_, _, by rw [List.length_set]; exact hl2, hR2.join (by omega) (by omega) HRAR.out HRBR.out, HJJ.out _ _ rfl rfl, hU2.set (by omega) _ _, HBB.out.setCell (by show wb.heap.size ≤ w1.heap.size; omega) _, by simp; omega⟩
                obtain ⟨hcm, hfm⟩ := hU2.cell (max (r u) (r v)) (by omega)
                clear hR2 hU2 hG2 HG1 HU1 HR1 HRI HUP HBL HJJ HRAR HRBR
                generalize r u = a at *
                generalize r v = b' at *
                generalize up2.getD (max a b') 0 = z at hcm
                by_cases hab : a < b'
                · have habz : (a : Int) < (b' : Int) := by omega
                  have hbaz : ¬ (b' : Int) < (a : Int) := by omega
                  rw [Nat.max_eq_right (by omega), Nat.min_eq_left (by omega)] at SN
                  rw [Nat.max_eq_right (by omega)] at hcm hfm
                  go_wp2
                  go_roundg (x.length - (j + 1))
                  case measure => omega
                  case rel => exact ⟨j + 1, by go_num, by omega, Nat.le_refl _, SN⟩
                · have habz : ¬ (a : Int) < (b' : Int) := by omega
                  rw [Nat.max_eq_left (by omega), Nat.min_eq_right (by omega)] at SN
                  rw [Nat.max_eq_left (by omega)] at hcm hfm
                  by_cases hba : b' < a
                  · have hbaz : (b' : Int) < (a : Int) := by omega
                    go_wp2
                    go_roundg (x.length - (j + 1))
                    case measure => omega
                    case rel => exact ⟨j + 1, by go_num, by omega, Nat.le_refl _, SN⟩
                  · obtain rfl : a = b' := by omega
                    go_wp2
                    go_roundg (x.length - (j + 1))
                    case measure => omega
                    case rel => exact ⟨j + 1, by go_num, by omega, Nat.le_refl _, SN⟩
              · have hltjz : ¬ (j : Int) < (x.length : Int) := by omega
                obtain rfl : j = x.length := by omega
                have SN : Hid (CompB wb w1 n l0_2 (k + 1) 0 wr) := Lib.hid ⟨up, r, hul, hRI, HNX.out r hCN, hUP, hBL, hSZ⟩
                clear hRI hCN hUP hBL
                go_wp2
                go_roundg (l0_2.length - (k + 1))
                case measure => omega
                case rel => exact ⟨k + 1, by go_num, by omega, Nat.le_refl _, SN⟩
          · have hltz : ¬ (k : Int) < (l0_2.length : Int) := by omega
            obtain rfl : k = l0_2.length := by omega
            obtain ⟨up, rt, hul, hRI, hCN, hUP, hBL, hSZ⟩ := S3.out
            clear S3
            have HROOT : Hid (Hyp.IsRoot n l0_2 rt) := Lib.hid ⟨fun x hx => hRI.rle (by omega), fun x hx => hRI.rr (by omega), by have := hCN.done; rwa [List.take_length] at this, hCN.cls⟩
            have hb0C := (hBL.cell (p := ⟨w.heap.size, 0, none⟩) (by show w.heap.size < _; omega)).trans hbx0
            obtain ⟨wC, hwC⟩ : ∃ wC : World, wC = wr := ⟨_, rfl⟩
            rw [← hwC] at hUP hBL hSZ hb0C ⊢
            clear hwC
            have hmk := run_makeMap (P := Tryz.prog) 45 wC
            have SC : Hid (CompC wb w1 wC n rt 0 (.slice none 0 0) (wC.alloc (.map #[] 0))) := Lib.hid
              ⟨up, [], 0, hul, hRI, hUP.step (Below.heap_alloc _ _ _ hUP.lt.1) (Below.heap_alloc _ _ _ hUP.lt.2), rfl, own_nil _ _ _ _, RowsN.nil _ _, Places.made wC |> fun h => by
                have e : Hyp.placeF rt 0 = fun _ => none := by funext x; unfold Hyp.placeF; rw [if_neg (by omega)]
                rw [e]; exact h, Nat.le_refl _, hBL.alloc (by omega) _, by simp⟩
            have hb0D := ((hBL.alloc (by omega) (.map #[] 0)).cell (p := ⟨w.heap.size, 0, none⟩) (by show w.heap.size < _; omega)).trans hbx0
            clear hUP hBL hCN hRI hb0C
            go_wp2
            go_loopg [12, 68] n (fun gg s12 s68 wx => ∃ i : Nat, s68 = .int .i64 (i : Int) ∧ i ≤ n ∧ n - i ≤ gg ∧ Hid (CompC wb w1 wC n rt i s12 wx))
            case atStart => exact ⟨0, rfl, by omega, by omega, SC⟩
            case round =>
              clear SC hmk hb0D
              obtain ⟨i, rfl, hi, hgi, S5⟩ := hrel
              by_cases hlti : i < n
              · have hltiz : (i : Int) < (n : Int) := by omega
                obtain ⟨up1, xs, nm, hl1, hR1, hU1, hxl, hown, hrows, hpl, hnm, hbel, hszi⟩ := S5.out
                clear S5
                have HTOP := Lib.hid (top.calls (w1.heap.size + 1) w1.heap.size up1 rt i (by omega) (by omega) (by omega) wr hR1 hU1)
                have hti : rt i ≤ i := hR1.rle (by omega)
                have HTT : Hid (rt (rt i) = rt i) := Lib.hid (hR1.rr (by omega))
                have hxn : xs.length = Hyp.rank rt i := by have := congrArg List.length hxl; rwa [List.length_map, Hyp.compsUp_len] at this
                have hrk := Hyp.rootsUp_len rt i
                have hxb : xs.length ≤ 100 := by rw [hxn]; unfold Hyp.rank; omega
                have HXN := Lib.hid hxn
                clear hxn hrk
                have HXL := Lib.hid hxl
                have HO := Lib.hid hown
                have HRW := Lib.hid hrows
                have HPL := Lib.hid hpl
                have HBE := Lib.hid hbel
                clear hR1 hU1 hxl hown hrows hpl hbel
                obtain ⟨Ao, co, rfl⟩ := own_slice HO.out
                go_wp2_with fail
                refine HTOP.out.mono ?_
                rintro e wA ⟨rfl, up2, hl2, hR2, hU2, hG2, hs2⟩
                rw [hl1] at hl2
                have hplt := HPL.out.lt
                have HOA := Lib.hid (own_move HO.out (fun q hq => hG2.block q (own_lt HO.out q hq) (fun e => by injection e with e; have := own_base HO.out q hq; omega)))
                have HRA := Lib.hid (HRW.out.step (w1 := wA) (fun q cells hb hq _ => hG2.block q hq (fun e => by injection e with e; omega)))
                have HPA := Lib.hid (HPL.out.step (hG2.block wC.heap.size hplt (fun e => by injection e with e; omega)))
                have HBA := Lib.hid (HBE.out.grown hG2 (by omega) (fun q e => by injection e with e; omega))
                have HR2 := Lib.hid hR2
                have HU2 := Lib.hid hU2
                have hle2 : wr.heap.size ≤ wA.heap.size := Nat.le_of_eq hs2.symm
                clear hR2 hU2 hG2 HO HRW HPL HBE HTOP hs2
                by_cases htn : rt i = i
                · rw [htn]
                  have hlook := HPA.out.look (i : Int) (WalkArith.wf_i64 ⟨by omega, by omega⟩)
                  rw [Hyp.placeF_new rt i] at hlook
                  obtain ⟨Dm, hDo, hDs⟩ := HPA.out
                  have HDO := Lib.hid hDo
                  have HDS := Lib.hid hDs
                  clear hDo hDs
                  have hkey : keyOf Tryz.prog 3 (.int .i64 (i : Int)) = some (.int .i64 (i : Int)) := Maps.keyOf_int_mk Tryz.underlying3 (WalkArith.wf_i64 ⟨by omega, by omega⟩)
                  have HKEY := Lib.hid hkey
                  have HWFX : Hid ((Lit.int .i64 (xs.length : Int)).wf = true) := Lib.hid (WalkArith.wf_i64 ⟨by omega, by omega⟩)
                  clear hkey
                  have HNEW : Hid (∀ v5 w5, w5.ownsRow (wC.heap.size + 1) 22 1 v5 (xs.length + 1) (xs.map Row.v ++ [.slice none 0 0]) → ∀ w4, w4.ownsMap Tryz.prog 3 (plainElem Tryz.prog 3) wC.heap.size (nm + 1) (Dm.put (.int .i64 (i : Int)) (.lit (.int .i64 (xs.length : Int)))) → wA.grownBy w4 (some wC.heap.size) →
                      (w4.alloc (.cells #[.slice none 0 0] 22)).grownBy w5 (Value.slice Ao xs.length co).ownBlock → CompD wb w1 wC n rt i xs.length v5 w5) := Lib.hid (by
                    intro v5 w5 ho5 w4 hown4 hg4 hg5
                    have hgb : ∀ q, (Value.slice Ao xs.length co).ownBlock = some q → wC.heap.size + 1 ≤ q := fun q hq => own_base HOA.out q hq
                    have h1 := hg4.size
                    have h2 := HU2.out.lt
                    have old4 : ∀ q, q < wA.heap.size → q ≠ wC.heap.size → w4.heap[q]? = wA.heap[q]? := fun q hq hne => hg4.block q hq (fun e => by injection e with e; omega)
                    have old5 : ∀ q, q < w4.heap.size → (∀ p, (Value.slice Ao xs.length co).ownBlock = some p → q ≠ p) → w5.heap[q]? = w4.heap[q]? := fun q hq hne =>
                      (hg5.block q (by simp; omega) (fun e => hne q e.symm rfl)).trans (Below.heap_alloc _ _ _ hq)
                    have hPA := Places.putD HDO.out.isMap HDS.out (i : Int) (xs.length : Int) hown4
                    refine ⟨up2, xs ++ [⟨.slice none 0 0, []⟩], nm + 1, hl2, HR2.out, ?_, ⟨by simp, ?_, ?_⟩, by simpa using ho5, ?_, ?_, by omega, ?_, ?_⟩
                    · refine (HU2.out.step (old4 _ h2.1 (by omega)) (old4 _ h2.2 (by omega))).step (old5 _ (by omega) (fun p hp => ?_)) (old5 _ (by omega) (fun p hp => ?_))
                      · have := hgb p hp; omega
                      · have := hgb p hp; omega
                    · rw [Hyp.compsUp_new htn (fun x hx => HR2.out.rle (by omega)), ← HXL.out]
                      simp
                    · simp
                    · refine (HRA.out.step (w1 := w4) (fun q cells hb hq _ => old4 q hq (by omega))).snoc_nil.step (fun q cells hb hq hc => old5 q hq (fun p hp e => ?_))
                      subst e
                      obtain ⟨c1, h3⟩ := own_typed HOA.out q hp
                      have h4 := hgb q hp
                      rw [old4 q (own_lt HOA.out q hp) (by omega), h3] at hc
                      simp at hc
                    · rw [HXN.out, Hyp.placeF_put htn] at hPA
                      exact hPA.step (old5 _ hPA.lt (fun p hp => by have := hgb p hp; omega))
                    · exact ((HBA.out.grown hg4 (by omega) (fun q e => by injection e with e; omega)).alloc (by omega) _).grown hg5 (by simp; omega) (fun q e => by have := hgb q e; omega)
                    · have := hg5.size; simp at this; omega)
                  go_wp2_with (first
                    | (at_mapUpdate; refine wpList_mapUpdate_own _ rfl _ _ _ 45 rfl 3 3 (Maps.int_keyed Tryz.underlying3) Tryz.underlying45 (plainElem Tryz.prog 3) wC.heap.size nm Dm rfl HDO.out (by unfold maxLen; omega) _ _ (.int .i64 (i : Int)) rfl rfl HKEY.out (.lit (.int .i64 (xs.length : Int))) [] (plainElem_int Tryz.underlying3 HWFX.out) ?_; intro w4 hown4 hg4
                       have HO4 : Hid (w4.ownsRow (wC.heap.size + 1) 22 1 (.slice Ao xs.length co) xs.length (xs.map Row.v)) := Lib.hid (own_move HOA.out (fun q hq => hg4.block q (own_lt HOA.out q hq) (by have := own_base HOA.out q hq; intro e; injection e with e; omega)))
                       have hsz4 : wA.heap.size ≤ w4.heap.size := hg4.size
                       have HOWN4 := Lib.hid hown4
                       have HG4 := Lib.hid hg4
                       clear hown4 hg4)
                    | (at_builtin; refine wpList_append_own _ rfl _ _ 23 rfl (wC.heap.size + 1) 22 iR (.slice none 0 0) 1 24 Tryz.underlying23 hiR hzR0 hzR1 hzR2 rfl (by decide) _ _ _ rfl (HO4.out.alloc _) ⟨w4.heap.size, 0, none⟩ 1 1 [.slice none 0 0] rfl rfl (cell_one_new _ _ _) (by simp [Value.oneCell']) (by unfold maxLen; omega) (by omega) (by simp; omega) ?_; intro v5 w5 ho5 hg5 _
                       have SD := HNEW.out v5 w5 ho5 w4 HOWN4.out HG4.out hg5
                       obtain ⟨gO, m, cap, u, gl, rfl, hkm, hmc, hcu, ⟨Au, cu, rfl⟩, hfu, hgll, hgO, hRK, hBD, hszD, hFIN⟩ := SD.row (by omega) (by omega)
                       have HRK := Lib.hid hRK
                       have HBD := Lib.hid hBD
                       have HFIN := Lib.hid hFIN
                       clear hRK hBD hFIN SD
                       clear ho5 hg5)
                    | (at_builtin; refine hold_here ?_))
                  refine hold_out ?_
                  refine Kd.R_append (Kd.int .i64) (w0 := w5) (wC.heap.size + 1) rfl _ _ 22 3 (.int .i64 0) 8 rfl Tryz.underlying22 infoInt rfl (by decide) (by decide) (.slice Au gl.length cu) gl (i : Int) [.int .i64 (i : Int)] (fun _ => True) (fun _ => False) rfl rfl rfl (fun _ h => h.elim) (fun _ _ => trivial) HRK.out (Below.refl _ _) (by omega) (by omega) ?_
                  intro v2 w2 hr2 hb2 hg2 hat2
                  obtain ⟨u2, hc2, hf2, S6⟩ := HFIN.out v2 w2 hr2 hg2 hat2
                  obtain ⟨A2, c2, rfl⟩ := Kd.R_slice hr2
                  have HS6 := Lib.hid S6
                  rw [List.length_append, List.length_singleton] at HS6 ⊢
                  clear hr2 hb2 hg2 hat2 S6
                  go_wp2
                  go_roundg (n - (i + 1))
                  case measure => omega
                  case rel => exact ⟨i + 1, by go_num, by omega, Nat.le_refl _, HS6⟩
                · have htl : rt i < i := by omega
                  have hlook := HPA.out.look (rt i : Int) (WalkArith.wf_i64 ⟨by omega, by omega⟩)
                  rw [Hyp.placeF_old htl HTT.out] at hlook
                  obtain ⟨hrl, hcu⟩ := Hyp.compsUp_old htl HTT.out
                  rw [← HXL.out, List.length_map] at hrl
                  have SD : CompD wb w1 wC n rt i (Hyp.rank rt (rt i)) (.slice Ao xs.length co) wA := by
                    refine ⟨up2, xs, nm, hl2, HR2.out, HU2.out, ⟨hrl, by rw [hcu, HXL.out], ?_⟩, HOA.out, HRA.out, ?_, by omega, HBA.out, by omega⟩
                    · rw [HXL.out]
                      unfold Hyp.compsUp
                      rw [List.getD_eq_getElem?_getD, List.getElem?_map]
                      cases (Hyp.rootsUp rt i)[Hyp.rank rt (rt i)]? with
                      | none => simp
                      | some t =>
                        simp only [Option.map_some, Option.getD_some]
                        unfold Hyp.group
                        rw [List.length_map]
                        have := List.length_filter_le (fun x => rt x == t) (List.range i)
                        simpa using this
                    · rw [← Hyp.placeF_skip htn]; exact HPA.out
                  obtain ⟨gO, m, cap, u, gl, hve, hkm, hmc, hcu2, ⟨Au, cu, rfl⟩, hfu, hgll, hgO, hRK, hBD, hszD, hFIN⟩ := SD.row (by omega) (by omega)
                  have HRK := Lib.hid hRK
                  have HFIN := Lib.hid hFIN
                  rw [hve] at HFIN ⊢
                  clear hRK hBD hFIN SD hcu hve
                  generalize Hyp.rank rt (rt i) = rk at *
                  go_wp2_with (at_builtin; refine hold_here ?_)
                  refine hold_out ?_
                  refine Kd.R_append (Kd.int .i64) (w0 := wA) (wC.heap.size + 1) rfl _ _ 22 3 (.int .i64 0) 8 rfl Tryz.underlying22 infoInt rfl (by decide) (by decide) (.slice Au gl.length cu) gl (i : Int) [.int .i64 (i : Int)] (fun _ => True) (fun _ => False) rfl rfl rfl (fun _ h => h.elim) (fun _ _ => trivial) HRK.out (Below.refl _ _) (by omega) (by omega) ?_
                  intro v2 w2 hr2 hb2 hg2 hat2
                  obtain ⟨u2, hc2, hf2, S6⟩ := HFIN.out v2 w2 hr2 hg2 hat2
                  obtain ⟨A2, c2, rfl⟩ := Kd.R_slice hr2
                  have HS6 := Lib.hid S6
                  rw [List.length_append, List.length_singleton] at HS6 ⊢
                  clear hr2 hb2 hg2 hat2 S6
                  go_wp2
                  go_roundg (n - (i + 1))
                  case measure => omega
                  case rel => exact ⟨i + 1, by go_num, by omega, Nat.le_refl _, HS6⟩
              · have hltiz : ¬ (i : Int) < (n : Int) := by omega
                obtain rfl : n = i := by omega
                obtain ⟨up1, xs, nm, hl1, hR1, hU1, hxl, hown, hrows, hpl, hnm, hbel, hszi⟩ := S5.out
                have HO := Lib.hid hown
                have HRW := Lib.hid hrows
                have HXL := Lib.hid hxl
                have HBE := Lib.hid hbel
                clear S5 hown hrows hpl hR1 hU1 hbel hxl
                obtain ⟨Ao, co, rfl⟩ := own_slice HO.out
                go_wp2
                go_ret
                refine ⟨_, rfl, ?_, HBW.out.trans (HBE.out.mono (by omega))⟩
                rw [HR.out, Hyp.components_eq HROOT.out, ← HXL.out]
                obtain ⟨f, hf⟩ := HRW.out.toS HO.out
                exact ⟨f, Kd.R_lower hf (by omega)⟩
  · have hvf : Hyp.validB a0_0 l0_1 l0_2 = false := by simpa using hvd
    rw [hvf]
    rw [hvf, if_neg (by simp)] at HR
    have HB1 := Lib.hid hb1
    clear hb1 hvd hvf
    go_wp2
    go_ret
    refine ⟨_, rfl, ?_, HBW.out.trans (HB1.out.mono (by omega))⟩
    rw [HR.out]
    exact Kd.S_nil _ _ _ _ _
end Go.Proofs.YtgjbnmobhafajaaGreatDoor
end
section
namespace Go.Proofs.YtgjbnmobhafajaaGreatDoor
open Go Go.RowKit Go.Sort Go.Shelf Go.Proofs.YtgjbnmobhafajaaGreatDoorW.PrintWords Go.Proofs.YtgjbnmobhafajaaGreatDoorW.PrintLast
def Hyp.idx (vs : List Int) (x : Int) : Int := (vs.idxOf x : Nat)
def Hyp.placeV (vs : List Int) (i : Nat) (x : Int) : Option Int := if x ∈ vs.take i then some (Hyp.idx vs x) else none
def Hyp.costsOf (cost vs : List Int) : List Int := vs.map fun v => cost.getD v.toNat 0
def Hyp.edgeTo (vs e : List Int) : List Int := (e.filter fun v => vs.contains v).map (Hyp.idx vs)
def Hyp.partE (vs : List Int) (edges : List (List Int)) : List (List Int) := (edges.filter fun e => e.all fun v => vs.contains v).map fun e => e.map (Hyp.idx vs)
def Hyp.partF (n : Int) (cost : List Int) (edges : List (List Int)) (vs : List Int) : Int × List Int × List (List Int) × Int :=
  if Hyp.validB n cost edges = true ∧ Hyp.isSetB vs n = true then ((vs.length : Int), Hyp.costsOf cost vs, Hyp.partE vs edges, 0) else (0, [], [], 1)
def hyper_Part.f (a0_0 : Int) (l0_1 : List Int) (l0_2 : List (List Int)) (l1 : List Int) : Option (Int × List Int × (List (List Int)) × Int) :=
  if (a0_0 ≤ 100 ∧ l0_2.length ≤ 1048576 ∧ ∀ x ∈ l0_2, x.length ≤ 1048576) ∧ l1.length ≤ 1048576 then some (Hyp.partF a0_0 l0_1 l0_2 l1) else none
theorem Hyp.idx_at {vs : List Int} (h : Hyp.Inc vs) (i : Nat) (hi : i < vs.length) : Hyp.idx vs (vs.getD i 0) = i := by
  have hn := Hyp.inc_nodup h
  rw [Hyp.getD_get vs i hi]
  unfold Hyp.idx
  have : vs.idxOf vs[i] = i := by
    have h1 : vs.idxOf vs[i] < vs.length := List.idxOf_lt_length_iff.2 (List.getElem_mem hi)
    have h2 : vs[vs.idxOf vs[i]] = vs[i] := List.getElem_idxOf h1
    rcases Nat.lt_trichotomy (vs.idxOf vs[i]) i with h | h | h
    · exact absurd h2 (List.pairwise_iff_getElem.1 hn _ _ h1 hi h)
    · exact h
    · exact absurd h2.symm (List.pairwise_iff_getElem.1 hn _ _ hi h1 h)
  rw [this]
theorem Hyp.placeV_start (vs : List Int) : Hyp.placeV vs 0 = fun _ => none := by
  funext x; unfold Hyp.placeV; simp
theorem Hyp.placeV_put {vs : List Int} (h : Hyp.Inc vs) (i : Nat) (hi : i < vs.length) : (fun x => if x = vs.getD i 0 then some (i : Int) else Hyp.placeV vs i x) = Hyp.placeV vs (i + 1) := by
  funext x
  unfold Hyp.placeV
  rw [List.take_succ_eq_append_getElem hi, ← Hyp.getD_get vs i hi]
  have hx := Hyp.idx_at h i hi
  generalize vs.getD i 0 = y at *
  by_cases e : x = y
  · subst e
    simp [hx]
  · simp [e]
theorem Hyp.placeV_all (vs : List Int) (x : Int) : Hyp.placeV vs vs.length x = if x ∈ vs then some (Hyp.idx vs x) else none := by
  unfold Hyp.placeV; rw [List.take_length]
theorem Hyp.edgeTo_take (vs e : List Int) (j : Nat) (hj : j < e.length) : Hyp.edgeTo vs (e.take (j + 1)) = Hyp.edgeTo vs (e.take j) ++ if e.getD j 0 ∈ vs then [Hyp.idx vs (e.getD j 0)] else [] := by
  unfold Hyp.edgeTo
  rw [List.take_succ_eq_append_getElem hj, List.filter_append, List.map_append, ← Hyp.getD_get e j hj]
  congr 1
  generalize e.getD j 0 = y
  by_cases h : y ∈ vs
  · rw [if_pos h, List.filter_cons_of_pos (by simpa using h)]; rfl
  · rw [if_neg h, List.filter_cons_of_neg (by simpa using h)]; rfl
theorem Hyp.edgeTo_len (vs e : List Int) : (Hyp.edgeTo vs e).length ≤ e.length := by
  unfold Hyp.edgeTo
  rw [List.length_map]
  exact List.length_filter_le _ _
theorem Hyp.edgeTo_full {vs e : List Int} (h : (Hyp.edgeTo vs e).length = e.length) : (e.all fun v => vs.contains v) = true ∧ Hyp.edgeTo vs e = e.map (Hyp.idx vs) := by
  unfold Hyp.edgeTo at h ⊢
  rw [List.length_map] at h
  have h1 : e.filter (fun v => vs.contains v) = e := List.filter_sublist.eq_of_length h
  refine ⟨?_, by rw [h1]⟩
  rw [List.all_eq_true]
  intro x hx
  rw [← h1] at hx
  exact (List.mem_filter.1 hx).2
theorem Hyp.edgeTo_part {vs e : List Int} (h : ¬ (Hyp.edgeTo vs e).length = e.length) : (e.all fun v => vs.contains v) = false := by
  rw [Bool.eq_false_iff]
  intro ha
  apply h
  unfold Hyp.edgeTo
  rw [List.length_map, List.filter_eq_self.2 (List.all_eq_true.1 ha)]
theorem Hyp.partE_take (vs : List Int) (edges : List (List Int)) (k : Nat) (hk : k < edges.length) : Hyp.partE vs (edges.take (k + 1)) = Hyp.partE vs (edges.take k) ++ if ((edges.getD k []).all fun v => vs.contains v) = true then [(edges.getD k []).map (Hyp.idx vs)] else [] := by
  have e1 : edges.getD k [] = edges[k] := by rw [List.getD_eq_getElem?_getD, List.getElem?_eq_getElem hk]; rfl
  unfold Hyp.partE
  rw [List.take_succ_eq_append_getElem hk, List.filter_append, List.map_append, e1]
  congr 1
  generalize edges[k] = y
  by_cases h : (y.all fun v => vs.contains v) = true
  · rw [if_pos h, List.filter_cons_of_pos (by exact h)]; rfl
  · rw [if_neg h, List.filter_cons_of_neg (by exact h)]; rfl
theorem Hyp.costsOf_take (cost vs : List Int) (i : Nat) (hi : i < vs.length) : Hyp.costsOf cost (vs.take (i + 1)) = Hyp.costsOf cost (vs.take i) ++ [cost.getD (vs.getD i 0).toNat 0] := by
  unfold Hyp.costsOf
  rw [List.take_succ_eq_append_getElem hi, List.map_append, ← Hyp.getD_get vs i hi]
  rfl
def GraphAt (W : World) (G : Nat) (m : Int) (vc ve : Value) : Prop := W.heap[G]? = some (.cells #[.int .i64 m, vc, ve] 25 (0, 0))
theorem GraphAt.cells {W : World} {G : Nat} {m : Int} {vc ve : Value} (h : GraphAt W G m vc ve) : W.cell? ⟨G, 0, none⟩ = some (.int .i64 m) ∧ W.cell? ⟨G, 1, none⟩ = some vc ∧ W.cell? ⟨G, 2, none⟩ = some ve ∧
    W.frozen? ⟨G, 0, none⟩ = false ∧ W.frozen? ⟨G, 1, none⟩ = false ∧ W.frozen? ⟨G, 2, none⟩ = false := by
  unfold GraphAt at h
  refine ⟨?_, ?_, ?_, ?_, ?_, ?_⟩ <;> first | (unfold World.cell?; rw [h]; rfl) | (unfold World.frozen?; rw [h]; rfl)
theorem GraphAt.lt {W : World} {G : Nat} {m : Int} {vc ve : Value} (h : GraphAt W G m vc ve) : G < W.heap.size := (Array.getElem?_eq_some_iff.1 h).1
theorem GraphAt.put1 {W : World} {G : Nat} {m : Int} {vc ve : Value} (h : GraphAt W G m vc ve) (v : Value) : GraphAt (W.setCell ⟨G, 1, none⟩ v) G m v ve := blk_put h 1 v rfl
theorem GraphAt.put2 {W : World} {G : Nat} {m : Int} {vc ve : Value} (h : GraphAt W G m vc ve) (v : Value) : GraphAt (W.setCell ⟨G, 2, none⟩ v) G m vc v := blk_put h 2 v rfl
theorem GraphAt.not_row {W : World} {G : Nat} {m : Int} {vc ve : Value} (h : GraphAt W G m vc ve) {base e s n : Nat} {v : Value} {ys : List Value} (ho : W.ownsRow base e s v n ys) (he : e ≠ 25) : some G ≠ v.ownBlock := by
  intro hb
  obtain ⟨c1, h1⟩ := own_typed ho G hb.symm
  unfold GraphAt at h
  rw [h] at h1
  simp at h1
  exact he h1.2.symm
theorem own_of_R' {w : World} {base : Nat} {v : Value} {xs : List Int} {e : Nat} (h : Kd.R (Kd.int .i64) e w base (fun _ => True) v xs) : w.ownsRow base e 1 v xs.length (nums .i64 xs) := R_int h
def PartA (wb : World) (G M n : Nat) (cost vs : List Int) (i : Nat) (W : World) : Prop :=
  ∃ vc nm, GraphAt W G (n : Int) vc (.slice none 0 0) ∧ Kd.R (Kd.int .i64) 3 W (M + 1) (fun _ => True) vc (Hyp.costsOf cost (vs.take i)) ∧ Places W M nm (Hyp.placeV vs i) ∧ nm ≤ i ∧ Below wb.heap.size wb W ∧ M + 1 ≤ W.heap.size
def PartB (wb wE : World) (G M n : Nat) (costs vs : List Int) (edges : List (List Int)) (k : Nat) (W : World) : Prop :=
  ∃ vc ve O nm, GraphAt W G (n : Int) vc ve ∧ Kd.R (Kd.int .i64) 3 W (M + 1) (fun q => q < wE.heap.size) vc costs ∧ O.map Row.l = Hyp.partE vs (edges.take k) ∧ W.ownsRow wE.heap.size 22 1 ve O.length (O.map Row.v) ∧ Rows W wE.heap.size O ∧
    Places W M nm (Hyp.placeV vs vs.length) ∧ O.length ≤ k ∧ Below wb.heap.size wb W ∧ wE.heap.size ≤ W.heap.size
set_option maxRecDepth 100000 in
set_option maxHeartbeats 8000000 in
theorem hyper_Part.calls (a0_0 : Int) (A0_1 : Option Addr) (c0_1 : Nat) (l0_1 : List Int) (A0_2 : Option Addr) (c0_2 : Nat) (l0_2 : List (List Int)) (A1 : Option Addr) (c1 : Nat) (l1 : List Int) (r1 : Int) (r2 : List Int) (r3 : List (List Int)) (r4 : Int) (w : World) (hr0_1 : Kd.C (Kd.int .i64) w A0_1 l0_1.length l0_1) (hc0_1 : l0_1.length ≤ c0_1) (hr0_2 : Kd.C (Kd.slice 3 (Kd.int .i64)) w A0_2 l0_2.length l0_2) (hc0_2 : l0_2.length ≤ c0_2) (hr1 : Kd.C (Kd.int .i64) w A1 l1.length l1) (hc1 : l1.length ≤ c1) (h : hyper_Part.f a0_0 l0_1 l0_2 l1 = some (r1, r2, r3, r4)) :
    Calls Tryz.prog 9 #[.agg #[.int .i64 a0_0, .slice A0_1 l0_1.length c0_1, .slice A0_2 l0_2.length c0_2], .slice A1 l1.length c1] w fun e w' => ∃ v1_ v2_ : Value, e = .returned (.tuple #[.agg #[.int .i64 r1, v1_, v2_], .int .i64 r4]) ∧ Kd.R (Kd.int .i64) 3 w' w.heap.size (fun _ => True) v1_ r2 ∧ Kd.S (Kd.slice 3 (Kd.int .i64)) 22 w' w.heap.size (fun k_ => some k_ ≠ (v1_ : Value).ownBlock) v2_ r3 ∧ Below w.heap.size w w' := by
  unfold hyper_Part.f at h
  split at h
  case isFalse => cases h
  rename_i hcc
  have hr := (Option.some.inj h).symm
  obtain ⟨wb, hwb⟩ : ∃ wb, wb = (w.alloc (.cells #[.int .i64 a0_0, .slice A0_1 l0_1.length c0_1, .slice A0_2 l0_2.length c0_2] 25)).alloc (.cells #[.int .i64 0, .slice none 0 0, .slice none 0 0] 25) := ⟨_, rfl⟩
  have hbw : Below w.heap.size w wb := by rw [hwb]; exact below_alloc (below_alloc (Below.refl _ w) _) _
  have hsb : wb.heap.size = w.heap.size + 2 := by rw [hwb]; simp
  have hbox : GraphAt wb w.heap.size a0_0 (.slice A0_1 l0_1.length c0_1) (.slice A0_2 l0_2.length c0_2) := by
    rw [hwb]; unfold GraphAt; rw [Below.heap_alloc _ _ _ (by simp)]; exact World.alloc_heap_new w _
  have hres : GraphAt wb (w.heap.size + 1) 0 (.slice none 0 0) (.slice none 0 0) := by
    rw [hwb]
    have := World.alloc_heap_new (w.alloc (.cells #[.int .i64 a0_0, .slice A0_1 l0_1.length c0_1, .slice A0_2 l0_2.length c0_2] 25)) (.cells #[.int .i64 0, .slice none 0 0, .slice none 0 0] 25)
    rw [World.size_alloc] at this
    exact this
  have HV := Lib.hid (hyper_Valid.calls a0_0 A0_1 c0_1 l0_1 A0_2 c0_2 l0_2 (Hyp.validB a0_0 l0_1 l0_2) wb (Kd.C_below hr0_1 hbw) hc0_1 (Kd.C_below hr0_2 hbw) hc0_2 (by unfold hyper_Valid.f; rw [if_pos hcc.1]))
  have HIS := Lib.hid (fun W (hb : Below w.heap.size w W) => hyper_isSet.calls A1 c1 l1 a0_0 _ W (Kd.C_below hr1 hb) hc1 rfl)
  have HRD := Lib.hid hr0_2
  have HRC := Lib.hid hr0_1
  have HRV := Lib.hid hr1
  have HWB := Lib.hid hwb
  have HBW := Lib.hid hbw
  have HCC := Lib.hid hcc
  have HR := Lib.hid hr
  have HBOX := Lib.hid hbox
  have HRES := Lib.hid hres
  clear h hr hr0_1 hr0_2 hr1 hwb hbw hbox hcc hres
  obtain ⟨iR, hiR, hzR0, hzR1, hzR2⟩ := info_parts infoR
  go_enter Tryz.func9, Tryz.ntmps9
  go_wp2_with fail
  rw [← HWB.out]
  refine HV.out.mono ?_
  rintro e w1 ⟨rfl, hb1⟩
  have hsz1 := hb1.size
  have hg1 : GraphAt w1 w.heap.size a0_0 (.slice A0_1 l0_1.length c0_1) (.slice A0_2 l0_2.length c0_2) := (hb1.block _ (by omega)).trans HBOX.out
  have hg2 : GraphAt w1 (w.heap.size + 1) 0 (.slice none 0 0) (.slice none 0 0) := (hb1.block _ (by omega)).trans HRES.out
  have HG1 := Lib.hid hg1
  have HG2 := Lib.hid hg2
  obtain ⟨hb0, hbc1, hbc2, _, _, _⟩ := hg1.cells
  obtain ⟨hs0, hs1, hs2, ht0, ht1, ht2⟩ := hg2.cells
  have HB1 := Lib.hid hb1
  clear hb1 hg1 hg2
  have hbad : ∀ (_ : ¬ (Hyp.validB a0_0 l0_1 l0_2 = true ∧ Hyp.isSetB l1 a0_0 = true)), r1 = 0 ∧ r2 = [] ∧ r3 = [] ∧ r4 = 1 := fun hn => by
    have := HR.out
    unfold Hyp.partF at this
    rw [if_neg hn] at this
    simp only [Prod.mk.injEq] at this
    exact this
  have HBAD := Lib.hid hbad
  clear hbad
  by_cases hvd : Hyp.validB a0_0 l0_1 l0_2 = true
  · rw [hvd]
    go_wp2_with fail
    refine (HIS.out _ (HBW.out.trans (HB1.out.mono (by omega)))).mono ?_
    rintro e w2 ⟨rfl, q2, rfl⟩
    by_cases his : Hyp.isSetB l1 a0_0 = true
    · rw [his]
      have hset := (Hyp.isSetB_iff l1 a0_0).1 his
      obtain ⟨hn0, _, hcl, _, _, hedges, _⟩ := Hyp.valid_parts hvd
      have hres : r1 = (l1.length : Int) ∧ r2 = Hyp.costsOf l0_1 l1 ∧ r3 = Hyp.partE l1 l0_2 ∧ r4 = 0 := by
        have := HR.out
        unfold Hyp.partF at this
        rw [if_pos ⟨hvd, his⟩] at this
        simp only [Prod.mk.injEq] at this
        exact this
      clear HR HBAD HV HIS hvd his
      obtain ⟨rfl, rfl, rfl, rfl⟩ := hres
      obtain ⟨n, rfl⟩ := Int.eq_ofNat_of_zero_le hn0
      have hn100 : n ≤ 100 := by have := HCC.out.1.1; omega
      have HSET := Lib.hid hset
      have HEDG := Lib.hid hedges
      have hvs : l1.length ≤ 1048576 := HCC.out.2
      clear hset hedges hn0
      go_wp2_with ((with_reducible refine gate_dst (N := 6) rfl ?_); refine hold_here ?_)
      refine hold_out ?_
      refine box_event rfl (N := 6) rfl (cs := #[.int .i64 0, .slice none 0 0, .slice none 0 0]) (t := 25) (by first | (go_simp; done) | (go_simp; rfl)) ?_
      intro G hG w3 hbox3 hb3
      have hsG : w1.heap.size ≤ G := by rw [hG]; exact Nat.le_refl _
      have hG3 : GraphAt w3 G 0 (.slice none 0 0) (.slice none 0 0) := hbox3
      obtain ⟨hx0, hx1, hx2, hy0, hy1, hy2⟩ := hG3.cells
      have hB3 : Below wb.heap.size wb w3 := HB1.out.trans ((pw_below_drewN (Below.refl _ w1) q2).trans hb3 |>.mono hsz1)
      have HG3 := Lib.hid hG3
      have HB3 := Lib.hid hB3
      clear hbox3 hb3 hG3 hB3 hG
      go_wp2_with ((with_reducible refine gate_dst (N := 31) rfl ?_); refine hold_here ?_)
      refine hold_out ?_
      have hG4 : GraphAt (((w3.setCell ⟨G, 0, none⟩ (.int .i64 (l1.length : Int))).setCell ⟨G, 1, none⟩ (.slice none 0 0)).setCell ⟨G, 2, none⟩ (.slice none 0 0)) G (l1.length : Int) (.slice none 0 0) (.slice none 0 0) :=
        blk_put (cs := #[.int .i64 (l1.length : Int), .slice none 0 0, .slice none 0 0]) (blk_put (cs := #[.int .i64 (l1.length : Int), .slice none 0 0, .slice none 0 0]) (blk_put (cs := #[.int .i64 0, .slice none 0 0, .slice none 0 0]) HG3.out 0 _ rfl) 1 _ rfl) 2 _ rfl
      have hB4 : Below wb.heap.size wb (((w3.setCell ⟨G, 0, none⟩ (.int .i64 (l1.length : Int))).setCell ⟨G, 1, none⟩ (.slice none 0 0)).setCell ⟨G, 2, none⟩ (.slice none 0 0)) :=
        ((HB3.out.setCell (by show wb.heap.size ≤ G; omega) _).setCell (by show wb.heap.size ≤ G; omega) _).setCell (by show wb.heap.size ≤ G; omega) _
      clear hx0 hx1 hx2 hy0 hy1 hy2 HG3 HB3
      generalize ((w3.setCell ⟨G, 0, none⟩ (.int .i64 (l1.length : Int))).setCell ⟨G, 1, none⟩ (.slice none 0 0)).setCell ⟨G, 2, none⟩ (.slice none 0 0) = w4 at *
      have hmm := @run_makeMap Tryz.prog
      obtain ⟨M, hM⟩ : ∃ M, M = w4.heap.size := ⟨_, rfl⟩
      have hGM : G < M := by rw [hM]; exact hG4.lt
      have hb4s := hB4.size
      have SA : Hid (PartA wb G M l1.length l0_1 l1 0 (w4.alloc (.map #[] 0))) := Lib.hid ⟨_, 0, (Below.heap_alloc _ _ _ (by omega)).trans hG4, Kd.R_nil _ _ _ _ _, by rw [Hyp.placeV_start, hM]; exact Places.made w4, Nat.le_refl _, hB4.alloc (by omega) _, by simp; omega⟩
      have hmk := hmm 45 w4
      rw [← hM] at hmk
      have hMb : wb.heap.size ≤ M := by omega
      clear hmm hG4 hB4 hM hb4s
      go_wp2
      go_loopg [34] l1.length (fun gg s34 wr => ∃ i : Nat, s34 = .int .i64 (i : Int) ∧ i ≤ l1.length ∧ l1.length - i ≤ gg ∧ Hid (PartA wb G M l1.length l0_1 l1 i wr))
      case atStart => exact ⟨0, rfl, by omega, by omega, SA⟩
      case round =>
        clear SA hmk
        obtain ⟨i, rfl, hi, hgi, S1⟩ := hrel
        obtain ⟨vc, nm, hgr, hrc, hpl, hnm, hbel, hsz⟩ := S1.out
        clear S1
        by_cases hlt : i < l1.length
        · have hltz : (i : Int) < (l1.length : Int) := by omega
          obtain ⟨bv, ov, rfl, hbv, hcv⟩ := C_int HRV.out (show 0 < l1.length by omega)
          have hBr : Below w.heap.size w wr := HBW.out.trans (hbel.mono (by omega))
          have hcx := (hBr.cell (p := ⟨bv, ov + i, none⟩) hbv).trans (hcv i hlt)
          obtain ⟨hv0, hv1⟩ := HSET.out.1 (l1.getD i 0) (by rw [Hyp.getD_get l1 i hlt]; exact List.getElem_mem hlt)
          have HPUT := Lib.hid (Hyp.placeV_put HSET.out.2 i hlt)
          have HCT := Lib.hid (Hyp.costsOf_take l0_1 l1 i hlt)
          clear hcv
          obtain ⟨x, hx⟩ : ∃ x, x = l1.getD i 0 := ⟨_, rfl⟩
          rw [← hx] at hcx hv0 hv1 HPUT HCT
          clear hx
          obtain ⟨u, rfl⟩ := Int.eq_ofNat_of_zero_le hv0
          obtain ⟨bc, oc, rfl, hbc, hcc⟩ := C_int HRC.out (show 0 < l0_1.length by omega)
          have hck := hcc u (by omega)
          rw [show ((u : Int)).toNat = u from rfl] at HCT
          clear hcc hv0
          obtain ⟨cu, hcu⟩ : ∃ c, c = l0_1.getD u 0 := ⟨_, rfl⟩
          rw [← hcu] at hck HCT
          clear hcu
          obtain ⟨Dm, hDo, hDs⟩ := hpl
          have HDO := Lib.hid hDo
          have HDS := Lib.hid hDs
          have HGR := Lib.hid hgr
          have HRCo := Lib.hid hrc
          have HBE := Lib.hid hbel
          have HBR := Lib.hid hBr
          have HKEY : Hid (keyOf Tryz.prog 3 (.int .i64 (u : Int)) = some (.int .i64 (u : Int))) := Lib.hid (Maps.keyOf_int_mk Tryz.underlying3 (WalkArith.wf_i64 ⟨by omega, by omega⟩))
          have HWFI : Hid ((Lit.int .i64 (i : Int)).wf = true) := Lib.hid (WalkArith.wf_i64 ⟨by omega, by omega⟩)
          clear hDo hDs hgr hrc hbel hBr
          go_wp2_with (at_mapUpdate; refine wpList_mapUpdate_own _ rfl _ _ _ 45 rfl 3 3 (Maps.int_keyed Tryz.underlying3) Tryz.underlying45 (plainElem Tryz.prog 3) M nm Dm rfl HDO.out (by unfold maxLen; omega) _ _ (.int .i64 (u : Int)) rfl rfl HKEY.out (.lit (.int .i64 (i : Int))) [] (plainElem_int Tryz.underlying3 HWFI.out) ?_; intro w5 hown5 hg5; have HOWN5 := Lib.hid hown5; have HG5 := Lib.hid hg5; clear hown5 hg5)
          have hMlt := HDO.out.lt
          have old5 : ∀ q, q < wr.heap.size → q ≠ M → w5.heap[q]? = wr.heap[q]? := fun q hq hne => HG5.out.block q hq (fun e => by injection e with e; omega)
          have hgr5 : GraphAt w5 G (l1.length : Int) vc (.slice none 0 0) := (old5 G (by omega) (by omega)).trans HGR.out
          have hrc5 : Kd.R (Kd.int .i64) 3 w5 (M + 1) (fun k => k ≠ M) vc (Hyp.costsOf l0_1 (l1.take i)) := by
            have h0 := Kd.R_mono (ok' := fun k => k ≠ M) (Kd.R_bound HRCo.out) (fun k hk => by have := hk.2.1; omega)
            exact Kd.R_step h0 (fun k hk hlt => old5 k hlt hk)
          have hrc5 := Kd.R_mono (ok' := fun _ => True) hrc5 (fun _ _ => trivial)
          have hB5 : Below wb.heap.size wb w5 := HBE.out.grown HG5.out (by omega) (fun q e => by injection e with e; omega)
          have hpl5 := Places.putD HDO.out.isMap HDS.out (u : Int) (i : Int) HOWN5.out
          rw [HPUT.out] at hpl5
          have hsz5 : wr.heap.size ≤ w5.heap.size := HG5.out.size
          have hbx5 : w5.cell? ⟨w.heap.size, 1, none⟩ = some (.slice (some ⟨bc, oc, none⟩) l0_1.length c0_1) := (hB5.cell (p := ⟨w.heap.size, 1, none⟩) (by show w.heap.size < wb.heap.size; omega)).trans HBOX.out.cells.2.1
          have hck5 := ((HBW.out.trans (hB5.mono (by omega))).cell (p := ⟨bc, oc + u, none⟩) hbc).trans hck
          obtain ⟨_, hgc1, _, _, hgf1, _⟩ := hgr5.cells
          have hgc1a := ((below_alloc (Below.refl _ w5) (.cells #[.int .i64 cu] 3)).cell (p := ⟨G, 1, none⟩) (by show G < w5.heap.size; omega)).trans hgc1
          have HGR5 := Lib.hid hgr5
          have HRC5 := Lib.hid hrc5
          have HB5 := Lib.hid hB5
          have HPL5 := Lib.hid hpl5
          obtain ⟨Ac, cc, rfl⟩ := Kd.R_slice hrc5
          have hcl2 : (Hyp.costsOf l0_1 (l1.take i)).length ≤ 1048576 := by unfold Hyp.costsOf; rw [List.length_map, List.length_take]; omega
          have HNR : Hid (some G ≠ (Value.slice Ac (Hyp.costsOf l0_1 (l1.take i)).length cc).ownBlock) := Lib.hid (hgr5.not_row (own_of_R' HRC5.out) (by decide))
          clear hgr5 hrc5 hB5 hpl5 HOWN5 HDO HDS HGR HRCo HBE HBR HPUT hck old5
          generalize Hyp.costsOf l0_1 (l1.take i) = cs at *
          have hmx : Tryz.prog.follows .mixedOrders = true := by kernel_rfl
          go_wp2
          go_region_law (refine Kd.R_append_step (Kd.int .i64) (W := w5.drew) (w0 := w5.drew) (M + 1) (by rfl) (.tmp 43) (.tmp 49) 22 3 (.int .i64 0) 8 rfl Tryz.underlying22 infoInt rfl (by decide) (by decide) (.slice Ac cs.length cc) cs cu [.int .i64 cu] (fun _ => True) (fun _ => False) rfl rfl rfl (fun _ h => h.elim) (fun _ _ => trivial) (Kd.R_drew HRC5.out) (Below.refl _ _) (by show M + 1 ≤ w5.heap.size; omega) (by omega) ?_; intro v2 w2 hr2 hb2 hg2 hat2; have hgr2 : GraphAt w2 G (l1.length : Int) (.slice Ac cs.length cc) (.slice none 0 0) := (hg2.block G (by show G < w5.heap.size; omega) (HNR.out)).trans HGR5.out; obtain ⟨_, hgc2, _, _, hgf2, _⟩ := hgr2.cells; obtain ⟨A2, c2, rfl⟩ := Kd.R_slice hr2; have HGR2 := Lib.hid hgr2; have HR2 := Lib.hid hr2; have HG2' := Lib.hid hg2; clear hgr2 hr2 hb2 hg2 hat2)
          all_goals have S2 : Hid (PartA wb G M l1.length l0_1 l1 (i + 1) (w2.setCell ⟨G, 1, none⟩ (.slice A2 (cs.length + 1) c2))) := Lib.hid (by
            have hvb : ∀ q, (Value.slice Ac cs.length cc).ownBlock = some q → M + 1 ≤ q := fun q hq => own_base (R_int HRC5.out) q hq
            have hr2 := HR2.out
            rw [List.length_append, List.length_singleton] at hr2
            have h5s : w5.heap.size ≤ w2.heap.size := HG2'.out.size
            refine ⟨_, nm + 1, HGR2.out.put1 _, ?_, ?_, by omega, ?_, ?_⟩
            · rw [HCT.out]
              exact Kd.R_mono (Kd.R_far (p := ⟨G, 1, none⟩) (Kd.R_mono (ok' := fun k => k ≠ G) (Kd.R_bound hr2) (fun k hk => by have := hk.2.1; omega)) (fun _ h => h) _) (fun _ _ => trivial)
            · refine (HPL5.out.step (w1 := w2) (HG2'.out.block M (by show M < w5.heap.size; omega) (fun e => by have := hvb M e.symm; omega))).step (Below.heap_setCell _ _ _ _ (by show M ≠ G; omega))
            · exact ((HB5.out.drew.grown HG2'.out (by show wb.heap.size ≤ w5.heap.size; omega) (fun q e => by have := hvb q e; omega))).setCell (by show wb.heap.size ≤ G; omega) _
            · simp; omega)
          all_goals clear HGR2 HR2 HG2' HRC5 HB5 HPL5 HGR5 HNR
          all_goals go_wp2
          all_goals go_roundg (l1.length - (i + 1))
          all_goals first | omega | exact ⟨i + 1, by go_num, by omega, Nat.le_refl _, S2⟩
        · have hltz : ¬ (i : Int) < (l1.length : Int) := by omega
          obtain rfl : i = l1.length := by omega
          rw [List.take_length] at hrc
          have HRCX := Lib.hid (Kd.R_mono (ok' := fun q => q < wr.heap.size) (Kd.R_bound hrc) (fun q hq => hq.2.2.1))
          have SB : Hid (PartB wb wr G M l1.length (Hyp.costsOf l0_1 l1) l1 l0_2 0 wr) := Lib.hid ⟨vc, _, [], nm, hgr, HRCX.out, rfl, own_nil _ _ _ _, Rows.nil _ _, hpl, Nat.le_refl _, hbel, Nat.le_refl _⟩
          have hbE2 := (hbel.cell (p := ⟨w.heap.size, 2, none⟩) (by show w.heap.size < wb.heap.size; omega)).trans HBOX.out.cells.2.2.1
          have hwbE : wb.heap.size ≤ wr.heap.size := hbel.size
          have hGE := hgr.lt
          clear hgr hrc hpl hbel HRCX
          obtain ⟨wE, hwE⟩ : ∃ wE : World, wE = wr := ⟨_, rfl⟩
          rw [← hwE] at SB hbE2 hwbE hGE hsz ⊢
          clear hwE
          go_wp2
          go_loopg [56] l0_2.length (fun gg s56 wr => ∃ k : Nat, s56 = .int .i64 (k : Int) ∧ k ≤ l0_2.length ∧ l0_2.length - k ≤ gg ∧ Hid (PartB wb wE G M l1.length (Hyp.costsOf l0_1 l1) l1 l0_2 k wr))
          case atStart => exact ⟨0, rfl, by omega, by omega, SB⟩
          case round =>
            clear SB hbE2
            obtain ⟨k, rfl, hk, hgk, S3⟩ := hrel
            obtain ⟨vc, ve, O, nm, hgr, hrc, hol, hown, hrows, hpl, hOk, hbel, hszk⟩ := S3.out
            clear S3
            have HGRk := Lib.hid hgr
            have HRCk := Lib.hid hrc
            have HOL := Lib.hid hol
            have HOW := Lib.hid hown
            have HRWk := Lib.hid hrows
            have HPLk := Lib.hid hpl
            have HBEk := Lib.hid hbel
            clear hgr hrc hol hown hrows hpl hbel
            by_cases hltk : k < l0_2.length
            · have hltkz : (k : Int) < (l0_2.length : Int) := by omega
              obtain ⟨b, off, rfl, hbb, hcs⟩ := C_rows HRD.out (show 0 < l0_2.length by omega)
              obtain ⟨Ax, cx, hcell, hlx, hCx⟩ := hcs k hltk
              have hBwr : Below w.heap.size w wr := HBW.out.trans (HBEk.out.mono (by omega))
              have hcw := (hBwr.cell (p := ⟨b, off + k, none⟩) hbb).trans hcell
              have hmem : l0_2.getD k [] ∈ l0_2 := by rw [List.getD_eq_getElem?_getD, List.getElem?_eq_getElem hltk]; exact List.getElem_mem hltk
              obtain ⟨hxne, hxin, _⟩ := HEDG.out _ hmem
              have hxl := HCC.out.1.2.2 _ hmem
              have HPT := Lib.hid (Hyp.partE_take l1 l0_2 k hltk)
              obtain ⟨x, hx⟩ : ∃ x, x = l0_2.getD k [] := ⟨_, rfl⟩
              rw [← hx] at hcw hlx hCx hxne hxin hxl HPT
              clear hcs hcell hmem hx
              have hx0 : 0 < x.length := List.length_pos_iff.2 hxne
              obtain ⟨bx, ox, rfl, hbbx, hcx⟩ := C_int hCx hx0
              have HCX := Lib.hid hcx
              have HXIN : Hid (∀ j, j < x.length → 0 ≤ x.getD j 0 ∧ x.getD j 0 < (n : Int)) := Lib.hid (fun j hj => by rw [Hyp.getD_get x j hj]; exact hxin _ (List.getElem_mem hj))
              clear hCx hcx hxin hxne
              have HBwr := Lib.hid hBwr
              clear hBwr
              obtain ⟨wo, hwo⟩ : ∃ wo : World, wo = wr := ⟨_, rfl⟩
              rw [← hwo] at HGRk HRCk HOW HRWk HPLk HBEk hszk hcw HBwr ⊢
              clear hwo
              go_wp2
              go_loopg [12, 62] x.length (fun gg s12 s62 wr => ∃ j : Nat, s62 = .int .i64 (j : Int) ∧ j ≤ x.length ∧ x.length - j ≤ gg ∧ Hid (Below wo.heap.size wo wr) ∧ Hid (Kd.R (Kd.int .i64) 3 wr wo.heap.size (fun _ => True) s12 (Hyp.edgeTo l1 (x.take j))))
              case atStart => exact ⟨0, rfl, by omega, by omega, Lib.hid (Below.refl _ _), Lib.hid (Kd.R_nil _ _ _ _ _)⟩
              case round =>
                clear hcw
                obtain ⟨j, rfl, hj, hgj, HBF, HRF⟩ := hrel
                have hel := Hyp.edgeTo_len l1 (x.take j)
                rw [List.length_take, Nat.min_eq_left hj] at hel
                by_cases hltj : j < x.length
                · have hltjz : (j : Int) < (x.length : Int) := by omega
                  have hcj := ((HBwr.out.trans (HBF.out.mono (by omega))).cell (p := ⟨bx, ox + j, none⟩) hbbx).trans (HCX.out j hltj)
                  obtain ⟨hj0, hj1⟩ := HXIN.out j hltj
                  have HET := Lib.hid (Hyp.edgeTo_take l1 x j hltj)
                  generalize x.getD j 0 = y at *
                  have hlook := (HPLk.out.step (HBF.out.block M (by omega))).look y (WalkArith.wf_i64 ⟨by omega, by omega⟩)
                  rw [Hyp.placeV_all] at hlook
                  obtain ⟨Af, cf, rfl⟩ := Kd.R_slice HRF.out
                  by_cases hym : y ∈ l1
                  · rw [if_pos hym] at hlook
                    have HYM := Lib.hid hym
                    rw [if_pos hym] at HET
                    clear hym
                    obtain ⟨f0, hf0⟩ : ∃ f, f = Hyp.edgeTo l1 (x.take j) := ⟨_, rfl⟩
                    rw [← hf0] at HRF HET hel ⊢
                    clear hf0
                    generalize Hyp.idx l1 y = iy at *
                    go_wp2_with (at_builtin; refine hold_here ?_)
                    refine hold_out ?_
                    refine Kd.R_append (Kd.int .i64) (W := wr) (w0 := wr) wo.heap.size rfl _ _ 22 3 (.int .i64 0) 8 rfl Tryz.underlying22 infoInt rfl (by decide) (by decide) (.slice Af f0.length cf) f0 iy [.int .i64 iy] (fun _ => True) (fun _ => False) rfl rfl rfl (fun _ h => h.elim) (fun _ _ => trivial) HRF.out (Below.refl _ _) HBF.out.size (by omega) ?_
                    intro v2 w2 hr2 hb2 hg2 hat2
                    have HB2 := Lib.hid (HBF.out.grown hg2 HBF.out.size (fun q e => own_base (R_int HRF.out) q e))
                    have HR2 := Lib.hid hr2
                    clear hr2 hb2 hg2 hat2
                    rw [← HET.out] at HR2
                    obtain ⟨A2, c2, rfl⟩ := Kd.R_slice HR2.out
                    go_wp2
                    go_roundg (x.length - (j + 1))
                    case measure => omega
                    case rel => exact ⟨j + 1, by go_num, by omega, Nat.le_refl _, HB2, HR2⟩
                  · rw [if_neg hym] at hlook
                    rw [if_neg hym, List.append_nil] at HET
                    rw [← HET.out] at HRF
                    clear hym
                    obtain ⟨f0, hf0⟩ : ∃ f, f = Hyp.edgeTo l1 (x.take j) := ⟨_, rfl⟩
                    rw [← hf0] at HET hel ⊢
                    go_wp2
                    go_roundg (x.length - (j + 1))
                    case measure => omega
                    case rel => exact ⟨j + 1, by go_num, by omega, Nat.le_refl _, HBF, by rw [HET.out] at HRF ⊢; exact HRF⟩
                · have hltjz : ¬ (j : Int) < (x.length : Int) := by omega
                  obtain rfl : j = x.length := by omega
                  rw [List.take_length] at HRF
                  clear hel hltj hltjz hgj hj
                  have hel := Hyp.edgeTo_len l1 x
                  have hos := HBF.out.size
                  have HGRr : Hid (GraphAt wr G (l1.length : Int) vc ve) := Lib.hid ((HBF.out.block G (by omega)).trans HGRk.out)
                  have HOWr := Lib.hid (own_move HOW.out (fun q hq => HBF.out.block q (own_lt HOW.out q hq)))
                  have HBEr := Lib.hid (HBEk.out.trans (HBF.out.mono (by omega)))
                  have HPLr := Lib.hid (HPLk.out.step (HBF.out.block M (by omega)))
                  have HRCr := Lib.hid (Kd.R_below HRCk.out HBF.out)
                  obtain ⟨_, _, hge2, _, _, hgf2⟩ := HGRr.out.cells
                  obtain ⟨Af, cf, rfl⟩ := Kd.R_slice HRF.out
                  obtain ⟨Ae, ce, rfl⟩ := own_slice HOWr.out
                  by_cases hfull : (Hyp.edgeTo l1 x).length = x.length
                  · obtain ⟨hall, hidx⟩ := Hyp.edgeTo_full hfull
                    rw [if_pos hall, ← hidx] at HPT
                    have HRWs := Lib.hid (HRWk.out.snoc (x := ⟨.slice Af (Hyp.edgeTo l1 x).length cf, Hyp.edgeTo l1 x⟩) HBF.out hszk (R_int HRF.out) (by show 0 < (Hyp.edgeTo l1 x).length; omega))
                    obtain ⟨f0, hf0⟩ : ∃ f, f = Hyp.edgeTo l1 x := ⟨_, rfl⟩
                    rw [← hf0] at HRF HPT hel hfull HRWs ⊢
                    have hfullz : ((f0.length : Nat) : Int) = (x.length : Int) := by omega
                    rw [hfull]
                    rw [hfull] at HRF HRWs
                    clear hall hidx hf0 hfull
                    go_wp2_with (at_builtin; refine hold_here ?_)
                    refine hold_out ?_
                    refine wpList_append_own _ rfl _ _ 23 rfl wE.heap.size 22 iR (.slice none 0 0) 1 24 Tryz.underlying23 hiR hzR0 hzR1 hzR2 rfl (by decide) (.slice Ae O.length ce) O.length (O.map Row.v) rfl (HOWr.out.alloc _) ⟨wr.heap.size, 0, none⟩ 1 1 [.slice Af x.length cf] rfl rfl (cell_one_new _ _ _) (by simp [Value.oneCell']) (by unfold maxLen; omega) (by omega) (by simp; omega) ?_
                    intro v5 w5 ho5 hg5 _
                    have hvb : ∀ q, (Value.slice Ae O.length ce).ownBlock = some q → wE.heap.size ≤ q := fun q hq => own_base HOWr.out q hq
                    have old5 : ∀ q, q < wr.heap.size → (∀ p, (Value.slice Ae O.length ce).ownBlock = some p → q ≠ p) → w5.heap[q]? = wr.heap[q]? := fun q hq hne =>
                      (hg5.block q (by simp; omega) (fun e => hne q e.symm rfl)).trans (Below.heap_alloc _ _ _ hq)
                    have hgr5 : GraphAt w5 G (l1.length : Int) vc (.slice Ae O.length ce) := (old5 G (by omega) (fun p hp => by have := hvb p hp; omega)).trans HGRr.out
                    obtain ⟨_, _, hge5, _, _, hgf5⟩ := hgr5.cells
                    obtain ⟨A5, c5, rfl⟩ := own_slice ho5
                    have S4 : Hid (PartB wb wE G M l1.length (Hyp.costsOf l0_1 l1) l1 l0_2 (k + 1) (w5.setCell ⟨G, 2, none⟩ (.slice A5 (O.length + 1) c5))) := Lib.hid (by
                      refine ⟨vc, _, O ++ [⟨.slice Af x.length cf, f0⟩], nm, hgr5.put2 _, ?_, ?_, ?_, ?_, ?_, by simp; omega, ?_, ?_⟩
                      · have h1 := Kd.R_bound HRCr.out
                        have h2 := Kd.R_step h1 (w1 := w5) (fun q hq hlt => old5 q hlt (fun p hp => by have := hvb p hp; have := hq.1; omega))
                        have h3 := Kd.R_step h2 (w1 := w5.setCell ⟨G, 2, none⟩ (.slice A5 (O.length + 1) c5)) (fun q hq hlt => Below.heap_setCell _ _ _ _ (by show q ≠ G; have := hq.2.1; omega))
                        exact Kd.R_mono h3 (fun q hq => hq.1)
                      · rw [List.map_append, HOL.out, HPT.out]; rfl
                      · refine own_move (own_row_list (x := ⟨.slice Af x.length cf, f0⟩) ho5) (fun q hq => Below.heap_setCell _ _ _ _ (fun e => ?_))
                        have := own_base ho5 q hq
                        have e' : q = G := e
                        omega
                      · refine (Rows.push HRWs.out HOWr.out hg5).step (fun q cells hb _ _ => Below.heap_setCell _ _ _ _ (by show q ≠ G; omega))
                      · refine (HPLr.out.step (old5 M (by omega) (fun p hp => by have := hvb p hp; omega))).step (Below.heap_setCell _ _ _ _ (by show M ≠ G; omega))
                      · exact ((HBEr.out.alloc (by omega) _).grown hg5 (by simp; omega) (fun q e => by have := hvb q e; omega)).setCell (by show wb.heap.size ≤ G; omega) _
                      · have := hg5.size; simp at this ⊢; omega)
                    clear ho5 hg5 old5 hgr5 HRWs HOWr HBEr HPLr HRCr HGRr hvb
                    go_wp2
                    go_roundg (l0_2.length - (k + 1))
                    case measure => omega
                    case rel => exact ⟨k + 1, by go_num, by omega, Nat.le_refl _, S4⟩
                  · have hpart := Hyp.edgeTo_part hfull
                    rw [if_neg (by rw [hpart]; simp), List.append_nil] at HPT
                    have S4 : Hid (PartB wb wE G M l1.length (Hyp.costsOf l0_1 l1) l1 l0_2 (k + 1) wr) := Lib.hid
                      ⟨vc, _, O, nm, HGRr.out, HRCr.out, by rw [HOL.out, HPT.out], HOWr.out, HRWk.out.below HBF.out, HPLr.out, by omega, HBEr.out, by omega⟩
                    obtain ⟨f0, hf0⟩ : ∃ f, f = Hyp.edgeTo l1 x := ⟨_, rfl⟩
                    rw [← hf0] at hel hfull ⊢
                    have hfullz : ¬ ((f0.length : Nat) : Int) = (x.length : Int) := by omega
                    clear hpart hf0 hge2 hgf2
                    go_wp2
                    go_roundg (l0_2.length - (k + 1))
                    case measure => omega
                    case rel => exact ⟨k + 1, by go_num, by omega, Nat.le_refl _, S4⟩
            · have hltkz : ¬ (k : Int) < (l0_2.length : Int) := by omega
              obtain rfl : k = l0_2.length := by omega
              rw [List.take_length] at HOL
              obtain ⟨hga0, hga1, hga2, _, _, _⟩ := HGRk.out.cells
              have HRSr : Hid (GraphAt wr (w.heap.size + 1) 0 (.slice none 0 0) (.slice none 0 0)) := Lib.hid ((HBEk.out.block _ (by omega)).trans HRES.out)
              obtain ⟨hra0, hra1, hra2, hrf0, hrf1, hrf2⟩ := HRSr.out.cells
              obtain ⟨Ac, cc, rfl⟩ := Kd.R_slice HRCk.out
              obtain ⟨Ae, ce, rfl⟩ := own_slice HOW.out
              have hvc : ∀ q, (Value.slice Ac (Hyp.costsOf l0_1 l1).length cc).ownBlock = some q → q < wE.heap.size := fun q hq => HRCk.out.1 q hq
              have HVC := Lib.hid hvc
              have HRC2 := Lib.hid (Kd.R_bound HRCk.out)
              have HS := Lib.hid (Kd.S_bound (Rows.toS HRWk.out HOW.out))
              rw [HOL.out] at HS
              clear hvc HRCk HRWk HOW
              go_wp2
              refine bodyPost_ret (results_ct rfl _ _ (w.heap.size + 1) 25 #[.int .i64 (l1.length : Int), .slice Ac (Hyp.costsOf l0_1 l1).length cc, .slice Ae O.length ce] (0, 0) _ rfl ?_ Tryz.underlying25 rfl (by kernel_rfl)) rfl ?_
              · refine blk_put (cs := #[.int .i64 (l1.length : Int), .slice Ac (Hyp.costsOf l0_1 l1).length cc, .slice none 0 0]) ?_ 2 _ rfl
                refine blk_put (cs := #[.int .i64 (l1.length : Int), .slice none 0 0, .slice none 0 0]) ?_ 1 _ rfl
                refine blk_put (cs := #[.int .i64 0, .slice none 0 0, .slice none 0 0]) ?_ 0 _ rfl
                exact HRSr.out
              · refine ⟨_, _, rfl, ?_, ?_, ?_⟩
                · refine Kd.R_mono (Kd.R_lower (Kd.R_far (p := ⟨w.heap.size + 1, 2, none⟩) (Kd.R_far (p := ⟨w.heap.size + 1, 1, none⟩) (Kd.R_far (p := ⟨w.heap.size + 1, 0, none⟩) HRC2.out (fun q hq => ?_) _) (fun q hq => ?_) _) (fun q hq => ?_) _) (by omega)) (fun _ _ => trivial)
                  all_goals (show q ≠ w.heap.size + 1; have := hq.2.1; omega)
                · refine Kd.S_mono (Kd.S_lower (Kd.S_far (p := ⟨w.heap.size + 1, 2, none⟩) (Kd.S_far (p := ⟨w.heap.size + 1, 1, none⟩) (Kd.S_far (p := ⟨w.heap.size + 1, 0, none⟩) HS.out (fun q hq => ?_) _) (fun q hq => ?_) _) (fun q hq => ?_) _) (by omega)) (fun q hq e => ?_)
                  all_goals first | (show q ≠ w.heap.size + 1; have := hq.2.1; omega) | (have := HVC.out q e.symm; have := hq.2.1; omega)
                · have hb := HBW.out.trans (HBEk.out.mono (show w.heap.size ≤ wb.heap.size by omega))
                  exact below_set (below_set (below_set hb (by omega)) (by omega)) (by omega)
    · have hif : Hyp.isSetB l1 a0_0 = false := by simpa using his
      rw [hif]
      obtain ⟨rfl, rfl, rfl, rfl⟩ := HBAD.out (fun h => his h.2)
      go_wp2
      refine bodyPost_ret (results_ct rfl _ _ (w.heap.size + 1) 25 #[.int .i64 0, .slice none 0 0, .slice none 0 0] (0, 0) _ rfl ?_ Tryz.underlying25 rfl (by kernel_rfl)) rfl ?_
      · refine blk_put (cs := #[.int .i64 0, .slice none 0 0, .slice none 0 0]) ?_ 2 _ rfl
        refine blk_put (cs := #[.int .i64 0, .slice none 0 0, .slice none 0 0]) ?_ 1 _ rfl
        refine blk_put (cs := #[.int .i64 0, .slice none 0 0, .slice none 0 0]) ?_ 0 _ rfl
        exact HG2.out
      · exact ⟨_, _, rfl, Kd.R_nil _ _ _ _ _, Kd.S_nil _ _ _ _ _, by repeat first | exact HBW.out.trans (HB1.out.mono (by omega)) | apply pw_below_drewN | refine below_set ?_ (by omega)⟩
  · have hvf : Hyp.validB a0_0 l0_1 l0_2 = false := by simpa using hvd
    rw [hvf]
    obtain ⟨rfl, rfl, rfl, rfl⟩ := HBAD.out (fun h => hvd h.1)
    go_wp2
    refine bodyPost_ret (results_ct rfl _ _ (w.heap.size + 1) 25 #[.int .i64 0, .slice none 0 0, .slice none 0 0] (0, 0) _ rfl ?_ Tryz.underlying25 rfl (by kernel_rfl)) rfl ?_
    · refine blk_put (cs := #[.int .i64 0, .slice none 0 0, .slice none 0 0]) ?_ 2 _ rfl
      refine blk_put (cs := #[.int .i64 0, .slice none 0 0, .slice none 0 0]) ?_ 1 _ rfl
      refine blk_put (cs := #[.int .i64 0, .slice none 0 0, .slice none 0 0]) ?_ 0 _ rfl
      exact HG2.out
    · exact ⟨_, _, rfl, Kd.R_nil _ _ _ _ _, Kd.S_nil _ _ _ _ _, by repeat first | exact HBW.out.trans (HB1.out.mono (by omega)) | apply pw_below_drewN | refine below_set ?_ (by omega)⟩
end Go.Proofs.YtgjbnmobhafajaaGreatDoor
end
section
namespace Go.Proofs.YtgjbnmobhafajaaGreatDoor
open Go Go.RowKit Go.Sort Go.Shelf Go.Proofs.YtgjbnmobhafajaaGreatDoorW.PrintWords Go.Proofs.YtgjbnmobhafajaaGreatDoorW.PrintLast
theorem wrap_small {x : Int} (h0 : -9223372036854775808 ≤ x) (h1 : x ≤ 9223372036854775807) : wrap64 x = x := by unfold wrap64; omega
def Hyp.badEdge (n : Int) (e : List Int) : Bool := e.isEmpty || !Hyp.isSetB (Hyp.setOf e) n
def Hyp.makeF (n : Int) (cost : List Int) (edges : List (List Int)) : Int × List Int × List (List Int) × Int :=
  if Hyp.weighedB n cost = true ∧ edges.any (Hyp.badEdge n) = false then
    if (Hyp.minimal edges).length > 20000 then (0, [], [], 3) else (n, cost, Hyp.minimal edges, 0)
  else (0, [], [], 1)
def hyper_Make.f (a0 : Int) (l1 : List Int) (l2 : List (List Int)) : Option (Int × List Int × (List (List Int)) × Int) :=
  if l1.length ≤ 100 ∧ l2.length ≤ 1048576 ∧ ∀ x ∈ l2, x.length ≤ 1048576 then some (Hyp.makeF a0 l1 l2) else none
theorem Hyp.good_edge {n : Int} {e : List Int} (h : Hyp.badEdge n e = false) : e ≠ [] ∧ ∀ x ∈ e, 0 ≤ x ∧ x < n := by
  unfold Hyp.badEdge at h
  simp only [Bool.or_eq_false_iff, Bool.not_eq_false'] at h
  refine ⟨fun e0 => by rw [e0] at h; simp at h, fun x hx => ?_⟩
  exact ((Hyp.isSetB_iff _ _).1 h.2).1 x ((Hyp.mem_setOf e x).2 hx)
theorem Hm_Make_l0 (n : Int) (hn : n ≤ 100) (cost : List Int) (edges : List (List Int)) (hc : cost.length ≤ 1099511627776) (hl : edges.length ≤ 1048576) (he : ∀ x ∈ edges, x.length ≤ 1048576) :
    ∀ k i : Nat, i ≤ edges.length → edges.length - i < k → (∀ e ∈ edges.take i, Hyp.badEdge n e = false) →
      Hm.hyper_Make.l0 k n cost edges edges (edges.length : Int) (i : Int) = some (if edges.any (Hyp.badEdge n) = false then (if (Hyp.minimal edges).length > 20000 then (0, [], [], 3) else (n, cost, Hyp.minimal edges, 0)) else (0, [], [], 1)) := by
  intro k
  induction k with
  | zero => intro i h1 h2; omega
  | succ k ih =>
    intro i h1 h2 hp
    rw [Hm.hyper_Make.l0]
    by_cases hlt : i < edges.length
    · rw [if_pos (by omega), if_pos (by omega), if_pos (by omega)]
      have hrd : Hm.rd_L1 edges (i : Int) = edges[i] := by
        unfold Hm.rd_L1
        rw [show ((i : Int)).toNat = i from rfl, List.getD_eq_getElem?_getD, List.getElem?_eq_getElem hlt]; rfl
      have hmem : edges[i] ∈ edges := List.getElem_mem hlt
      have hel := he _ hmem
      rw [hrd]
      by_cases hbad : Hyp.badEdge n edges[i] = true
      · have hany : edges.any (Hyp.badEdge n) = true := List.any_eq_true.2 ⟨_, hmem, hbad⟩
        rw [hany]
        unfold Hyp.badEdge at hbad
        by_cases h0 : edges[i].length = 0
        · rw [if_pos (by omega)]; simp
        · rw [if_neg (by omega)]
          have hne : edges[i].isEmpty = false := by cases h : edges[i] <;> simp_all
          rw [hne, Bool.false_or] at hbad
          have hf : Hyp.isSetB (Hyp.setOf edges[i]) n = false := by simpa using hbad
          unfold hyper_set.f hyper_isSet.f
          rw [if_pos (by omega)]
          simp [hf]
      · have hgood : Hyp.badEdge n edges[i] = false := by simpa using hbad
        obtain ⟨hne, _⟩ := Hyp.good_edge hgood
        have hlen : ¬ edges[i].length = 0 := fun h => hne (List.eq_nil_of_length_eq_zero h)
        have ht : Hyp.isSetB (Hyp.setOf edges[i]) n = true := by
          unfold Hyp.badEdge at hgood
          simp only [Bool.or_eq_false_iff, Bool.not_eq_false'] at hgood
          exact hgood.2
        rw [if_neg (by omega)]
        unfold hyper_set.f hyper_isSet.f
        rw [if_pos (by omega)]
        simp only [Option.bind_some, ht, if_true]
        rw [wrap_small (by omega) (by omega), show (i : Int) + 1 = ((i + 1 : Nat) : Int) from by omega]
        refine ih (i + 1) (by omega) (by omega) fun e hm => ?_
        rw [List.take_succ_eq_append_getElem hlt] at hm
        rcases List.mem_append.1 hm with hm | hm
        · exact hp e hm
        · simp at hm; subst hm; exact hgood
    · rw [if_neg (by omega)]
      obtain rfl : i = edges.length := by omega
      rw [List.take_length] at hp
      have hany : edges.any (Hyp.badEdge n) = false := by
        rw [List.any_eq_false]
        intro e hm
        rw [hp e hm]; simp
      rw [if_pos hany]
      have hm : hyper_Minimal.f edges = some (Hyp.minimal edges) := by
        unfold hyper_Minimal.f
        rw [if_pos ⟨hl, he, fun x hx y hy => by have := (Hyp.good_edge (hp x hx)).2 y hy; omega⟩]
      rw [hm]
      simp only [Option.bind_some]
      by_cases hbig : (Hyp.minimal edges).length > 20000
      · rw [if_pos (by omega), if_pos hbig]
      · rw [if_neg (by omega), if_neg hbig]
        unfold slices_Clone_int_int.f
        rw [if_pos hc]
        simp
theorem hyper_Make.calls (a0 : Int) (A1 : Option Addr) (c1 : Nat) (l1 : List Int) (A2 : Option Addr) (c2 : Nat) (l2 : List (List Int)) (r1 : Int) (r2 : List Int) (r3 : List (List Int)) (r4 : Int) (w : World) (hr1 : Kd.C (Kd.int .i64) w A1 l1.length l1) (hc1 : l1.length ≤ c1) (hr2 : Kd.C (Kd.slice 3 (Kd.int .i64)) w A2 l2.length l2) (hc2 : l2.length ≤ c2) (h : hyper_Make.f a0 l1 l2 = some (r1, r2, r3, r4)) :
    Calls Tryz.prog 7 #[.int .i64 a0, .slice A1 l1.length c1, .slice A2 l2.length c2] w fun e w' => ∃ v1_ v2_ : Value, e = .returned (.tuple #[.agg #[.int .i64 r1, v1_, v2_], .int .i64 r4]) ∧ Kd.R (Kd.int .i64) 3 w' w.heap.size (fun _ => True) v1_ r2 ∧ Kd.S (Kd.slice 3 (Kd.int .i64)) 22 w' w.heap.size (fun k_ => some k_ ≠ (v1_ : Value).ownBlock) v2_ r3 ∧ Below w.heap.size w w' := by
  refine Hm.hyper_Make.calls (l2.length + 1) a0 A1 c1 l1 A2 c2 l2 r1 r2 r3 r4 w hr1 hc1 hr2 hc2 ?_
  unfold hyper_Make.f at h
  split at h
  · rename_i hcc
    obtain ⟨h1, h2, h3⟩ := hcc
    rw [← h]
    unfold Hm.hyper_Make.f hyper_weighed.f Hyp.makeF
    simp only [Option.bind_some]
    by_cases hw : Hyp.weighedB a0 l1 = true
    · rw [if_pos hw]
      have hn : a0 ≤ 100 := by
        unfold Hyp.weighedB at hw
        simp only [Bool.and_eq_true, decide_eq_true_eq] at hw
        omega
      have := Hm_Make_l0 a0 hn l1 l2 (by omega) h2 h3 (l2.length + 1) 0 (Nat.zero_le _) (by omega) (fun e he => by simp at he)
      rw [show ((0 : Nat) : Int) = 0 from rfl] at this
      rw [this]
      congr 1
      by_cases ha : l2.any (Hyp.badEdge a0) = false
      · simp only [hw, ha, and_self, if_true]
      · simp [hw, ha]
    · rw [if_neg hw, if_neg (fun h => hw h.1)]
  · cases h
end Go.Proofs.YtgjbnmobhafajaaGreatDoor
end
section
namespace Go.Proofs.YtgjbnmobhafajaaGreatDoor
open Go Go.RowKit Go.Sort Go.Shelf Go.Proofs.YtgjbnmobhafajaaGreatDoorW.PrintWords Go.Proofs.YtgjbnmobhafajaaGreatDoorW.PrintLast
def Hyp.marks (n : Nat) (P : Nat → Bool) : List Bool := (List.range n).map P
def Hyp.freeUp (P : Nat → Bool) (i : Nat) : List Int := ((List.range i).filter fun v => !P v).map fun (v : Nat) => (v : Int)
def Hyp.inB (edges : List (List Int)) (v : Nat) : Bool := edges.any fun e => e.contains (v : Int)
def Hyp.aloneOf (edges : List (List Int)) : List Int := (edges.filter fun e => e.length == 1).map fun e => e.getD 0 0
def Hyp.fixedF (n : Int) (cost : List Int) (edges : List (List Int)) : List Int × List Int :=
  if Hyp.validB n cost edges = true then (Hyp.freeUp (Hyp.inB edges) n.toNat, Hyp.aloneOf edges) else ([], [])
def hyper_Fixed.f (a0_0 : Int) (l0_1 : List Int) (l0_2 : List (List Int)) : Option (List Int × List Int) :=
  if a0_0 ≤ 100 ∧ l0_2.length ≤ 1048576 ∧ ∀ x ∈ l0_2, x.length ≤ 1048576 then some (Hyp.fixedF a0_0 l0_1 l0_2) else none
theorem Hyp.marks_len (n : Nat) (P : Nat → Bool) : (Hyp.marks n P).length = n := by simp [Hyp.marks]
theorem Hyp.marks_get (n : Nat) (P : Nat → Bool) (i : Nat) (hi : i < n) : (Hyp.marks n P).getD i false = P i := by simp [Hyp.marks, hi]
theorem Hyp.marks_set (n : Nat) (P : Nat → Bool) (v : Nat) : (Hyp.marks n P).set v true = Hyp.marks n (fun x => P x || x == v) := by
  refine List.ext_getElem (by simp [Hyp.marks]) fun i h1 h2 => ?_
  rw [List.getElem_set]
  simp only [Hyp.marks, List.getElem_map, List.getElem_range]
  split
  · rename_i h; subst h; simp
  · rename_i h
    have : (i == v) = false := by simpa using fun e => h e.symm
    rw [this, Bool.or_false]
theorem Hyp.freeUp_succ (P : Nat → Bool) (i : Nat) : Hyp.freeUp P (i + 1) = Hyp.freeUp P i ++ if P i = true then [] else [(i : Int)] := by
  unfold Hyp.freeUp
  rw [List.range_succ, List.filter_append, List.map_append]
  congr 1
  by_cases h : P i = true <;> simp [h]
theorem Hyp.freeUp_len (P : Nat → Bool) (i : Nat) : (Hyp.freeUp P i).length ≤ i := by
  unfold Hyp.freeUp
  rw [List.length_map]
  have := List.length_filter_le (fun v => !P v) (List.range i)
  simpa using this
theorem Hm_Fixed_l2 (n : Nat) (hn : n ≤ 100) (P : Nat → Bool) (alone : List Int) : ∀ k i : Nat, i ≤ n → n - i < k →
    Hm.hyper_Fixed.l2 k (Hyp.marks n P) (Hyp.freeUp P i) alone (n : Int) (i : Int) = some (Hyp.freeUp P n, alone) := by
  intro k
  induction k with
  | zero => intro i h1 h2; omega
  | succ k ih =>
    intro i h1 h2
    rw [Hm.hyper_Fixed.l2]
    by_cases hlt : i < n
    · have hfl := Hyp.freeUp_len P i
      rw [if_pos (by omega), if_pos (by omega), if_pos (by rw [Hyp.marks_len]; omega)]
      have hrd : rdOf false (Hyp.marks n P) (i : Int) = P i := by
        show (Hyp.marks n P).getD (i : Int).toNat false = P i
        exact Hyp.marks_get n P i hlt
      have hs := Hyp.freeUp_succ P i
      rw [hrd, wrap_small (by omega) (by omega), show (i : Int) + 1 = ((i + 1 : Nat) : Int) from by omega]
      by_cases hp : P i = true
      · rw [if_pos hp]
        rw [if_pos hp, List.append_nil] at hs
        rw [← hs]
        exact ih (i + 1) (by omega) (by omega)
      · rw [if_neg hp, if_pos (by omega)]
        rw [if_neg hp] at hs
        rw [← hs]
        exact ih (i + 1) (by omega) (by omega)
    · rw [if_neg (by omega)]
      obtain rfl : i = n := by omega
      rfl
theorem Hyp.aloneOf_take (edges : List (List Int)) (i : Nat) (hi : i < edges.length) : Hyp.aloneOf (edges.take (i + 1)) = Hyp.aloneOf (edges.take i) ++ if edges[i].length = 1 then [edges[i].getD 0 0] else [] := by
  unfold Hyp.aloneOf
  rw [List.take_succ_eq_append_getElem hi, List.filter_append, List.map_append]
  congr 1
  generalize edges[i] = e
  by_cases h : e.length = 1
  · rw [if_pos h, List.filter_cons_of_pos (by simpa using h)]; rfl
  · rw [if_neg h, List.filter_cons_of_neg (by simpa using h)]; rfl
theorem Hyp.aloneOf_len (edges : List (List Int)) : (Hyp.aloneOf edges).length ≤ edges.length := by
  unfold Hyp.aloneOf
  rw [List.length_map]
  exact List.length_filter_le _ _
theorem Hyp.inB_take (edges : List (List Int)) (i : Nat) (hi : i < edges.length) (v : Nat) : Hyp.inB (edges.take (i + 1)) v = (Hyp.inB (edges.take i) v || edges[i].contains (v : Int)) := by
  unfold Hyp.inB
  rw [List.take_succ_eq_append_getElem hi, List.any_append]
  simp
theorem Hm_Fixed_l1 (n : Nat) (hn : n ≤ 100) (cost : List Int) (edges : List (List Int)) (i : Nat) (e : List Int) (he : ∀ x ∈ e, 0 ≤ x ∧ x < (n : Int)) (hel : e.length ≤ n) (alone : List Int) (hal : alone.length ≤ 1048576) (hi : i < 1048576) (a0 : Int) (R : Option (List Int × List Int)) (k0 : Nat)
    (hR : ∀ k, k0 ≤ k → ∀ P' : Nat → Bool, (∀ v, v < n → P' v = (Hyp.inB (edges.take i) v || e.contains (v : Int))) → Hm.hyper_Fixed.l0 k (Hyp.marks n P') (alone ++ if e.length = 1 then [e.getD 0 0] else []) edges (edges.length : Int) ((i + 1 : Nat) : Int) a0 cost edges = R) :
    ∀ k j : Nat, ∀ P : Nat → Bool, (∀ v, v < n → P v = (Hyp.inB (edges.take i) v || (e.take j).contains (v : Int))) → j ≤ e.length → k0 + (e.length - j) < k →
      Hm.hyper_Fixed.l1 k (Hyp.marks n P) alone e edges (edges.length : Int) (i : Int) e (e.length : Int) (j : Int) a0 cost edges = R := by
  intro k
  induction k with
  | zero => intro j P hP h1 h2; omega
  | succ k ih =>
    intro j P hP h1 h2
    rw [Hm.hyper_Fixed.l1]
    by_cases hlt : j < e.length
    · have hrd : rd e (j : Int) = e.getD j 0 := rfl
      obtain ⟨hv0, hv1⟩ := he (e.getD j 0) (by rw [Hyp.getD_get e j hlt]; exact List.getElem_mem hlt)
      rw [if_pos (by omega), if_pos (by omega), if_pos (by omega), hrd, if_pos hv0, if_pos (by rw [Hyp.marks_len]; omega), Hyp.marks_set, wrap_small (by omega) (by omega), show (j : Int) + 1 = ((j + 1 : Nat) : Int) from by omega]
      refine ih (j + 1) _ (fun v hv => ?_) (by omega) (by omega)
      rw [hP v hv, List.take_succ_eq_append_getElem hlt, ← Hyp.getD_get e j hlt, Bool.or_assoc]
      congr 1
      rw [Bool.eq_iff_iff]
      simp only [Bool.or_eq_true, List.contains_iff_mem, List.mem_append, List.mem_singleton, beq_iff_eq]
      constructor
      · rintro (h | h)
        · exact .inl h
        · exact .inr (by omega)
      · rintro (h | h)
        · exact .inl h
        · exact .inr (by omega)
    · obtain rfl : j = e.length := by omega
      rw [List.take_length] at hP
      rw [if_neg (by omega), wrap_small (by omega) (by omega), show (i : Int) + 1 = ((i + 1 : Nat) : Int) from by omega]
      have := hR k (by omega) P hP
      by_cases h1e : e.length = 1
      · rw [if_pos (by omega), if_pos (by omega), if_pos (by omega)]
        rw [if_pos h1e] at this
        have hrd : rd e 0 = e.getD 0 0 := rfl
        rw [hrd]; exact this
      · rw [if_neg (by omega)]
        rw [if_neg h1e, List.append_nil] at this
        exact this
theorem Hm_Fixed_l0 (n : Nat) (hn : n ≤ 100) (cost : List Int) (edges : List (List Int)) (hlen : edges.length ≤ 1048576) (he : ∀ e ∈ edges, ∀ x ∈ e, 0 ≤ x ∧ x < (n : Int)) (hel : ∀ e ∈ edges, e.length ≤ n) :
    ∀ m i k : Nat, edges.length - i = m → i ≤ edges.length → m * (n + 3) + n + 2 ≤ k → ∀ P : Nat → Bool, (∀ v, v < n → P v = Hyp.inB (edges.take i) v) →
      Hm.hyper_Fixed.l0 k (Hyp.marks n P) (Hyp.aloneOf (edges.take i)) edges (edges.length : Int) (i : Int) (n : Int) cost edges = some (Hyp.freeUp (Hyp.inB edges) n, Hyp.aloneOf edges) := by
  intro m
  induction m with
  | zero =>
    intro i k h1 h2 h3 P hP
    obtain rfl : i = edges.length := by omega
    rw [List.take_length] at hP ⊢
    obtain ⟨k, rfl⟩ : ∃ k', k = k' + 1 := ⟨k - 1, by omega⟩
    rw [Hm.hyper_Fixed.l0, if_neg (by omega)]
    have hm : Hyp.marks n P = Hyp.marks n (Hyp.inB edges) := List.map_congr_left fun v hv => hP v (List.mem_range.1 hv)
    rw [hm]
    exact Hm_Fixed_l2 n hn (Hyp.inB edges) _ k 0 (Nat.zero_le _) (by omega)
  | succ m ih =>
    intro i k h1 h2 h3 P hP
    have hlt : i < edges.length := by omega
    obtain ⟨k, rfl⟩ : ∃ k', k = k' + 1 := ⟨k - 1, by omega⟩
    rw [Hm.hyper_Fixed.l0, if_pos (by omega), if_pos (by omega), if_pos (by omega)]
    have hrd : Hm.rd_L1 edges (i : Int) = edges[i] := by
      unfold Hm.rd_L1
      rw [show ((i : Int)).toNat = i from rfl, List.getD_eq_getElem?_getD, List.getElem?_eq_getElem hlt]; rfl
    have hmem : edges[i] ∈ edges := List.getElem_mem hlt
    rw [hrd]
    have hal := Hyp.aloneOf_len (edges.take i)
    rw [List.length_take] at hal
    have hel' := hel _ hmem
    have hmul : (m + 1) * (n + 3) = m * (n + 3) + (n + 3) := by rw [Nat.succ_mul]
    refine Hm_Fixed_l1 n hn cost edges i edges[i] (he _ hmem) hel' _ (by omega) (by omega) (n : Int) _ (m * (n + 3) + n + 2) (fun k' hk' P' hP' => ?_) k 0 P (fun v hv => by rw [hP v hv]; simp) (Nat.zero_le _) (by omega)
    rw [← Hyp.aloneOf_take edges i hlt]
    refine ih (i + 1) k' (by omega) (by omega) hk' P' fun v hv => ?_
    rw [hP' v hv, Hyp.inB_take edges i hlt]
theorem hyper_Fixed.calls (a0_0 : Int) (A0_1 : Option Addr) (c0_1 : Nat) (l0_1 : List Int) (A0_2 : Option Addr) (c0_2 : Nat) (l0_2 : List (List Int)) (r1 : List Int) (r2 : List Int) (w : World) (hr0_1 : Kd.C (Kd.int .i64) w A0_1 l0_1.length l0_1) (hc0_1 : l0_1.length ≤ c0_1) (hr0_2 : Kd.C (Kd.slice 3 (Kd.int .i64)) w A0_2 l0_2.length l0_2) (hc0_2 : l0_2.length ≤ c0_2) (h : hyper_Fixed.f a0_0 l0_1 l0_2 = some (r1, r2)) :
    Calls Tryz.prog 11 #[.agg #[.int .i64 a0_0, .slice A0_1 l0_1.length c0_1, .slice A0_2 l0_2.length c0_2]] w fun e w' => ∃ v0_ v1_ : Value, e = .returned (.tuple #[v0_, v1_]) ∧ Kd.R (Kd.int .i64) 3 w' w.heap.size (fun k_ => some k_ ≠ (v1_ : Value).ownBlock) v0_ r1 ∧ Kd.R (Kd.int .i64) 3 w' w.heap.size (fun k_ => some k_ ≠ (v0_ : Value).ownBlock) v1_ r2 ∧ Below w.heap.size w w' := by
  refine Hm.hyper_Fixed.calls (l0_2.length * (a0_0.toNat + 3) + a0_0.toNat + 2) a0_0 A0_1 c0_1 l0_1 A0_2 c0_2 l0_2 r1 r2 w hr0_1 hc0_1 hr0_2 hc0_2 ?_
  unfold hyper_Fixed.f at h
  split at h
  · rename_i hcc
    rw [← h]
    unfold Hm.hyper_Fixed.f hyper_Valid.f Hyp.fixedF
    rw [if_pos hcc]
    simp only [Option.bind_some]
    by_cases hv : Hyp.validB a0_0 l0_1 l0_2 = true
    · obtain ⟨hn0, _, _, _, _, hed, _⟩ := Hyp.valid_parts hv
      obtain ⟨n, rfl⟩ := Int.eq_ofNat_of_zero_le hn0
      have hn : n ≤ 100 := by have := hcc.1; omega
      rw [if_pos hv, if_pos hv, if_pos hn0]
      simp only [Int.toNat_natCast]
      rw [if_pos (by omega)]
      have hm : List.replicate n false = Hyp.marks n (fun _ => false) := by
        refine List.ext_getElem (by simp [Hyp.marks]) fun i h1 h2 => by simp [Hyp.marks]
      rw [hm]
      have := Hm_Fixed_l0 n hn l0_1 l0_2 hcc.2.1 (fun e he => (hed e he).2.1) (fun e he => ?_) l0_2.length 0 (l0_2.length * (n + 3) + n + 2) (by omega) (Nat.zero_le _) (Nat.le_refl _) (fun _ => false) (fun v _ => by simp [Hyp.inB])
      · exact this
      · have hnd := Hyp.inc_nodup (hed e he).2.2
        have hsub : ∀ x ∈ e, x ∈ (List.range n).map fun (v : Nat) => (v : Int) := fun x hx => by
          obtain ⟨h0, h1⟩ := (hed e he).2.1 x hx
          exact List.mem_map.2 ⟨x.toNat, List.mem_range.2 (by omega), by omega⟩
        have := hnd.length_le_of_subset hsub
        simpa using this
    · rw [if_neg hv, if_neg hv]
  · cases h
end Go.Proofs.YtgjbnmobhafajaaGreatDoor
end
end
