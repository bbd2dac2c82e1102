/- The texts of this claim, MB. -/
import Derived.Test.YtgjbnmobhafajaaGreatDoorWWords
import Derived.Test.YtgjbnmobhafajaaGreatDoorWLast
import Derived.Test.YtgjbnmobhafajaaGreatDoorWApart
import Derived.Sort.Grow
import Derived.Sort.Row
import Derived.Shelf.GgSortFunc.SW
import Derived.RangeFuncWrites
import Derived.RangeFuncCalls
import Derived.RangeFuncLeaves
import Derived.RangeFuncBound
import Derived.RangeFuncNested
import Derived.Shelf.Abstract
import Derived.Shelf.RegionOpen
import Derived.WalkKit
import Derived.OwnWalkIn
import Derived.TacticsInMore
import Derived.LoopNIn
import Derived.LoopIn
import Derived.Maps.AppendAt
import Derived.Lib.Hide
import Derived.Outline
import Derived.Test.YtgjbnmobhafajaaGreatDoorProg
import Derived.Test.YtgjbnmobhafajaaGreatDoorQzShelf
import Derived.Deep.LoopGhost
import Derived.Deep.Draws
import Derived.Test.YtgjbnmobhafajaaGreatDoorQzMA
import Derived.Maps.OwnSet
import Derived.Maps.OwnIn
import Derived.OwnWalk
import Derived.Lib.ItoaNum
import Derived.Deep.QuietTactic
import Derived.TacticsIn
import Derived.RegionIn
import Derived.Lib.SlicesCompact
import Derived.BigQuiet
import Derived.Maps.Own
import Derived.Carry
set_option linter.unusedVariables false
set_option linter.unusedSimpArgs false
section
section
namespace Go.Proofs.YtgjbnmobhafajaaGreatDoor
open Go.RowKit Go.Sort Go.Proofs.YtgjbnmobhafajaaGreatDoorW.PrintWords Go.Proofs.YtgjbnmobhafajaaGreatDoorW.PrintLast
theorem spot_none {w : World} {a : Addr} {v : Value} (h : w.cell? a = some v) : a = ⟨a.block, a.off, none⟩ := by
  obtain ⟨b, o, s⟩ := a
  unfold World.cell? at h
  cases s with
  | none => rfl
  | some s =>
    simp only at h
    split at h <;> simp_all
theorem C_int {w : World} {A : Option Addr} {n : Nat} {xs : List Int} (h : Kd.C (Kd.int .i64) w A n xs) (hn : 0 < n) :
    ∃ b off, A = some ⟨b, off, none⟩ ∧ b < w.heap.size ∧ ∀ j, j < n → w.cell? ⟨b, off + j, none⟩ = some (.int .i64 (xs.getD j 0)) := by
  have hl : xs.length = n := h.1
  obtain ⟨ad, rfl, hc⟩ := h.2.2 hn
  have key : ∀ j, j < n → w.cell? (ad.add j) = some (.int .i64 (xs.getD j 0)) := by
    intro j hj
    obtain ⟨c, hs, hR, hcell⟩ := hc j (xs.getD j 0) (by rw [List.getD_eq_getElem?_getD, List.getElem?_eq_getElem (by omega)]; rfl)
    have hR' : c = [Value.int .i64 (xs.getD j 0)] := hR
    have h0 := hcell 0 (.int .i64 (xs.getD j 0)) (by rw [hR']; rfl)
    have e : j * (Kd.int .i64).sz + 0 = j := by show j * 1 + 0 = j; omega
    rw [e] at h0
    exact h0
  have h0 := key 0 hn
  have e0 : ad.add 0 = ad := by simp [Addr.add]
  rw [e0] at h0
  have hs := spot_none h0
  refine ⟨ad.block, ad.off, by rw [← hs], World.block_lt_of_cell? w _ h0, fun j hj => ?_⟩
  have hk := key j hj
  have : ad.add j = ⟨ad.block, ad.off + j, none⟩ := by
    generalize ad.block = b at *
    generalize ad.off = o at *
    subst hs
    unfold Addr.add
    by_cases hj0 : j = 0
    · subst hj0; rfl
    · rw [if_neg hj0]
  rw [← this]; exact hk
theorem C_max {α : Type} {d : Kd α} {w : World} {A : Option Addr} {n : Nat} {xs : List α} (h : Kd.C d w A n xs) : n ≤ 9223372036854775807 := h.2.1
theorem R_int {w : World} {base : Nat} {ok : Nat → Prop} {v : Value} {xs : List Int} {e : Nat} (h : Kd.R (Kd.int .i64) e w base ok v xs) :
    w.ownsRow base e 1 v xs.length (nums .i64 xs) := by
  obtain ⟨_, inner, ho, hr⟩ := h
  have : inner = nums .i64 xs := by
    have hsz : inner.length = xs.length * 1 := hr.1
    refine List.ext_getElem? fun j => ?_
    by_cases hj : j < xs.length
    · have := hr.2 j xs[j] (List.getElem?_eq_getElem hj)
      have h1 : ((inner.drop (j * 1)).take 1) = [Value.int .i64 xs[j]] := this
      have h2 : inner[j]? = some (Value.int .i64 xs[j]) := by
        have := congrArg (fun l => l[0]?) h1
        simpa [List.getElem?_take, List.getElem?_drop] using this
      rw [h2]; simp [nums, hj]
    · rw [List.getElem?_eq_none (by omega), List.getElem?_eq_none (by simp [nums]; omega)]
  rw [← this]; exact ho
theorem R_mk {w : World} {base : Nat} {v : Value} {xs : List Int} {e : Nat} (h : w.ownsRow base e 1 v xs.length (nums .i64 xs)) :
    Kd.R (Kd.int .i64) e w base (fun _ => True) v xs := by
  refine ⟨fun _ _ => trivial, nums .i64 xs, h, by show (nums .i64 xs).length = xs.length * 1; simp [nums], fun j p hj => ?_⟩
  show ((nums .i64 xs).drop (j * 1)).take 1 = [Value.int .i64 p]
  have hlt : j < xs.length := (List.getElem?_eq_some_iff.1 hj).1
  have hp : xs[j] = p := (List.getElem?_eq_some_iff.1 hj).2
  rw [Nat.mul_one, List.drop_eq_getElem_cons (by simp [nums]; exact hlt)]
  simp [nums, hp]
theorem own_block {w : World} {base : Nat} {e : TypeId} {g n cap : Nat} {off : Nat} {sp : Option Nat} {xs : List Value} (h : w.ownsRow base e 1 (.slice (some ⟨g, off, sp⟩) n cap) n xs) :
    off = 0 ∧ sp = none ∧ base ≤ g ∧ n ≤ cap ∧ cap ≤ maxLen ∧ xs.length = n ∧ ∃ cur, w.heap[g]? = some (.cells cur e (0, 0)) ∧ cur.size = cap ∧ cur.toList.take n = xs := by
  obtain ⟨h1, h2⟩ := h
  rcases h2 with ⟨h2, _⟩ | ⟨g', cap', cur, hv, hb, hh, hn, hm, hc, ht⟩
  · cases h2
  · injection hv with ha hn' hc'
    injection ha with ha
    injection ha with ha1 ha2 ha3
    subst ha1 hc' ha2 ha3
    exact ⟨rfl, rfl, hb, hn, hm, by simpa using h1, cur, hh, by simpa using hc, by simpa using ht⟩
theorem own_nil_or {w : World} {base : Nat} {e : TypeId} {v : Value} {n : Nat} {xs : List Value} (h : w.ownsRow base e 1 v n xs) :
    (v = .slice none 0 0 ∧ n = 0 ∧ xs = []) ∨ ∃ g cap, v = .slice (some ⟨g, 0, none⟩) n cap := by
  obtain ⟨h1, h2⟩ := h
  rcases h2 with ⟨h2, h3⟩ | ⟨g', cap', cur, hv, _⟩
  · exact .inl ⟨h2, h3, by subst h3; simpa using h1⟩
  · exact .inr ⟨g', cap', hv⟩
theorem own_holds {α : Type} [Inhabited α] {enc : α → Value} {w : World} {base : Nat} {e : TypeId} {g n cap : Nat} {d : Array α} (h : w.ownsRow base e 1 (.slice (some ⟨g, 0, none⟩) n cap) n (d.toList.map enc)) :
    d.size = n ∧ g < w.heap.size ∧ Holds enc w g 0 d := by
  obtain ⟨_, _, _, hn, hm, hl, cur, hh, hc, ht⟩ := own_block h
  have hs : d.size = n := by simpa using hl
  refine ⟨hs, (Array.getElem?_eq_some_iff.1 hh).1, fun j hj => ⟨?_, by simp [World.frozen?, hh]⟩⟩
  rw [Nat.zero_add]
  unfold World.cell?
  rw [hh]
  simp only [Option.isSome_none, Bool.false_eq_true, if_false]
  have hj' : j < cur.toList.length := by rw [Array.length_toList]; omega
  have := congrArg (fun l : List Value => l[j]?) ht
  simp only [List.getElem?_take, List.getElem?_map] at this
  rw [if_pos (by omega)] at this
  rw [← Array.getElem?_toList, this, getElem!_pos d j hj, Array.getElem?_toList, Array.getElem?_eq_getElem hj]
  rfl
theorem heap_putRow {α : Type} [Inhabited α] {enc : α → Value} {w : World} {g m : Nat} {os : Array Obj} {cur : Array Value} {e : TypeId} {fr : Nat × Nat} (d : Array α) (hb : w.heap[g]? = some (.cells cur e fr)) :
    (grow (putRow enc (Sort.ahead w m) g 0 d) os).heap[g]? = some (.cells (putCells enc 0 d cur) e fr) := by
  have hlt : g < w.heap.size := (Array.getElem?_eq_some_iff.1 hb).1
  rw [heap_grow_old]
  · simp only [putRow, mapBlock, Sort.ahead, Array.getElem?_modify, if_pos, hb]
    rfl
  · simp only [putRow, mapBlock, Sort.ahead, Array.size_modify]; exact hlt
theorem grown_putRow {α : Type} [Inhabited α] {enc : α → Value} {w : World} {g m : Nat} {os : Array Obj} (d : Array α) : w.grownBy (grow (putRow enc (Sort.ahead w m) g 0 d) os) (some g) := by
  refine ⟨rfl, rfl, rfl, ?_, fun k hk hne => ?_⟩
  · simp only [putRow, mapBlock, Sort.ahead, grow, Array.size_append, Array.size_modify]; omega
  · rw [heap_grow_old]
    · simp only [putRow, mapBlock, Sort.ahead, Array.getElem?_modify]
      rw [if_neg (fun e => hne (by rw [e]))]
    · simp only [putRow, mapBlock, Sort.ahead, Array.size_modify]; exact hk
theorem take_put {α : Type} [Inhabited α] {enc : α → Value} (cur : Array Value) (d : Array α) (h : d.size ≤ cur.size) : (putCells enc 0 d cur).toList.take d.size = d.toList.map enc := by
  refine List.ext_getElem? fun j => ?_
  simp only [List.getElem?_take, List.getElem?_map, Array.getElem?_toList, putCells, Array.getElem?_mapIdx]
  by_cases hj : j < d.size
  · rw [if_pos hj, Array.getElem?_eq_getElem (by omega), Array.getElem?_eq_getElem hj]
    simp [hj]
  · rw [if_neg hj, Array.getElem?_eq_none (by omega)]; rfl
theorem own_put {α : Type} [Inhabited α] {enc : α → Value} {w : World} {base : Nat} {e : TypeId} {g n cap m : Nat} {os : Array Obj} {xs : List Value} (d : Array α) (h : w.ownsRow base e 1 (.slice (some ⟨g, 0, none⟩) n cap) n xs) (hd : d.size = n) :
    (grow (putRow enc (Sort.ahead w m) g 0 d) os).ownsRow base e 1 (.slice (some ⟨g, 0, none⟩) n cap) n (d.toList.map enc) := by
  obtain ⟨_, _, hb, hn, hm, hl, cur, hh, hc, ht⟩ := own_block h
  refine ⟨by simp [hd], .inr ⟨g, cap, _, rfl, hb, heap_putRow d hh, hn, hm, by simp [putCells, hc], ?_⟩⟩
  rw [Nat.mul_one, ← hd]
  exact take_put cur d (by omega)
theorem own_take {w : World} {base : Nat} {e : TypeId} {g n cap m : Nat} {xs : List Value} (h : w.ownsRow base e 1 (.slice (some ⟨g, 0, none⟩) n cap) n xs) (hm : m ≤ n) :
    w.ownsRow base e 1 (.slice (some ⟨g, 0, none⟩) m cap) m (xs.take m) := by
  obtain ⟨_, _, hb, hn, hmx, hl, cur, hh, hc, ht⟩ := own_block h
  refine ⟨by simp [hl]; omega, .inr ⟨g, cap, cur, rfl, hb, hh, by omega, hmx, by simpa using hc, ?_⟩⟩
  rw [Nat.mul_one, ← ht, List.take_take]
  congr 1
  omega
end Go.Proofs.YtgjbnmobhafajaaGreatDoor
end
section
namespace Go.Proofs.YtgjbnmobhafajaaGreatDoor
open Go Go.RowKit
def Abide {β : Type} (J : β → World → Prop) : Prop := ∀ s A B, J s A → Below A.heap.size A B → J s B
def Iter {α : Type} (F : Fence) (n : Nat) (P : Program) (g : Nat) (lb : Array Value) (encs : α → Array Value) (Rd : List α → α → World → Prop) (Kp : World → World → Prop) (S : List α → Prop) (w : World) : Prop :=
  ∀ (l : Nat) (J Jx : List α → World → Prop) (W : World), Below w.heap.size w W → Abide J → Abide Jx →
    (∀ pre x W1, J pre W1 → Rd pre x W1 → YieldAt F (n - 1) P l (encs x) W1 fun e W' =>
      (e = .returned (.bool true) ∧ J (pre ++ [x]) W' ∧ Kp W1 W') ∨ (e = .returned (.bool false) ∧ Jx (pre ++ [x]) W')) →
    J [] W →
    CallsIn F n P g (#[.func (.yield l) #[] #[]] ++ lb) W fun e W' => (∃ v, e = .returned v) ∧ ((∃ xs, S xs ∧ J xs W') ∨ (∃ pre, Jx pre W'))
def TurnsAt {β : Type} (L : Nat) (J : β → World → Prop) : Prop := ∀ s A B, J s A → A.grownBy B (some L) → A.heap.size = B.heap.size → J s B
def roundOut {α : Type} (L : Nat) (Kp : World → World → Prop) (I : List α → World → Prop) (Ix : Code → List α → World → Prop) (xs : List α) (W : World) : Exit → Act → World → Prop
  | .normal, _, W' => (W'.heap[L]? = W.heap[L]? ∧ W'.heap[L - 1]? = W.heap[L - 1]?) ∧ Kp W W' ∧ I xs W'
  | .ret, _, W' => (W'.heap[L]? = W.heap[L]? ∧ W'.heap[L - 1]? = W.heap[L - 1]?) ∧ Ix .ret xs W'
  | .exit id, _, W' => (W'.heap[L]? = W.heap[L]? ∧ W'.heap[L - 1]? = W.heap[L - 1]?) ∧ Ix (.exit id) xs W'
  | .goto _, _, _ => False
  | .panic _, _, _ => False
  | .outgrown, _, _ => False
theorem below_old {A B : World} {k : Nat} {o : Obj} (h : Below A.heap.size A B) (hk : A.heap[k]? = some o) : B.heap[k]? = some o :=
  (h.block k (Array.getElem?_eq_some_iff.1 hk).1).trans hk
theorem rangeFunc_rd {F : Fence} {n : Nat} {P : Program} {α : Type} {g : Operand} {ps : Array Tmp} {assign body : Code} {Q : Exit → Act → World → Prop} {a : Act} {w : World}
    (hro : F.round = none) (h1 : 1 ≤ n) {gf : Nat} {lb : Array Value} (hg : a.eval g = .func (.func gf) #[] lb) (hFg : F.fn gf) (eg : ∀ args w, (callFunc gf args).run P w = .ok (.enter gf args) w)
    {encs : α → Array Value} {Rd : List α → α → World → Prop} {Kp : World → World → Prop} {S : List α → Prop} {w0 : World} (hseq : Iter F (n - 1) P gf lb encs Rd Kp S w0)
    (hKt : ∀ {A B C : World}, Kp A B → Kp B C → Kp A C) (hKb : ∀ (A B : World), A.grownBy B (some (w.heap.size + 1)) → A.heap.size = B.heap.size → Kp A B) (hb0 : Below w0.heap.size w0 w) (hps : ∀ x, (encs x).size = ps.size)
    (I : List α → World → Prop) (Ix : Code → List α → World → Prop) (hI : Abide I) (hIx : ∀ c, Abide (Ix c)) (hIt : TurnsAt (w.heap.size + 1) I) (hIxt : ∀ c, TurnsAt (w.heap.size + 1) (Ix c))
    (hRt : ∀ pre x A B, Rd pre x A → (∃ r, A.heap[w.heap.size + 1]? = some (.loop r)) → A.grownBy B (some (w.heap.size + 1)) → A.heap.size = B.heap.size → Rd pre x B)
    (h0 : I [] w) (a₁ : α → Act)
    (hassign : ∀ (x : α) (W : World) (K : Act → World → Prop), K (a₁ x) W →
      assign.wpIn (F.inRound (w.heap.size + 1)) (n - 1 - 1) P (Exit.then K (fun _ _ _ => False)) { tmps := (ps.zip (encs x)).foldl (fun t (p, v) => t.setIfInBounds p v) a.tmps, defers := [] } W)
    (hbody : ∀ (pre : List α) (x : α) (W : World), w.heap.size + 1 < W.heap.size → I pre W → Rd pre x W → body.wpIn (F.inRound (w.heap.size + 1)) (n - 1 - 1) P (roundOut (w.heap.size + 1) Kp I Ix (pre ++ [x]) W) (a₁ x) W)
    (hdone : ∀ (xs : List α) (W : World), S xs → I xs W → W.heap[w.heap.size]? = some (.deferred (some [])) → Q .normal { a with defers := { target := .collected w.heap.size, args := #[] } :: a.defers } W)
    (hstop : ∀ (c : Code) (pre : List α) (W : World), Ix c pre W → W.heap[w.heap.size]? = some (.deferred (some [])) → c.wpIn F n P Q { a with defers := { target := .collected w.heap.size, args := #[] } :: a.defers } W) :
    (Code.rangeFunc g ps assign body).wpIn F n P Q a w := by
  refine wpIn_rangeFunc ?_
  intro fn hfn
  rw [hro]
  obtain ⟨D, hD⟩ : ∃ D, D = w.heap.size := ⟨_, rfl⟩
  rw [← hD] at hKb hIt hIxt hRt hassign hbody hdone hstop
  obtain ⟨rc, hrc⟩ : ∃ rc : LoopState → Option Code → Loop, rc = fun st pe => { state := st, pending := pe, fn, tmps := a.tmps, params := ps, assign, body, defers := D } := ⟨_, rfl⟩
  obtain ⟨W1, hW1⟩ : ∃ W1, (w.alloc (.deferred (some []))).alloc (.loop (rc .ready none)) = W1 := ⟨_, rfl⟩
  have hs1 : W1.heap.size = D + 2 := by rw [← hW1, hD]; simp
  have hL1 : W1.heap[D + 1]? = some (.loop (rc .ready none)) := by
    rw [← hW1]; have := World.alloc_heap_new (w.alloc (.deferred (some []))) (.loop (rc .ready none)); rwa [World.size_alloc, ← hD] at this
  have hK1 : W1.heap[D]? = some (.deferred (some [])) := by
    rw [← hW1]; exact (Below.heap_alloc _ _ _ (by rw [hD]; simp)).trans (by rw [hD]; exact World.alloc_heap_new w _)
  have hbw : Below w.heap.size w W1 := by rw [← hW1]; exact (((Below.refl _ w).alloc (Nat.le_refl _) _).alloc (by simp) _)
  -- one block is put: nothing else turns
  have turn : ∀ (W : World) (o o' : Obj), W.heap[D + 1]? = some o → W.grownBy (W.putObj (D + 1) o') (some (D + 1)) ∧ W.heap.size = (W.putObj (D + 1) o').heap.size ∧ (W.putObj (D + 1) o').heap[D + 1]? = some o' ∧ (W.putObj (D + 1) o').heap[D]? = W.heap[D]? :=
    fun W o o' h => ⟨grownBy_putObj' W _ _, by simp [World.putObj], World.putObj_heap_same (Array.getElem?_eq_some_iff.1 h).1, World.putObj_heap_other (by omega)⟩
  refine ⟨D + 1, [{ target := .collected D, args := #[] }], W1, { target := .fn (.func gf) lb, args := #[.func (.yield (D + 1)) #[] #[]] }, W1, gf, #[.func (.yield (D + 1)) #[] #[]] ++ lb, W1, ?_, ?_, ?_, ?_, fun _ => h1, ?_⟩
  · rw [← hW1, hrc, hD]; exact run_enterLoop_outer _ _ _ _ _
  · simp only [resolve, hg]
    simp [go_sem]
  · intro f' hf'; simp [Target.leads] at hf'; subst hf'; exact hFg
  · simp [invoke, go_sem, eg]
  · refine (hseq (D + 1)
      (fun pre W => I pre W ∧ W.heap[D + 1]? = some (.loop (rc .ready none)) ∧ W.heap[D]? = some (.deferred (some [])))
      (fun pre W => ∃ c, Ix c pre W ∧ W.heap[D + 1]? = some (.loop (rc .done (some c))) ∧ W.heap[D]? = some (.deferred (some [])))
      W1 (hb0.trans (hbw.mono hb0.size))
      (fun s A B h hb => ⟨hI s A B h.1 hb, below_old hb h.2.1, below_old hb h.2.2⟩)
      (fun s A B h hb => by obtain ⟨c, h1, h2, h3⟩ := h; exact ⟨c, hIx c s A B h1 hb, below_old hb h2, below_old hb h3⟩)
      ?_ ⟨hI _ _ _ h0 hbw, hL1, hK1⟩).mono ?_
    · rintro pre x W ⟨hi, hl, hk⟩ hrd
      have hy := run_yield (P := P) (args := encs x) hl (by rw [hrc]; exact hps x)
      rw [hrc] at hy
      refine ⟨fn, _, assign, body, hy, roundIn_of_wpIn hfn (hassign x W _ ?_)⟩
      refine ⟨_, run_beginRound hl (by rw [hrc]), ?_⟩
      obtain ⟨g2, z2, l2, k2⟩ := turn W _ (.loop { rc .ready none with state := .busy }) hl
      have hlt : D + 1 < W.heap.size := (Array.getElem?_eq_some_iff.1 hl).1
      refine wpIn_mono (hbody pre x _ (by rw [← z2]; exact hlt) (hIt pre _ _ hi g2 z2) (hRt pre x _ _ hrd ⟨_, hl⟩ g2 z2)) ?_
      have fin : ∀ (jump : Option Code) (W3 : World), W3.heap[D + 1]? = (W.putObj (D + 1) (.loop { rc .ready none with state := .busy })).heap[D + 1]? → W3.heap[D]? = (W.putObj (D + 1) (.loop { rc .ready none with state := .busy })).heap[D]? →
          (Instr.endRound (D + 1) jump).run P W3 = .ok (.bool jump.isNone) (W3.putObj (D + 1) (.loop (rc (if jump.isNone then .ready else .done) jump))) ∧
          W3.heap[D + 1]? = some (.loop { rc .ready none with state := .busy }) ∧ W3.heap[D]? = some (.deferred (some [])) := fun jump W3 e1 e2 => by
        have h3 := e1.trans l2
        have := run_endRound (P := P) jump h3
        rw [hrc] at this ⊢
        exact ⟨this, by rw [hrc] at h3; exact h3, e2.trans (k2.trans hk)⟩
      rintro e a3 W3 hp
      cases e with
      | normal =>
        obtain ⟨⟨e1, e2⟩, hkp, hi3⟩ := hp
        obtain ⟨hr, hl3, hk3⟩ := fin none W3 e1 e2
        obtain ⟨g4, z4, l4, k4⟩ := turn W3 _ (.loop (rc .ready none)) hl3
        exact ⟨_, _, hr, .inl ⟨rfl, ⟨hIt _ _ _ hi3 g4 z4, l4, k4.trans hk3⟩, hKt (hKt (hKb _ _ g2 z2) hkp) (hKb _ _ g4 z4)⟩⟩
      | ret =>
        obtain ⟨⟨e1, e2⟩, hi3⟩ := hp
        obtain ⟨hr, hl3, hk3⟩ := fin (some .ret) W3 e1 e2
        obtain ⟨g4, z4, l4, k4⟩ := turn W3 _ (.loop (rc .done (some .ret))) hl3
        exact ⟨_, _, hr, .inr ⟨rfl, .ret, hIxt _ _ _ _ hi3 g4 z4, l4, k4.trans hk3⟩⟩
      | exit id =>
        obtain ⟨⟨e1, e2⟩, hi3⟩ := hp
        obtain ⟨hr, hl3, hk3⟩ := fin (some (.exit id)) W3 e1 e2
        obtain ⟨g4, z4, l4, k4⟩ := turn W3 _ (.loop (rc .done (some (.exit id)))) hl3
        exact ⟨_, _, hr, .inr ⟨rfl, .exit id, hIxt _ _ _ _ hi3 g4 z4, l4, k4.trans hk3⟩⟩
      | goto t => exact hp.elim
      | panic ch => exact hp.elim
      | outgrown => exact hp.elim
    · rintro e W2 ⟨⟨v, rfl⟩, (⟨xs, hS, hi, hl, hk⟩ | ⟨pre, c, hi, hl, hk⟩)⟩
      · have hp : (rc .ready none).pending = none := by rw [hrc]
        refine ⟨(rc .ready none).pending, _, run_endLoop (P := P) hl (by rw [hrc]; simp), ?_⟩
        rw [hp]
        exact hdone xs _ hS (hIt _ _ _ hi (turn W2 _ _ hl).1 (turn W2 _ _ hl).2.1) ((turn W2 _ _ hl).2.2.2.trans hk)
      · have hp : (rc .done (some c)).pending = some c := by rw [hrc]
        refine ⟨(rc .done (some c)).pending, _, run_endLoop (P := P) hl (by rw [hrc]; simp), ?_⟩
        rw [hp]
        exact hstop c pre _ (hIxt _ _ _ _ hi (turn W2 _ _ hl).1 (turn W2 _ _ hl).2.1) ((turn W2 _ _ hl).2.2.2.trans hk)
end Go.Proofs.YtgjbnmobhafajaaGreatDoor
end
section
namespace Go.Proofs.YtgjbnmobhafajaaGreatDoor
open Go.RowKit Go.Shelf Go.Proofs.YtgjbnmobhafajaaGreatDoorW.PrintWords Go.Proofs.YtgjbnmobhafajaaGreatDoorW.PrintLast
attribute [local go_sem] Oper.semAt_some
structure Row where
  v : Value
  l : List Int
def Row.Is (W : World) (x : Row) : Prop := ∃ A c, x.v = .slice A x.l.length c ∧ x.l.length ≤ c ∧ Kd.C (Kd.int .i64) W A x.l.length x.l
theorem Row.Is.below {A B : World} {x : Row} (h : x.Is A) (hb : Below A.heap.size A B) : x.Is B := by
  obtain ⟨p, c, h1, h2, h3⟩ := h
  exact ⟨p, c, h1, h2, Kd.C_below h3 hb⟩
def Hyp.pick (l : List Int) (b m : Nat) : List Int := ((List.range m).filter fun i => b / 2 ^ i % 2 == 1).map fun i => l.getD i 0
def Hyp.sub (l : List Int) (b : Nat) : List Int := Hyp.pick l b l.length
theorem Hyp.pick_succ (l : List Int) (b m : Nat) : Hyp.pick l b (m + 1) = Hyp.pick l b m ++ if b / 2 ^ m % 2 = 1 then [l.getD m 0] else [] := by
  unfold Hyp.pick
  rw [List.range_succ, List.filter_append, List.map_append]
  congr 1
  by_cases h : b / 2 ^ m % 2 = 1 <;> simp [h]
theorem Hyp.pick_len (l : List Int) (b m : Nat) : (Hyp.pick l b m).length ≤ m := by
  unfold Hyp.pick
  rw [List.length_map]
  have := List.length_filter_le (fun i => b / 2 ^ i % 2 == 1) (List.range m)
  simpa using this
theorem infoI : (Tryz.prog.info? 3).map (fun i => (i.zero, i.size, i.bytes)) = some (some (.int .i64 0), 1, 8) := by kernel_rfl
theorem hyper_subsets.calls (v : Value) (A : Option Addr) (n c : Nat) (hv : v = .slice A n c) (w : World) :
    Calls Tryz.prog 49 #[v] w fun e w' => e = .returned (.func (.func 60) #[] #[.pointer (some ⟨w.heap.size, 0, none⟩)]) ∧ w' = w.alloc (.cells #[v] 22) := by
  subst hv
  go_enter Tryz.func49, Tryz.ntmps49
  go_wp2
  go_ret
  exact ⟨rfl, rfl⟩
theorem bit_table : ∀ x : Nat, x < 65 → (Go.bits .and .i64 (x : Int) 1 == 1) = (x % 2 == 1) := by decide
theorem bit_at (b i : Nat) (hb : b ≤ 64) : (Go.bits .and .i64 ((b : Int) / 2 ^ i) 1 == 1) = (b / 2 ^ i % 2 == 1) := by
  have e : ((b : Int) / 2 ^ i) = ((b / 2 ^ i : Nat) : Int) := by rw [Int.natCast_ediv, Int.natCast_pow]; rfl
  rw [e]
  exact bit_table _ (Nat.lt_of_le_of_lt (Nat.div_le_self _ _) (by omega))
set_option maxRecDepth 100000 in
set_option maxHeartbeats 2000000 in
theorem subsets_iter (Bn n₀ : Nat) (A : Option Addr) (c : Nat) (l0 : List Int) (hl : l0.length ≤ 6) (w : World) (hn₀ : n₀ ≤ w.heap.size) (hBn : Bn < n₀) (hc : w.cell? ⟨Bn, 0, none⟩ = some (.slice A l0.length c)) (hr : Kd.C (Kd.int .i64) w A l0.length l0) (hA : ∀ a, A = some a → 0 < l0.length → a.block < n₀) :
    Iter Fence.wide 0 Tryz.prog 60 #[.pointer (some ⟨Bn, 0, none⟩)] (fun x : Row => #[x.v]) (fun pre x W => x.l = Hyp.sub l0 pre.length ∧ x.Is W ∧ pre.length < 2 ^ l0.length) (Below n₀) (fun xs => xs.map (·.l) = (List.range (2 ^ l0.length)).map (Hyp.sub l0)) w := by
  obtain ⟨i0, hi, hz0, hz1, hz2⟩ := info_parts infoI
  intro l J Jx W hW hJ hJx hY h0
  have hcW := (hW.cell (p := ⟨Bn, 0, none⟩) (by show Bn < w.heap.size; omega)).trans hc
  have hrW : Hid (∀ k, k < l0.length → ∃ b off, A = some ⟨b, off, none⟩ ∧ b < n₀ ∧ ∀ j, j < l0.length → W.cell? ⟨b, off + j, none⟩ = some (.int .i64 (l0.getD j 0))) := fun k hk => by
    obtain ⟨b, off, rfl, h1, h2⟩ := C_int hr (by omega)
    have hb := hA _ rfl (by omega)
    exact ⟨b, off, rfl, hb, fun j hj => (hW.cell (p := ⟨b, off + j, none⟩) (by simpa using h1)).trans (h2 j hj)⟩
  have hnW : n₀ ≤ W.heap.size := Nat.le_trans hn₀ hW.size
  have HY := Lib.hid hY
  have HJ := Lib.hid hJ
  clear hW hc hr hA hY hJ hJx hn₀
  refine callsIn_of_wp Tryz.func60 rfl trivial ?_ rfl
  simp only [Tryz.ntmps60, List.size_toArray, List.length_cons, List.length_nil, Nat.reduceAdd, Nat.reduceSub, Array.replicate_succ, Array.replicate_zero, List.push_toArray, List.append_toArray, List.nil_append, List.cons_append]
  gi_wp2
  obtain ⟨N, hN⟩ : ∃ N, N = 2 ^ l0.length := ⟨_, rfl⟩
  have hN64 : N ≤ 64 := by rw [hN]; exact Nat.pow_le_pow_right (n := 2) (by decide) hl
  have hp : wrap64 ((2 : Int) ^ l0.length) = (N : Int) := by
    have e : ((2 : Int) ^ l0.length) = (N : Int) := by rw [hN]; simp
    rw [e]; unfold wrap64; omega
  rw [hp]
  have HN := Lib.hid hN
  clear hp hN
  obtain ⟨Ws, hWs⟩ : ∃ x, x = W := ⟨_, rfl⟩
  gi_loopw [10] (fun i wr => ∃ (b : Nat) (pre : List Row), b ≤ N ∧ i = .int .i64 b ∧ Hid (pre.length = b ∧ pre.map (·.l) = (List.range b).map (Hyp.sub l0)) ∧ Hid (J pre wr) ∧ Hid (Below n₀ W wr) ∧ n₀ ≤ wr.heap.size)
    (fun i _ => N - (intOf i).toNat)
  case atStart => exact ⟨0, [], Nat.zero_le _, rfl, Lib.hid ⟨rfl, rfl⟩, Lib.hid h0, Lib.hid (Below.refl _ _), hnW⟩
  case round =>
    clear h0 hnW
    obtain ⟨b, pre, hb, rfl, HP, HJ0, HB, hnr⟩ := hrel
    by_cases hlt : b < N
    · have hltz : (b : Int) < (N : Int) := by omega
      have hcr := (HB.out.cell (p := ⟨Bn, 0, none⟩) hBn).trans hcW
      obtain ⟨B, hB⟩ : ∃ B, B = wr.heap.size := ⟨_, rfl⟩
      have HBs := Lib.hid hB
      have hBle : wr.heap.size ≤ B := by omega
      have hBge : B ≤ wr.heap.size := by omega
      clear hB
      obtain ⟨wo, rfl⟩ : ∃ wo : World, wo = wr := ⟨_, rfl⟩
      gi_wp2
      gi_loopw [4, 15] (fun s4 s15 wx => ∃ i : Nat, i ≤ l0.length ∧ s15 = .int .i64 i ∧ Hid (wx.ownsRow B 3 1 s4 (Hyp.pick l0 b i).length (nums .i64 (Hyp.pick l0 b i))) ∧ Hid (Below B wo wx))
        (fun _ s15 _ => l0.length - (intOf s15).toNat)
      case atStart => exact ⟨0, Nat.zero_le _, rfl, Lib.hid (own_nil _ _ _ _), Lib.hid (Below.refl _ _)⟩
      case round =>
        obtain ⟨i, hi2, rfl, HO, HBx⟩ := hrel
        by_cases hil : i < l0.length
        · have hilz : (i : Int) < (l0.length : Int) := by omega
          obtain ⟨bb, off, rfl, hbb, hcs⟩ := hrW.out i hil
          have hcx : wr.cell? ⟨bb, off + i, none⟩ = some (.int .i64 (l0.getD i 0)) := (HBx.out.cell (p := ⟨bb, off + i, none⟩) (by show bb < B; omega)).trans ((HB.out.cell (p := ⟨bb, off + i, none⟩) hbb).trans (hcs i hil))
          clear hcs
          generalize hy : l0.getD i 0 = y at *
          have HYi := Lib.hid hy
          clear hy
          obtain ⟨Ao, co, rfl⟩ := own_slice HO.out
          have hps := Hyp.pick_succ l0 b i
          have hpl := Hyp.pick_len l0 b i
          rw [HYi.out] at hps
          have HPS := Lib.hid hps
          clear hps
          have hbit := bit_at b i (by omega)
          have hsz : B ≤ wr.heap.size := Nat.le_trans hBge HBx.out.size
          by_cases hbt : b / 2 ^ i % 2 = 1
          · have hbit1 : (Go.bits .and .i64 ((b : Int) / 2 ^ i) 1 == 1) = true := by rw [hbit]; simpa using hbt
            have HBT := Lib.hid hbt
            clear hbit hbt
            generalize hpk : Hyp.pick l0 b i = pk at *
            have HPK := Lib.hid hpk
            clear hpk
            gi_wp2_with (gi_at_builtin; refine wpListIn_append_own _ rfl _ _ 22 rfl B 3 i0 (.int .i64 0) 1 8 Tryz.underlying22 hi hz0 hz1 hz2 rfl (by decide) _ _ _ rfl (HO.out.alloc _) ⟨wr.heap.size, 0, none⟩ 1 1 [.int .i64 y] rfl rfl (cell_one_new _ _ _) (by simp [Value.oneCell']) (by unfold maxLen; omega) (by omega) (by simp; omega) ?_; intro v2 w2 ho2 hg2 _)
            have hb2 : Below B wo w2 := by
              have ha := HBx.out.alloc (o := .cells #[.int .i64 y] 3) hsz
              exact ha.grown hg2 (by simp; omega) (fun q e => by have := own_base HO.out q e; omega)
            have HO2 := Lib.hid ho2
            have HB2 := Lib.hid hb2
            clear ho2 hb2 hg2
            obtain ⟨A2, c2, rfl⟩ := own_slice HO2.out
            gi_wp2
            go_roundw
            case rel =>
              refine ⟨i + 1, by omega, by go_num, Lib.hid ?_, HB2⟩
              have := HO2.out
              rw [HPS.out, if_pos HBT.out]
              simpa [nums] using this
            case measure => simp [intOf]; omega
          · have hbit1 : (Go.bits .and .i64 ((b : Int) / 2 ^ i) 1 == 1) = false := by rw [hbit]; simpa using hbt
            have HBT := Lib.hid hbt
            clear hbit hbt
            generalize hpk : Hyp.pick l0 b i = pk at *
            have HPK := Lib.hid hpk
            clear hpk
            gi_wp2
            go_roundw
            case rel =>
              refine ⟨i + 1, by omega, by go_num, Lib.hid ?_, HBx⟩
              have := HO.out
              rw [HPS.out, if_neg HBT.out]
              simpa using this
            case measure => simp [intOf]; omega
        · have hilz : ¬ (i : Int) < (l0.length : Int) := by omega
          obtain rfl : i = l0.length := by omega
          obtain ⟨Ao, co, rfl⟩ := own_slice HO.out
          have HX : Hid (∃ x : Row, x = ⟨.slice Ao (Hyp.pick l0 b l0.length).length co, Hyp.sub l0 b⟩) := Lib.hid ⟨_, rfl⟩
          obtain ⟨x, hx⟩ := HX.out
          have hxv : x.v = .slice Ao (Hyp.pick l0 b l0.length).length co := by rw [hx]
          have hxl : x.l = Hyp.sub l0 b := by rw [hx]
          have hJw : J pre wr := HJ.out pre wo wr HJ0.out (by have := HBx.out; rw [HBs.out] at this; exact this)
          have hRd : x.l = Hyp.sub l0 pre.length ∧ x.Is wr ∧ pre.length < 2 ^ l0.length := by
            refine ⟨by rw [hxl, HP.out.1], ?_, by rw [HP.out.1, ← HN.out]; exact hlt⟩
            obtain ⟨A', c', e1, e2, e3⟩ := Kd.R_reads (R_mk HO.out)
            refine ⟨A', c', by rw [hxv, hxl]; exact e1, by rw [hxl]; exact e2, by rw [hxl]; exact e3⟩
          obtain ⟨fn, tmps, assign, body, hy, hR⟩ := HY.out pre x wr hJw hRd
          have HXL := Lib.hid hxl
          rw [hxv] at hy
          have HR := Lib.hid hR
          generalize hpk : Hyp.pick l0 b l0.length = pk at *
          clear hx hxv hxl hJw hRd hR hpk HX
          gi_wp2
          refine ⟨rfl, ?_⟩
          refine HR.out.mono ?_
          rintro e W3 (⟨rfl, hJ3, hk3⟩ | ⟨rfl, hJx3⟩)
          · have HJ3 := Lib.hid hJ3
            have HK3 := Lib.hid hk3
            have hn3 : n₀ ≤ W3.heap.size := Nat.le_trans (Nat.le_trans hnr (by omega)) (Nat.le_trans (Nat.le_trans hBge HBx.out.size) hk3.size)
            clear hJ3 hk3
            gi_wp2
            go_roundw
            case rel =>
              refine ⟨b + 1, pre ++ [x], by omega, by go_num, Lib.hid ⟨by simp [HP.out.1], ?_⟩, HJ3, Lib.hid ((HB.out.trans (HBx.out.mono (by omega))).trans HK3.out), hn3⟩
              rw [List.map_append, HP.out.2, List.range_succ, List.map_append, List.map_singleton, List.map_singleton, HXL.out]
            case measure => simp [intOf]; omega
          · have HJ3 := Lib.hid hJx3
            clear hJx3
            gi_wp2
            refine bodyPost_ret (results_none rfl _ _ _) rfl ?_
            exact ⟨⟨_, rfl⟩, .inr ⟨_, HJ3.out⟩⟩
    · have hltz : ¬ (b : Int) < (N : Int) := by omega
      obtain rfl : b = N := by omega
      gi_wp2
      go_end0
      exact ⟨⟨_, rfl⟩, .inl ⟨pre, by rw [HP.out.2, HN.out], HJ0.out⟩⟩
end Go.Proofs.YtgjbnmobhafajaaGreatDoor
end
section
namespace Go.Proofs.YtgjbnmobhafajaaGreatDoor
open Go.RowKit Go.Sort Go.Proofs.YtgjbnmobhafajaaGreatDoorW.PrintWords Go.Proofs.YtgjbnmobhafajaaGreatDoorW.PrintLast
def Hyp.cmpL : List Int → List Int → Int
  | [], [] => 0
  | [], _ :: _ => -1
  | _ :: _, [] => 1
  | x :: a, y :: b => if x < y then -1 else if y < x then 1 else Hyp.cmpL a b
theorem Hyp.cmpL_self (a : List Int) : Hyp.cmpL a a = 0 := by
  induction a with
  | nil => rfl
  | cons x a ih => simp [Hyp.cmpL, ih]
theorem Hyp.cmpL_zero : ∀ a b : List Int, Hyp.cmpL a b = 0 → a = b := by
  intro a
  induction a with
  | nil => intro b h; cases b with
    | nil => rfl
    | cons y b => simp [Hyp.cmpL] at h
  | cons x a ih => intro b h; cases b with
    | nil => simp [Hyp.cmpL] at h
    | cons y b =>
      simp only [Hyp.cmpL] at h
      split at h
      · omega
      · split at h
        · omega
        · have := ih b h
          have : x = y := by omega
          simp [*]
theorem Hyp.cmpL_flip : ∀ a b : List Int, Hyp.cmpL b a = - Hyp.cmpL a b := by
  intro a
  induction a with
  | nil => intro b; cases b <;> simp [Hyp.cmpL]
  | cons x a ih => intro b; cases b with
    | nil => simp [Hyp.cmpL]
    | cons y b =>
      simp only [Hyp.cmpL]
      repeat' split
      all_goals first | omega | exact ih b
theorem Hyp.cmpL_range : ∀ a b : List Int, Hyp.cmpL a b = -1 ∨ Hyp.cmpL a b = 0 ∨ Hyp.cmpL a b = 1 := by
  intro a
  induction a with
  | nil => intro b; cases b <;> simp [Hyp.cmpL]
  | cons x a ih => intro b; cases b with
    | nil => simp [Hyp.cmpL]
    | cons y b =>
      simp only [Hyp.cmpL]
      repeat' split
      all_goals first | omega | exact ih b
theorem Hyp.cmpL_trans : ∀ a b c : List Int, Hyp.cmpL a b < 0 → Hyp.cmpL b c < 0 → Hyp.cmpL a c < 0 := by
  intro a
  induction a with
  | nil => intro b c h1 h2; cases b <;> cases c <;> simp_all [Hyp.cmpL]
  | cons x a ih => intro b c h1 h2; cases b with
    | nil => simp [Hyp.cmpL] at h1
    | cons y b => cases c with
      | nil => simp [Hyp.cmpL] at h2
      | cons z c =>
        have := ih b c
        simp only [Hyp.cmpL] at h1 h2 ⊢
        repeat' split at h1
        all_goals repeat' split at h2
        all_goals repeat' split
        all_goals first | omega | skip
theorem Hyp.cmpL_lt_of_le : ∀ a b c : List Int, Hyp.cmpL a b < 0 → Hyp.cmpL b c ≤ 0 → Hyp.cmpL a c < 0 := by
  intro a b c h1 h2
  rcases Hyp.cmpL_range b c with h | h | h
  · exact Hyp.cmpL_trans a b c h1 (by omega)
  · rw [← Hyp.cmpL_zero _ _ h]; exact h1
  · omega
theorem Hyp.cmpL_le_trans (a b c : List Int) (h1 : Hyp.cmpL a b ≤ 0) (h2 : Hyp.cmpL b c ≤ 0) : Hyp.cmpL a c ≤ 0 := by
  rcases Hyp.cmpL_range a b with h | h | h
  · have := Hyp.cmpL_lt_of_le a b c (by omega) h2; omega
  · rw [Hyp.cmpL_zero _ _ h]; exact h2
  · omega
theorem Hyp.cmpL_swo {β : Type} (f : β → List Int) : SWO (ltOf fun x y : β => Hyp.cmpL (f x) (f y)) := by
  refine ⟨fun x => ?_, fun x y z h1 h2 => ?_, fun x y z h1 h2 => ?_⟩
  · simp [ltOf, Hyp.cmpL_self]
  · simp only [ltOf, decide_eq_true_eq] at h1 h2 ⊢
    exact Hyp.cmpL_trans _ _ _ h1 h2
  · simp only [ltOf, decide_eq_false_iff_not] at h1 h2 ⊢
    have e1 := Hyp.cmpL_flip (f x) (f y)
    have e2 := Hyp.cmpL_flip (f y) (f z)
    have e3 := Hyp.cmpL_flip (f x) (f z)
    have := Hyp.cmpL_le_trans (f z) (f y) (f x) (by omega) (by omega)
    omega
theorem Hyp.len_swo {β : Type} (f : β → Nat) : SWO (ltOf fun x y : β => (f x : Int) - (f y : Int)) := by
  refine ⟨fun x => ?_, fun x y z h1 h2 => ?_, fun x y z h1 h2 => ?_⟩ <;> simp [ltOf] at * <;> omega
theorem Hyp.cmpL_drop (a b : List Int) (k : Nat) (ha : k < a.length) (hb : k < b.length) :
    Hyp.cmpL (a.drop k) (b.drop k) = if Lib.compareInt (a.getD k 0) (b.getD k 0) ≠ 0 then Lib.compareInt (a.getD k 0) (b.getD k 0) else Hyp.cmpL (a.drop (k + 1)) (b.drop (k + 1)) := by
  have e1 : a.getD k 0 = a[k] := by rw [List.getD_eq_getElem?_getD, List.getElem?_eq_getElem ha]; rfl
  have e2 : b.getD k 0 = b[k] := by rw [List.getD_eq_getElem?_getD, List.getElem?_eq_getElem hb]; rfl
  rw [e1, e2, List.drop_eq_getElem_cons ha, List.drop_eq_getElem_cons hb, Hyp.cmpL, Lib.compareInt]
  repeat' split
  all_goals first | omega | rfl | simp_all
set_option maxHeartbeats 1000000 in
theorem slices_Compare.calls (A0 : Option Addr) (c0 : Nat) (l0 : List Int) (A1 : Option Addr) (c1 : Nat) (l1 : List Int) (w : World) (hr0 : Kd.C (Kd.int .i64) w A0 l0.length l0) (hr1 : Kd.C (Kd.int .i64) w A1 l1.length l1) :
    Calls Tryz.prog 38 #[.slice A0 l0.length c0, .slice A1 l1.length c1] w fun e w' => e = .returned (.int .i64 (Hyp.cmpL l0 l1)) ∧ ∃ q, w' = w.drewN q := by
  have HF0 : Hid (∀ k, k < l0.length → ∃ b off, A0 = some ⟨b, off, none⟩ ∧ b < w.heap.size ∧ ∀ j, j < l0.length → w.cell? ⟨b, off + j, none⟩ = some (.int .i64 (l0.getD j 0))) := fun k hk => C_int hr0 (by omega)
  have HF1 : Hid (∀ k, k < l1.length → ∃ b off, A1 = some ⟨b, off, none⟩ ∧ b < w.heap.size ∧ ∀ j, j < l1.length → w.cell? ⟨b, off + j, none⟩ = some (.int .i64 (l1.getD j 0))) := fun k hk => C_int hr1 (by omega)
  have hm0 := C_max hr0
  have hm1 := C_max hr1
  clear hr0 hr1
  obtain ⟨res, hres⟩ : ∃ r, r = Hyp.cmpL l0 l1 := ⟨_, rfl⟩
  rw [← hres]
  have HRES := Lib.hid hres
  clear hres
  go_enter Tryz.func38, Tryz.ntmps38
  go_wp2
  go_loopg [11] l0.length (fun g s11 wr => ∃ k : Nat, s11 = .int .i64 k ∧ k ≤ l0.length ∧ k ≤ l1.length ∧ l0.length - k ≤ g ∧ Hid (res = Hyp.cmpL (l0.drop k) (l1.drop k)) ∧ ∃ q, wr = w.drewN q)
  case atStart => exact ⟨0, rfl, by omega, by omega, by omega, HRES, 0, rfl⟩
  case round =>
    obtain ⟨k, rfl, hk0, hk1, hg, HR, q, rfl⟩ := hrel
    by_cases hlt : k < l0.length
    · have hltz : (k : Int) < (l0.length : Int) := by omega
      obtain ⟨b0, off0, rfl, hb0, hcs0⟩ := HF0.out k hlt
      have hcell0 := hcs0 k hlt
      clear hcs0
      by_cases hlt1 : k < l1.length
      · have hltz1 : ¬ (l1.length : Int) ≤ (k : Int) := by omega
        obtain ⟨b1, off1, rfl, hb1, hcs1⟩ := HF1.out k hlt1
        have hcell1 := hcs1 k hlt1
        clear hcs1
        have hd := Hyp.cmpL_drop l0 l1 k hlt hlt1
        rw [← HR.out] at hd
        have HD := Lib.hid hd
        clear hd HR
        generalize l0.getD k 0 = x at *
        generalize l1.getD k 0 = y at *
        go_wp2_with fail
        refine (Tryz.cmp_Compare_int x y _).mono ?_
        rintro e w' ⟨rfl, rfl⟩
        generalize hcv : Lib.compareInt x y = v at *
        clear hcv
        by_cases hv : v = 0
        · subst hv
          go_wp2
          go_roundg (l0.length - (k + 1))
          case measure => omega
          case rel => exact ⟨k + 1, by go_num, by omega, by omega, by omega, Lib.hid (by have := HD.out; simpa using this), _, rfl⟩
        · have hvz : ¬ v = 0 := hv
          go_wp2
          go_ret
          exact ⟨by rw [HD.out, if_pos hv]; rfl, _, rfl⟩
      · have hltz1 : (l1.length : Int) ≤ (k : Int) := by omega
        have hone : res = 1 := by
          rw [HR.out, List.drop_eq_nil_iff.2 (show l1.length ≤ k by omega), List.drop_eq_getElem_cons hlt]; rfl
        have HO := Lib.hid hone
        clear hone HR
        go_wp2
        go_ret
        exact ⟨by rw [HO.out]; rfl, _, rfl⟩
    · have hltz : ¬ (k : Int) < (l0.length : Int) := by omega
      obtain rfl : k = l0.length := by omega
      by_cases hll : l0.length < l1.length
      · have hllz : (l0.length : Int) < (l1.length : Int) := by omega
        have hone : res = -1 := by
          rw [HR.out, List.drop_length, List.drop_eq_getElem_cons hll]; rfl
        have HO := Lib.hid hone
        clear hone HR
        go_wp2
        go_ret
        exact ⟨by rw [HO.out]; rfl, _, rfl⟩
      · have hllz : ¬ (l0.length : Int) < (l1.length : Int) := by omega
        have hone : res = 0 := by
          rw [HR.out, List.drop_length, List.drop_eq_nil_iff.2 (show l1.length ≤ l0.length by omega)]; rfl
        have HO := Lib.hid hone
        clear hone HR
        go_wp2
        go_ret
        exact ⟨by rw [HO.out]; rfl, _, rfl⟩
end Go.Proofs.YtgjbnmobhafajaaGreatDoor
end
section
namespace Go.Proofs.YtgjbnmobhafajaaGreatDoor
open Go.RowKit Go.Sort Go.Proofs.YtgjbnmobhafajaaGreatDoorW.PrintWords Go.Proofs.YtgjbnmobhafajaaGreatDoorW.PrintLast
structure Rows (w : World) (base : Nat) (xs : List Row) : Prop where
  own : ∀ x ∈ xs, w.ownsRow base 3 1 x.v x.l.length (nums .i64 x.l) ∧ 0 < x.l.length
  apart : xs.Pairwise fun x y => x.v.ownBlock ≠ y.v.ownBlock
theorem Rows.nil (w : World) (base : Nat) : Rows w base [] := ⟨fun x hx => by simp at hx, List.Pairwise.nil⟩
theorem Rows.step {w w1 : World} {base : Nat} {xs : List Row} (h : Rows w base xs) (hm : ∀ k cells, base ≤ k → k < w.heap.size → w.heap[k]? = some (.cells cells 3 (0, 0)) → w1.heap[k]? = w.heap[k]?) : Rows w1 base xs := by
  refine ⟨fun x hx => ?_, h.apart⟩
  obtain ⟨ho, hp⟩ := h.own x hx
  refine ⟨own_move ho (fun k hk => ?_), hp⟩
  obtain ⟨cells, hc⟩ := own_typed ho k hk
  exact hm k cells (own_base ho k hk) (own_lt ho k hk) hc
theorem Rows.below {w w1 : World} {base : Nat} {xs : List Row} (h : Rows w base xs) (hb : Below w.heap.size w w1) : Rows w1 base xs := h.step (fun k _ _ hk _ => hb.block k hk)
theorem Rows.grown {w w1 : World} {base : Nat} {xs : List Row} (h : Rows w base xs) {row : Option Nat} (hg : w.grownBy w1 row) (ht : ∀ k, row = some k → ∀ cells, w.heap[k]? ≠ some (.cells cells 3 (0, 0))) : Rows w1 base xs :=
  h.step (fun k cells _ hk hc => hg.block k hk (fun e => ht k e.symm cells hc))
theorem Rows.sub {w : World} {base : Nat} {xs ys : List Row} (h : Rows w base xs) (hs : ys.Sublist xs) : Rows w base ys := ⟨fun x hx => h.own x (hs.subset hx), h.apart.sublist hs⟩
theorem Rows.perm {w : World} {base : Nat} {xs ys : List Row} (h : Rows w base xs) (hp : xs.Perm ys) : Rows w base ys :=
  ⟨fun x hx => h.own x (hp.mem_iff.2 hx), (hp.pairwise_iff (fun h e => h e.symm)).1 h.apart⟩
theorem Rows.snoc {w w1 : World} {base : Nat} {xs : List Row} {x : Row} (h : Rows w base xs) (hb : Below w.heap.size w w1) (hs : base ≤ w.heap.size) (hx : w1.ownsRow w.heap.size 3 1 x.v x.l.length (nums .i64 x.l)) (hp : 0 < x.l.length) : Rows w1 base (xs ++ [x]) := by
  have h1 := h.below hb
  refine ⟨fun y hy => ?_, ?_⟩
  · rcases List.mem_append.1 hy with hy | hy
    · exact h1.own y hy
    · simp at hy; subst hy; exact ⟨own_weaken hx hs, hp⟩
  · refine List.pairwise_append.2 ⟨h1.apart, List.pairwise_singleton _ _, fun y hy z hz => ?_⟩
    simp at hz; subst hz
    obtain ⟨ho, _⟩ := h.own y hy
    intro e
    rcases own_nil_or hx with ⟨hv, hn, _⟩ | ⟨g, cap, hv⟩
    · omega
    · rw [hv] at e hx
      have e' : y.v.ownBlock = some g := e
      have h2 := own_lt ho g e'
      have h3 := (own_block hx).2.2.1
      omega
theorem Rows.is {w : World} {base : Nat} {xs : List Row} (h : Rows w base xs) {x : Row} (hx : x ∈ xs) : x.Is w := by
  obtain ⟨ho, hp⟩ := h.own x hx
  obtain ⟨A, c, e1, e2, e3⟩ := Kd.R_reads (R_mk ho)
  exact ⟨A, c, e1, e2, e3⟩
theorem Rows.blockOf {w : World} {base : Nat} {xs : List Row} (h : Rows w base xs) {x : Row} (hx : x ∈ xs) : ∃ g cap, x.v = .slice (some ⟨g, 0, none⟩) x.l.length cap ∧ base ≤ g ∧ ∃ cells, w.heap[g]? = some (.cells cells 3 (0, 0)) := by
  obtain ⟨ho, hp⟩ := h.own x hx
  rcases own_nil_or ho with ⟨hv, hn, _⟩ | ⟨g, cap, hv⟩
  · omega
  · have ho' := ho
    rw [hv] at ho'
    obtain ⟨_, _, hb, _, _, _, cur, hh, _⟩ := own_block ho'
    exact ⟨g, cap, hv, hb, cur, hh⟩
theorem Rows.toS {w : World} {base : Nat} {xs : List Row} {v : Value} (h : Rows w base xs) (ho : w.ownsRow base 22 1 v xs.length (xs.map Row.v)) : Kd.S (Kd.slice 3 (Kd.int .i64)) 22 w base (fun _ => True) v (xs.map Row.l) := by
  have hf : ∃ f : Nat → Nat, ∀ i x, xs[i]? = some x → ∀ k, x.v.ownBlock = some k → f k = i := by
    refine ⟨fun k => xs.findIdx fun x => x.v.ownBlock == some k, fun i x hi k hk => ?_⟩
    obtain ⟨hlt, rfl⟩ := List.getElem?_eq_some_iff.1 hi
    rw [List.findIdx_eq hlt]
    refine ⟨by simpa using hk, fun j hj => ?_⟩
    have := List.pairwise_iff_getElem.1 h.apart j i (by omega) hlt hj
    rw [hk] at this
    simpa using this
  obtain ⟨f, hf⟩ := hf
  refine ⟨f, fun k _ => trivial, xs.map Row.v, by rw [List.length_zipIdx, List.length_map]; exact ho, by show (xs.map Row.v).length = ((xs.map Row.l).zipIdx).length * 1; simp, fun j p hj => ?_⟩
  rw [List.getElem?_zipIdx, List.getElem?_map] at hj
  cases hx : xs[j]? with
  | none => rw [hx] at hj; simp at hj
  | some x =>
    rw [hx] at hj
    simp at hj
    subst hj
    have hlt : j < xs.length := (List.getElem?_eq_some_iff.1 hx).1
    have hxe : xs[j] = x := (List.getElem?_eq_some_iff.1 hx).2
    obtain ⟨ho1, hp⟩ := h.own x (List.mem_of_getElem? hx)
    have hc : ((xs.map Row.v).drop (j * 1)).take 1 = [x.v] := by
      rw [Nat.mul_one, List.drop_eq_getElem_cons (by simpa using hlt)]
      simp [hxe]
    show ∃ v', ((xs.map Row.v).drop (j * 1)).take 1 = [v'] ∧ _
    refine ⟨x.v, hc, ?_⟩
    have hne : ∀ k, x.v.ownBlock = some k → some k ≠ v.ownBlock := by
      intro k hk e
      obtain ⟨c1, h1⟩ := own_typed ho1 k hk
      obtain ⟨c2, h2⟩ := own_typed ho k e.symm
      rw [h1] at h2
      simp at h2
    exact Kd.R_of_own (enc := Value.int .i64) ho1 (fun k hk => ⟨⟨trivial, hne k hk⟩, hf j x hx k hk⟩)
theorem minimal1.calls (A B : Option Addr) (n m c d : Nat) (w : World) (hn : n ≤ 9223372036854775807) (hm : m ≤ 9223372036854775807) :
    Calls Tryz.prog 34 #[.slice A n c, .slice B m d] w fun e w' => e = .returned (.int .i64 ((n : Int) - m)) ∧ w' = w := by
  go_enter Tryz.func34, Tryz.ntmps34
  go_wp2
  go_ret
  exact ⟨rfl, rfl⟩
theorem eg29 : ∀ args w, (callFunc 34 args).run Tryz.prog w = .ok (.enter 34 args) w := fun args w => by simp [go_sem]
theorem eg33 : ∀ args w, (callFunc 38 args).run Tryz.prog w = .ok (.enter 38 args) w := fun args w => by simp [go_sem]
def GoodRow (w : World) (blk : Nat) (x : Row) : Prop := x.Is w ∧ ∀ b off n c, x.v = .slice (some ⟨b, off, none⟩) n c → 0 < n → b ≠ blk
abbrev GRow (w : World) (blk : Nat) : Type := { x : Row // GoodRow w blk x }
instance (w : World) (blk : Nat) : Inhabited (GRow w blk) := ⟨⟨⟨.slice none 0 0, []⟩, ⟨none, 0, rfl, Nat.le_refl _, rfl, by simp, fun h => absurd h (Nat.lt_irrefl 0)⟩, fun b off n c h => by cases h⟩⟩
def GRow.enc {w : World} {blk : Nat} (x : GRow w blk) : Value := x.1.v
theorem GRow.one (w : World) (blk : Nat) : OneCell (GRow.enc (w := w) (blk := blk)) := fun x => by
  obtain ⟨A, c, h, _⟩ := x.2.1
  show (x.1.v).oneCell' = true
  rw [h]; rfl
theorem cell_same {w w1 : World} {a : Addr} (h : w1.heap[a.block]? = w.heap[a.block]?) : w1.cell? a = w.cell? a := by unfold World.cell?; rw [h]
theorem C_move {w w1 : World} {A : Option Addr} {n : Nat} {xs : List Int} (h : Kd.C (Kd.int .i64) w A n xs) (hm : ∀ b off, A = some ⟨b, off, none⟩ → 0 < n → w1.heap[b]? = w.heap[b]?) : Kd.C (Kd.int .i64) w1 A n xs := by
  refine ⟨h.1, h.2.1, fun hn => ?_⟩
  obtain ⟨b, off, e, _, _⟩ := C_int h hn
  obtain ⟨ad, e1, hc⟩ := h.2.2 hn
  refine ⟨ad, e1, fun j p hj => ?_⟩
  obtain ⟨c, hs, hK, hcell⟩ := hc j p hj
  refine ⟨c, hs, hK, fun q u hq => ?_⟩
  rw [← hcell q u hq]
  rw [e] at e1
  injection e1 with e1
  have := hm b off e hn
  subst e1
  refine cell_same ?_
  unfold Addr.add
  split <;> exact this
theorem Row.Is.sorted {α : Type} [Inhabited α] {enc : α → Value} {w : World} {blk off m : Nat} {dk : Array α} {os : Array Obj} {x : Row} (h : GoodRow w blk x) : x.Is (sortWorld enc w blk off m dk os) := by
  obtain ⟨⟨A, c, h1, h2, h3⟩, hne⟩ := h
  refine ⟨A, c, h1, h2, C_move h3 (fun b o e hn => ?_)⟩
  obtain ⟨b', o', e', hb', _⟩ := C_int h3 hn
  rw [e] at e'
  cases e'
  have hnb := hne b o _ _ (by rw [h1, e]) hn
  have hg : (sortWorld enc w blk off m dk os).heap[b]? = w.heap[b]? := by
    unfold sortWorld
    rw [heap_grow_old]
    · simp only [putRow, mapBlock, Sort.ahead, Array.getElem?_modify]
      rw [if_neg (fun e => hnb e.symm)]
    · simp only [putRow, mapBlock, Sort.ahead, Array.size_modify]; exact hb'
  exact hg
theorem lays29 (w : World) (blk off size : Nat) : CmpLays1 Tryz.prog 34 #[] (GRow.enc (w := w) (blk := blk)) (fun x y => (x.1.l.length : Int) - y.1.l.length) blk off size w := by
  intro m os dk hs x y
  obtain ⟨A, c, h1, h2, h3⟩ := x.2.1
  obtain ⟨B, d, k1, k2, k3⟩ := y.2.1
  show Calls _ _ #[x.1.v, y.1.v] _ _
  rw [h1, k1]
  refine (minimal1.calls A B _ _ c d _ (C_max h3) (C_max k3)).mono ?_
  rintro e w' ⟨rfl, rfl⟩
  exact ⟨rfl, 0, #[], by rw [grow_empty, World.drewN_zero]⟩
theorem lays33 (w : World) (blk off size : Nat) : CmpLays1 Tryz.prog 38 #[] (GRow.enc (w := w) (blk := blk)) (fun x y => Hyp.cmpL x.1.l y.1.l) blk off size w := by
  intro m os dk hs x y
  obtain ⟨A, c, h1, h2, h3⟩ := Row.Is.sorted (enc := GRow.enc) (off := off) (m := m) (dk := dk) (os := os) x.2
  obtain ⟨B, d, k1, k2, k3⟩ := Row.Is.sorted (enc := GRow.enc) (off := off) (m := m) (dk := dk) (os := os) y.2
  show Calls _ _ #[x.1.v, y.1.v] _ _
  rw [h1, k1]
  refine (slices_Compare.calls A c _ B d _ _ h3 k3).mono ?_
  rintro e w' ⟨rfl, q, rfl⟩
  exact ⟨rfl, q, #[], by rw [grow_empty]⟩
theorem insertion_none (A : Option Addr) (c : Nat) (fv : Value) (w : World) :
    Calls Tryz.prog 56 #[.slice A 0 c, .int .i64 0, .int .i64 0, fv] w fun e w' => e = .returned (.tuple #[]) ∧ ∃ q, w' = w.drewN q := by
  go_enter Tryz.func56, Tryz.ntmps56
  go_wp2
  go_loopg [8] 0 (fun g s8 wr => s8 = .int .i64 1 ∧ ∃ q, wr = w.drewN q)
  case atStart => exact ⟨rfl, 0, rfl⟩
  case round =>
    obtain ⟨rfl, q, rfl⟩ := hrel
    go_wp2
    go_end0
    exact ⟨rfl, _, rfl⟩
theorem stable_none (A : Option Addr) (c : Nat) (fv : Value) (w : World) :
    Calls Tryz.prog 45 #[.slice A 0 c, .int .i64 0, fv] w fun e w' => e = .returned (.tuple #[]) ∧ ∃ q, w' = w.drewN q := by
  go_enter Tryz.func45, Tryz.ntmps45
  go_wp2
  go_loopg [7, 8] 0 (fun g s7 s8 wr => s7 = .int .i64 0 ∧ s8 = .int .i64 20 ∧ ∃ q, wr = w.drewN q)
  case atStart => exact ⟨rfl, rfl, 0, rfl⟩
  case round =>
    obtain ⟨rfl, rfl, q, rfl⟩ := hrel
    go_wp2_with fail
    refine (insertion_none A c fv _).mono ?_
    rintro e w' ⟨rfl, q2, rfl⟩
    go_wp2
    go_loopg [6] 0 (fun g s6 wr => s6 = .int .i64 20 ∧ ∃ q, wr = w.drewN q)
    case atStart => exact ⟨rfl, _, rfl⟩
    case round =>
      obtain ⟨rfl, q3, rfl⟩ := hrel
      go_wp2
      go_end0
      exact ⟨rfl, _, rfl⟩
theorem SortStableFunc_none (A : Option Addr) (c : Nat) (fv : Value) (w : World) :
    Calls Tryz.prog 33 #[.slice A 0 c, fv] w fun e w' => e = .returned (.tuple #[]) ∧ ∃ q, w' = w.drewN q := by
  go_enter Tryz.func33, Tryz.ntmps33
  go_wp2_with fail
  refine (stable_none A c fv _).mono ?_
  rintro e w' ⟨rfl, q2, rfl⟩
  go_wp2
  go_end0
  exact ⟨rfl, _, rfl⟩
theorem SortStableFunc.calls {α : Type} [Inhabited α] (enc : α → Value) (cf : α → α → Int) (hO : SWO (ltOf cf)) (g : Nat) (blk cap : Nat) (d : Array α) (w : World)
    (eg : ∀ args w, (callFunc g args).run Tryz.prog w = .ok (.enter g args) w) (hcmp : CmpLays1 Tryz.prog g #[] enc cf blk 0 d.size w) (R0 : Row1 enc w blk 0 d) (hsz : d.size < 1152921504606846976) :
    Calls Tryz.prog 33 #[.slice (some ⟨blk, 0, none⟩) d.size cap, .func (.func g) #[] #[]] w (SymPost enc cf w blk 0 0 d.size d) := by
  obtain ⟨P2, hP2⟩ : ∃ P : World → Prop, P = fun w' => ∃ d', SW enc w blk 0 d' w' ∧ PermIn 0 d.size d d' ∧ SortedIn (ltOf cf) 0 d.size d' := ⟨_, rfl⟩
  have hPo : SymPost enc cf w blk 0 0 d.size d = fun e w' => e = .returned (.tuple #[]) ∧ P2 w' := by rw [hP2]; rfl
  have H := stable.calls_f45 enc cf hO g #[] blk 0 cap d w eg hcmp R0 hsz
  rw [hPo] at H ⊢
  have HH := Lib.hid H
  clear H hcmp R0 hP2 hPo
  go_enter Tryz.func33, Tryz.ntmps33
  go_wp2_with fail
  refine HH.out.mono ?_
  rintro e w' ⟨rfl, h⟩
  go_wp2
  go_end0
  exact ⟨rfl, h⟩
end Go.Proofs.YtgjbnmobhafajaaGreatDoor
end
section
namespace Go.Proofs.YtgjbnmobhafajaaGreatDoor
open Go Go.RowKit Go.Maps Go.Sort Go.Proofs.YtgjbnmobhafajaaGreatDoorW.PrintWords Go.Proofs.YtgjbnmobhafajaaGreatDoorW.PrintLast
theorem plainElem_bool_inv {H : Type} {P : Program} {e : TypeId} (he : P.underlying e = some .bool) {v : Value} {z : DataW H × List MemPlace} (h : plainElem P e v = some z) : ∃ x, v = .bool x ∧ z = (.lit (.bool x), []) := by
  unfold plainElem at h
  rw [he] at h
  cases v <;> simp at h
  exact ⟨_, rfl, h.symm⟩
def Known (w : World) (b n : Nat) (T : List (List UInt8)) : Prop :=
  ∃ D : DataW Unit, w.ownsMap Tryz.prog 9 (plainElem Tryz.prog 4) b n D ∧ ∀ s, D.atKey (.string s) (.lit (.bool false)) = .lit (.bool (decide (s ∈ T)))
theorem Known.made (w : World) : Known (w.alloc (.map #[] 0)) w.heap.size 0 [] :=
  ⟨.map [], World.ownsMap_made w _ _ _, fun s => by rfl⟩
theorem Known.step {w w1 : World} {b n : Nat} {T : List (List UInt8)} (h : Known w b n T) (hk : w1.heap[b]? = w.heap[b]?) : Known w1 b n T := by
  obtain ⟨D, ⟨es, clock, hb, r⟩, hD⟩ := h
  exact ⟨D, ⟨es, clock, hk.trans hb, r⟩, hD⟩
theorem Known.lt {w : World} {b n : Nat} {T : List (List UInt8)} (h : Known w b n T) : b < w.heap.size := by
  obtain ⟨D, h, _⟩ := h
  exact h.lt
theorem Known.isMap {w : World} {b n : Nat} {T : List (List UInt8)} (h : Known w b n T) : ∀ cells e fr, w.heap[b]? ≠ some (.cells cells e fr) := by
  obtain ⟨D, ⟨es, clock, hb, r⟩, hD⟩ := h
  intro cells e fr h
  rw [hb] at h
  cases h
theorem Known.look {w : World} {b n : Nat} {T : List (List UInt8)} (h : Known w b n T) (s : List UInt8) (hs : s.length ≤ maxLen) : (Instr.lookup 51 (.map (some b)) (.string ⟨s.toArray⟩) false).run Tryz.prog w = .ok (.bool (decide (s ∈ T))) w := by
  obtain ⟨D, ho, hD⟩ := h
  obtain ⟨v, ps, hrun, hv⟩ := ho.lookup (string_keyed Tryz.underlying9) Tryz.underlying51 (Tryz.zeroValue4 w) (plainElem_bool Tryz.underlying4 false) (WideMaps.keyOf_string_mk Tryz.underlying9 (s := ⟨s.toArray⟩) (by show s.toArray.size ≤ maxLen; simpa using hs))
  obtain ⟨x, rfl, hx⟩ := plainElem_bool_inv Tryz.underlying4 hv
  rw [hrun]
  have h2 := hD s
  simp only [Prod.mk.injEq] at hx
  have h3 := hx.1
  rw [h2] at h3
  have h4 : decide (s ∈ T) = x := by simpa using h3
  rw [h4]
theorem Known.putD {w : World} {b n : Nat} {T : List (List UInt8)} {D : DataW Unit} (hm : Maps.IsMap D) (hD : ∀ s, D.atKey (.string s) (.lit (.bool false)) = .lit (.bool (decide (s ∈ T)))) (s : List UInt8)
    (h : w.ownsMap Tryz.prog 9 (plainElem Tryz.prog 4) b n (D.put (.string s) (.lit (.bool true)))) : Known w b n (T ++ [s]) := by
  refine ⟨_, h, fun r => ?_⟩
  by_cases hr : r = s
  · subst hr
    rw [Maps.atKey_put_same hm (by simp [WideAt.IsKeyLit])]
    simp
  · rw [Maps.atKey_put_other (by intro e; injection e with e; exact hr e), hD]
    simp [hr]
def Places (w : World) (b n : Nat) (f : Int → Option Int) : Prop :=
  ∃ D : DataW Unit, w.ownsMap Tryz.prog 3 (plainElem Tryz.prog 3) b n D ∧ ∀ k, Maps.has D (.int .i64 k) = (f k).isSome ∧ D.atKey (.int .i64 k) (.lit (.int .i64 0)) = .lit (.int .i64 ((f k).getD 0))
theorem Places.made (w : World) : Places (w.alloc (.map #[] 0)) w.heap.size 0 (fun _ => none) :=
  ⟨.map [], World.ownsMap_made w _ _ _, fun s => ⟨by rfl, by rfl⟩⟩
theorem Places.step {w w1 : World} {b n : Nat} {f : Int → Option Int} (h : Places w b n f) (hk : w1.heap[b]? = w.heap[b]?) : Places w1 b n f := by
  obtain ⟨D, ⟨es, clock, hb, r⟩, hD⟩ := h
  exact ⟨D, ⟨es, clock, hk.trans hb, r⟩, hD⟩
theorem Places.lt {w : World} {b n : Nat} {f : Int → Option Int} (h : Places w b n f) : b < w.heap.size := by
  obtain ⟨D, h, _⟩ := h
  exact h.lt
theorem Places.look {w : World} {b n : Nat} {f : Int → Option Int} (h : Places w b n f) (k : Int) (hk : (Lit.int .i64 k).wf = true) : (Instr.lookup 45 (.map (some b)) (.int .i64 k) true).run Tryz.prog w = .ok (.tuple #[.int .i64 ((f k).getD 0), .bool (f k).isSome]) w := by
  obtain ⟨D, ho, hD⟩ := h
  obtain ⟨v, ps, hrun, hv⟩ := ho.look_ok (int_keyed Tryz.underlying3) Tryz.underlying45 (Tryz.zeroValue3 w) (plainElem_int Tryz.underlying3 (q := .i64) (a := 0) (by decide)) (keyOf_int_mk Tryz.underlying3 hk)
  obtain ⟨c, rfl, hc, _⟩ := plainElem_int_inv Tryz.underlying3 hv
  obtain ⟨h1, h2⟩ := hD k
  rw [hrun, h1]
  simp only [Prod.mk.injEq] at hc
  have h3 := hc.1
  rw [h2] at h3
  have h4 : (f k).getD 0 = c := by simpa using h3
  rw [h4]
theorem Places.putD {w : World} {b n : Nat} {f : Int → Option Int} {D : DataW Unit} (hm : Maps.IsMap D) (hD : ∀ k, Maps.has D (.int .i64 k) = (f k).isSome ∧ D.atKey (.int .i64 k) (.lit (.int .i64 0)) = .lit (.int .i64 ((f k).getD 0))) (k v : Int)
    (h : w.ownsMap Tryz.prog 3 (plainElem Tryz.prog 3) b n (D.put (.int .i64 k) (.lit (.int .i64 v)))) : Places w b n (fun x => if x = k then some v else f x) := by
  refine ⟨_, h, fun r => ?_⟩
  by_cases hr : r = k
  · subst hr
    simp only [if_true]
    exact ⟨Maps.has_put_same hm (by simp [WideAt.IsKeyLit]) _, Maps.atKey_put_same hm (by simp [WideAt.IsKeyLit]) _ _⟩
  · simp only [if_neg hr]
    have hne : Lit.int .i64 r ≠ Lit.int .i64 k := by intro e; injection e with _ e; exact hr e
    obtain ⟨h1, h2⟩ := hD r
    exact ⟨(Maps.has_put_other hne _).trans h1, (Maps.atKey_put_other hne _ _).trans h2⟩
end Go.Proofs.YtgjbnmobhafajaaGreatDoor
end
section
namespace Go.Proofs.YtgjbnmobhafajaaGreatDoor
open Go.RowKit Go.Sort Go.Proofs.YtgjbnmobhafajaaGreatDoorW.PrintWords Go.Proofs.YtgjbnmobhafajaaGreatDoorW.PrintLast
def Hyp.Inc (l : List Int) : Prop := l.Pairwise (· < ·)
def Hyp.subB (f e : List Int) : Bool := f.all fun x => e.contains x
theorem Hyp.subB_iff (f e : List Int) : Hyp.subB f e = true ↔ ∀ x ∈ f, x ∈ e := by simp [Hyp.subB]
theorem Hyp.count_at (L : List Int) (v : Int) (h : Hyp.Inc L) (hv : v ∈ L) : L.countP (· < v) < L.length ∧ ∀ x ∈ L.take (L.countP (· < v) + 1), x ≤ v := by
  induction L with
  | nil => cases hv
  | cons y L ih =>
    have hi := List.pairwise_cons.1 h
    by_cases hy : y < v
    · have hv' : v ∈ L := by
        rcases List.mem_cons.1 hv with e | e
        · omega
        · exact e
      obtain ⟨h1, h2⟩ := ih hi.2 hv'
      rw [List.countP_cons_of_pos (by simpa using hy)]
      refine ⟨by simp; omega, ?_⟩
      intro x hx
      rw [List.take_succ_cons] at hx
      rcases List.mem_cons.1 hx with e | e
      · omega
      · exact h2 x e
    · rw [List.countP_cons_of_neg (by simpa using hy)]
      have h0 : L.countP (· < v) = 0 := by
        rw [List.countP_eq_zero]
        intro x hx
        have := hi.1 x hx
        simp; omega
      rw [h0]
      refine ⟨by simp, ?_⟩
      intro x hx
      simp at hx
      subst hx
      rcases List.mem_cons.1 hv with e | e
      · omega
      · have := hi.1 v e; omega
structure Hyp.ConRel (e f : List Int) (j k : Nat) : Prop where
  hj : j ≤ e.length
  hk : k ≤ f.length
  was : ∀ x ∈ f.take k, x ∈ e
  past : ∀ x ∈ e.take j, ∀ y ∈ f.drop k, x < y
theorem Hyp.con_more {e f : List Int} {j k : Nat} (R : Hyp.ConRel e f j k) (he : Hyp.Inc e) (hf : Hyp.Inc f) (hlt : k < f.length) (hin : f.getD k 0 ∈ e.drop j) :
    Hyp.ConRel e f (j + ((e.drop j).countP (· < f.getD k 0) + 1)) (k + 1) := by
  obtain ⟨h1, h2⟩ := Hyp.count_at (e.drop j) _ (he.sublist (List.drop_sublist _ _)) hin
  have hfk : f.getD k 0 = f[k] := by rw [List.getD_eq_getElem?_getD, List.getElem?_eq_getElem hlt]; rfl
  have hd := List.drop_eq_getElem_cons hlt
  have hinc : Hyp.Inc (f.drop k) := hf.sublist (List.drop_sublist _ _)
  rw [hd] at hinc
  have hi := List.pairwise_cons.1 hinc
  rw [List.length_drop] at h1
  refine ⟨by omega, by omega, ?_, ?_⟩
  · intro x hx
    rw [List.take_succ_eq_append_getElem hlt] at hx
    rcases List.mem_append.1 hx with hx | hx
    · exact R.was x hx
    · simp at hx; subst hx; rw [← hfk]; exact List.mem_of_mem_drop hin
  · intro x hx y hy
    rw [List.take_add] at hx
    rcases List.mem_append.1 hx with hx | hx
    · exact R.past x hx y (by rw [hd]; exact List.mem_cons_of_mem _ hy)
    · have := h2 x hx
      have h3 := hi.1 y hy
      rw [hfk] at this
      omega
theorem Hyp.con_no {e f : List Int} {j k : Nat} (R : Hyp.ConRel e f j k) (hlt : k < f.length) (hin : ¬ f.getD k 0 ∈ e.drop j) : Hyp.subB f e = false := by
  rw [Bool.eq_false_iff]
  intro h
  rw [Hyp.subB_iff] at h
  have hfk : f.getD k 0 = f[k] := by rw [List.getD_eq_getElem?_getD, List.getElem?_eq_getElem hlt]; rfl
  have hm := h f[k] (List.getElem_mem hlt)
  rw [← List.take_append_drop j e] at hm
  rcases List.mem_append.1 hm with hm | hm
  · have := R.past _ hm f[k] (by rw [List.drop_eq_getElem_cons hlt]; exact List.mem_cons_self)
    omega
  · rw [hfk] at hin; exact hin hm
theorem Hyp.con_yes {e f : List Int} {j : Nat} (R : Hyp.ConRel e f j f.length) : Hyp.subB f e = true := by
  rw [Hyp.subB_iff]
  intro x hx
  exact R.was x (by rw [List.take_length]; exact hx)
theorem C_drop {w : World} {b off n : Nat} {xs : List Int} (h : Kd.C (Kd.int .i64) w (some ⟨b, off, none⟩) n xs) (i : Nat) (hi : i ≤ n) (h0 : 0 < n) :
    Kd.C (Kd.int .i64) w (some ⟨b, off + i, none⟩) (n - i) (xs.drop i) := by
  have hl : xs.length = n := h.1
  obtain ⟨b', off', e, _, hc⟩ := C_int h h0
  cases e
  refine ⟨by rw [List.length_drop]; omega, by have := h.2.1; omega, fun hn => ⟨_, rfl, fun j p hj => ⟨[.int .i64 p], rfl, rfl, fun q u hq => ?_⟩⟩⟩
  rw [List.getElem?_drop] at hj
  have hlt : i + j < xs.length := (List.getElem?_eq_some_iff.1 hj).1
  have hp : xs[i + j] = p := (List.getElem?_eq_some_iff.1 hj).2
  cases q with
  | succ q => simp at hq
  | zero =>
    simp at hq
    subst hq
    have e1 : (⟨b, off + i, none⟩ : Addr).add (j * (Kd.int .i64).sz + 0) = ⟨b, off + (i + j), none⟩ := by
      show (⟨b, off + i, none⟩ : Addr).add (j * 1 + 0) = _
      unfold Addr.add
      by_cases hj0 : j = 0
      · subst hj0; simp
      · rw [if_neg (by omega)]; simp; omega
    rw [e1, hc (i + j) (by omega), List.getD_eq_getElem?_getD, List.getElem?_eq_getElem hlt, hp]
    rfl
theorem C_nil {α : Type} (d : Kd α) (w : World) (A : Option Addr) : Kd.C d w A 0 [] := ⟨rfl, by omega, fun h => absurd h (by omega)⟩
def ConState (w : World) (e : List Int) (j : Nat) (v : Value) (W : World) : Prop :=
  ∃ A c, v = .slice A (e.length - j) c ∧ e.length - j ≤ c ∧ Kd.C (Kd.int .i64) w A (e.length - j) (e.drop j) ∧ ∃ q, W = w.drewN q
set_option maxHeartbeats 1000000 in
theorem hyper_contains.calls (A0 : Option Addr) (c0 : Nat) (l0 : List Int) (A1 : Option Addr) (c1 : Nat) (l1 : List Int) (w : World) (hr0 : Kd.C (Kd.int .i64) w A0 l0.length l0) (hc0 : l0.length ≤ c0) (hr1 : Kd.C (Kd.int .i64) w A1 l1.length l1)
    (hl0 : l0.length ≤ 1099511627776) (hl1 : l1.length ≤ 1099511627776) (h0 : Hyp.Inc l0) (h1 : Hyp.Inc l1) :
    Calls Tryz.prog 48 #[.slice A0 l0.length c0, .slice A1 l1.length c1] w fun e w' => e = .returned (.bool (Hyp.subB l1 l0)) ∧ ∃ q, w' = w.drewN q := by
  have HF : Hid (∀ k, k < l1.length → ∃ b off, A1 = some ⟨b, off, none⟩ ∧ b < w.heap.size ∧ ∀ j, j < l1.length → w.cell? ⟨b, off + j, none⟩ = some (.int .i64 (l1.getD j 0))) := fun k hk => C_int hr1 (by omega)
  have S0 : Hid (ConState w l0 0 (.slice A0 l0.length c0) w) := Lib.hid ⟨A0, c0, rfl, hc0, hr0, 0, rfl⟩
  have HI0 := Lib.hid h0
  have HI1 := Lib.hid h1
  clear hr0 hr1 h0 h1
  obtain ⟨res, hres⟩ : ∃ r, r = Hyp.subB l1 l0 := ⟨_, rfl⟩
  rw [← hres]
  have HRES := Lib.hid hres
  clear hres
  go_enter Tryz.func48, Tryz.ntmps48
  go_wp2
  go_loopg [0, 11] l1.length (fun g s0 s11 wr => ∃ j k : Nat, s11 = .int .i64 k ∧ k ≤ l1.length ∧ l1.length - k ≤ g ∧ Hid (Hyp.ConRel l0 l1 j k) ∧ Hid (ConState w l0 j s0 wr))
  case atStart => exact ⟨0, 0, rfl, Nat.zero_le _, by omega, Lib.hid ⟨Nat.zero_le _, Nat.zero_le _, fun x hx => by simp at hx, fun x hx => by simp at hx⟩, S0⟩
  case round =>
    clear S0
    obtain ⟨j, k, rfl, hk, hg, HR, S1⟩ := hrel
    obtain ⟨A, c, rfl, hc, hC, q, rfl⟩ := S1.out
    have hj := HR.out.hj
    clear S1
    by_cases hlt : k < l1.length
    · have hltz : (k : Int) < (l1.length : Int) := by omega
      obtain ⟨b1, off1, rfl, hb1, hcs⟩ := HF.out k hlt
      have hcell := hcs k hlt
      clear hcs
      have HCR := Lib.hid hC
      clear hC
      obtain ⟨n, hn⟩ : ∃ n, n = l0.length - j := ⟨_, rfl⟩
      rw [← hn] at hc HCR ⊢
      have HN := Lib.hid hn
      clear hn
      obtain ⟨v, hv⟩ : ∃ v, v = l1.getD k 0 := ⟨_, rfl⟩
      rw [← hv] at hcell
      have HV := Lib.hid hv
      clear hv
      by_cases hn0 : n = 0
      · subst hn0
        have hno := Hyp.con_no HR.out hlt (by have := HCR.out.1; rw [List.eq_nil_of_length_eq_zero this]; simp)
        rw [← HRES.out] at hno
        have HNO := Lib.hid hno
        clear hno
        go_wp2_with fail
        refine (Tryz.slices_BinarySearch_int_empty _ _ _ _).mono ?_
        rintro e w' ⟨rfl, rfl⟩
        go_wp2
        go_ret
        exact ⟨by rw [HNO.out]; rfl, _, rfl⟩
      · obtain ⟨b, off, rfl, hb, hcs⟩ := C_int HCR.out (by omega)
        have HCS := Lib.hid hcs
        clear hcs
        have hll : (l0.drop j).length = n := HCR.out.1
        have HLL := Lib.hid hll
        clear hll
        have hpw : ((l0.drop j).take n).Pairwise (· ≤ ·) := by
          rw [← HLL.out, List.take_length]
          exact (HI0.out.sublist (List.drop_sublist _ _)).imp (fun h => by omega)
        have HPW := Lib.hid hpw
        clear hpw
        go_wp2_with fail
        refine (Tryz.slices_BinarySearch_int b off n c (l0.drop j) v _ (by rw [HLL.out]; omega) (by have := HN.out; omega) (by rw [HLL.out]; exact HCS.out) HPW.out).mono ?_
        rintro e w' ⟨rfl, q2, rfl⟩
        have htk : (l0.drop j).take n = l0.drop j := by rw [← HLL.out, List.take_length]
        rw [htk]
        clear htk
        by_cases hin : v ∈ l0.drop j
        · have hct : (l0.drop j).contains v = true := by simpa using hin
          rw [hct]
          obtain ⟨h1, _⟩ := Hyp.count_at (l0.drop j) v (HI0.out.sublist (List.drop_sublist _ _)) hin
          have hmore := Hyp.con_more HR.out HI0.out HI1.out hlt (by rw [← HV.out]; exact hin)
          rw [← HV.out] at hmore
          rw [HLL.out] at h1
          have HMORE := Lib.hid hmore
          clear hmore hct hin
          generalize (l0.drop j).countP (· < v) = i at *
          have hC' := C_drop HCR.out (i + 1) (by omega) (by omega)
          rw [List.drop_drop] at hC'
          have HC' := Lib.hid hC'
          clear hC'
          have hi1 : (i : Int) + 1 ≤ (n : Int) := by omega
          have hi2 : (i : Int) + 1 ≤ (c : Int) := by omega
          have hi0 : (0 : Int) ≤ (i : Int) + 1 := by omega
          have hcn := HN.out
          by_cases hcap : c = i + 1
          · subst hcap
            obtain rfl : n = i + 1 := by omega
            go_wp2
            go_roundg (l1.length - (k + 1))
            case measure => omega
            case rel =>
              have e0 : l0.length - (j + (i + 1)) = 0 := by omega
              have ed : l0.drop (j + (i + 1)) = [] := List.drop_eq_nil_iff.2 (by omega)
              refine ⟨j + (i + 1), k + 1, rfl, by omega, by omega, HMORE, Lib.hid ⟨some ⟨b, off, none⟩, 0, ?_, ?_, ?_, q + q2, rfl⟩⟩
              · rw [e0]
              · omega
              · rw [e0, ed]; exact C_nil _ _ _
          · go_wp2
            go_roundg (l1.length - (k + 1))
            case measure => omega
            case rel =>
              have e0 : l0.length - (j + (i + 1)) = n - (i + 1) := by omega
              refine ⟨j + (i + 1), k + 1, rfl, by omega, by omega, HMORE, Lib.hid ⟨some ⟨b, off + (i + 1), none⟩, c - (i + 1), ?_, ?_, ?_, q + q2, rfl⟩⟩
              · rw [e0, hcn]
              · omega
              · rw [e0]; exact HC'.out
        · have hct : (l0.drop j).contains v = false := by rw [Bool.eq_false_iff]; intro h; exact hin (by simpa using h)
          rw [hct]
          have hno := Hyp.con_no HR.out hlt (by rw [← HV.out]; exact hin)
          rw [← HRES.out] at hno
          have HNO := Lib.hid hno
          clear hno hct hin
          generalize (l0.drop j).countP (· < v) = i at *
          go_wp2
          go_ret
          exact ⟨by rw [HNO.out]; rfl, q + q2, rfl⟩
    · have hltz : ¬ (k : Int) < (l1.length : Int) := by omega
      obtain rfl : k = l1.length := by omega
      have hyes := Hyp.con_yes HR.out
      rw [← HRES.out] at hyes
      have HYES := Lib.hid hyes
      clear hyes
      go_wp2
      go_ret
      exact ⟨by rw [HYES.out]; rfl, _, rfl⟩
end Go.Proofs.YtgjbnmobhafajaaGreatDoor
end
section
namespace Go.Proofs.YtgjbnmobhafajaaGreatDoor
open Go.RowKit Go.Sort Go.Proofs.YtgjbnmobhafajaaGreatDoorW.PrintWords Go.Proofs.YtgjbnmobhafajaaGreatDoorW.PrintLast
def Hyp.textOf (l : List Int) : List UInt8 := l.flatMap fun x => Lib.itoa x ++ [32]
theorem Hyp.textOf_snoc (l : List Int) (x : Int) : Hyp.textOf (l ++ [x]) = (Hyp.textOf l ++ Lib.itoa x) ++ [32] := by
  simp [Hyp.textOf, List.flatMap_append]
theorem decDigits_len (u : Nat) : u < 10 ^ 20 → (Lib.decDigits u).length ≤ 20 := by
  suffices H : ∀ k u, u < 10 ^ k → (Lib.decDigits u).length ≤ max 1 k from fun h => by simpa using H 20 u h
  intro k
  induction k with
  | zero => intro u h; rw [Lib.decDigits, dif_pos (by omega)]; simp
  | succ k ih =>
    intro u h
    rw [Lib.decDigits]
    by_cases h10 : u < 10
    · rw [dif_pos h10]; simp
    · rw [dif_neg h10, List.length_append]
      have := ih (u / 10) (by rw [Nat.pow_succ] at h; omega)
      cases k with
      | zero => simp at h; omega
      | succ k => simp at this ⊢; omega
theorem itoa_len (i : Int) (h0 : -9223372036854775808 ≤ i) (h1 : i ≤ 9223372036854775807) : (Lib.itoa i).length ≤ 21 := by
  unfold Lib.itoa
  split
  · have := decDigits_len i.natAbs (by omega)
    simp; omega
  · have := decDigits_len i.toNat (by omega)
    omega
theorem textOf_len (l : List Int) (h : ∀ x ∈ l, -9223372036854775808 ≤ x ∧ x ≤ 9223372036854775807) : (Hyp.textOf l).length ≤ 22 * l.length := by
  induction l with
  | nil => simp [Hyp.textOf]
  | cons x l ih =>
    have h1 := itoa_len x (h x (by simp)).1 (h x (by simp)).2
    have h2 := ih (fun y hy => h y (by simp [hy]))
    simp [Hyp.textOf] at h2 ⊢
    omega
theorem byteCells_append (a b : List UInt8) : Lib.byteCells (a ++ b) = Lib.byteCells a ++ Lib.byteCells b := by simp [Lib.byteCells]
theorem byteCells_nums (a : List UInt8) : Lib.byteCells a = nums .u8 (a.map fun b => (b.toNat : Int)) := by simp [Lib.byteCells, nums]
theorem AppendInt_small (B n u : Nat) (hu : u < 100) (sv : Value) (xs : List Value) (w : World) (hown : w.ownsRow B 5 1 sv n xs) (hBw : B ≤ w.heap.size) (hlim : n + 20 ≤ 140737488355328) :
    Calls Tryz.prog 50 #[sv, .int .i64 u, .int .i64 10] w fun e w' => ∃ v', e = .returned v' ∧ w'.ownsRow B 5 1 v' (n + (Lib.itoa u).length) (xs ++ Lib.byteCells (Lib.itoa u)) ∧ Below B w w' := by
  have hi : Lib.itoa u = Lib.decDigits u := by unfold Lib.itoa; rw [if_neg (by omega)]; simp
  rw [hi]
  have h2 : ∀ w, w.ownsRow B 5 1 sv n xs → B ≤ w.heap.size → Calls Tryz.prog 61 #[sv, .int .i64 u, .int .i64 10] w fun e w' => ∃ v', e = .returned v' ∧ w'.ownsRow B 5 1 v' (n + (Lib.decDigits u).length) (xs ++ Lib.byteCells (Lib.decDigits u)) ∧ Below B w w' := by
    intro w hown hBw
    have HO := Lib.hid hown
    clear hown hi
    go_enter Tryz.func61, Tryz.ntmps61
    have hz : ¬ (u : Int) < 0 := by omega
    go_wp2_with fail
    refine (Tryz.internal_strconv_AppendUint_10_small B n u hu sv xs _ HO.out hBw hlim).mono ?_
    rintro e w' ⟨v', rfl, ho, hb, _⟩
    have HO2 := Lib.hid ho
    have HB := Lib.hid hb
    clear ho hb
    obtain ⟨A, c, rfl⟩ := own_slice HO2.out
    go_wp2_with fail
    go_ret
    exact ⟨_, rfl, HO2.out, HB.out⟩
  have HO := Lib.hid hown
  have H2 := Lib.hid h2
  clear hown h2 hi
  go_enter Tryz.func50, Tryz.ntmps50
  go_wp2_with fail
  refine (H2.out _ HO.out hBw).mono ?_
  rintro e w' ⟨v', rfl, ho, hb⟩
  have HO2 := Lib.hid ho
  have HB := Lib.hid hb
  clear ho hb
  obtain ⟨A, c, rfl⟩ := own_slice HO2.out
  go_wp2_with fail
  go_ret
  exact ⟨_, rfl, HO2.out, HB.out⟩
def TextOk (w : World) (l : List Int) : Prop := (∀ x ∈ l, 0 ≤ x ∧ x < 100) ∨ ((∀ x ∈ l, -9223372036854775808 ≤ x ∧ x ≤ 9223372036854775807) ∧ Lib.TabIs Tryz.prog w "internal/strconv.uint64pow10" .u64 Lib.pow10Tab)
theorem TextOk.wf {w : World} {l : List Int} (h : TextOk w l) : ∀ x ∈ l, -9223372036854775808 ≤ x ∧ x ≤ 9223372036854775807 := by
  rcases h with h | h
  · intro x hx; have := h x hx; omega
  · exact h.1
theorem TextOk.below {w w' : World} {l : List Int} (h : TextOk w l) (hb : Below w.heap.size w w') : TextOk w' l := by
  rcases h with h | ⟨h, ht⟩
  · exact .inl h
  · exact .inr ⟨h, Lib.tabBelow_of_tabIs ht w' hb⟩
theorem AppendInt_any (w0 : World) (n : Nat) (i : Int) (l : List Int) (hi : i ∈ l) (hT : TextOk w0 l) (sv : Value) (xs : List Value) (w : World) (hb : Below w0.heap.size w0 w) (hown : w.ownsRow w0.heap.size 5 1 sv n xs) (hlim : n + 21 ≤ 140737488355328) :
    Calls Tryz.prog 50 #[sv, .int .i64 i, .int .i64 10] w fun e w' => ∃ v', e = .returned v' ∧ w'.ownsRow w0.heap.size 5 1 v' (n + (Lib.itoa i).length) (xs ++ Lib.byteCells (Lib.itoa i)) ∧ Below w0.heap.size w w' := by
  rcases hT with h | ⟨h, ht⟩
  · obtain ⟨h0, h1⟩ := h i hi
    obtain ⟨u, rfl⟩ := Int.eq_ofNat_of_zero_le h0
    exact AppendInt_small _ n u (by omega) sv xs w hown hb.size (by omega)
  · obtain ⟨h0, h1⟩ := h i hi
    exact (Tryz.strconv_AppendInt_10 w0.heap.size n i h0 h1 sv xs w hown hb.size hlim ((Lib.tabBelow_of_tabIs ht).on hb)).mono fun _ _ ⟨v', he, ho, hb, _⟩ => ⟨v', he, ho, hb⟩
theorem strOf_bytes (l : List UInt8) : strOfNums (l.map fun b => (b.toNat : Int)) = ⟨l.toArray⟩ := by
  unfold strOfNums
  have : (l.map fun b => (b.toNat : Int)).map (fun n => UInt8.ofNat n.toNat) = l := by
    rw [List.map_map]
    conv => rhs; rw [← List.map_id l]
    apply List.map_congr_left
    intro b _
    simp
  rw [this]
theorem infoB : (Tryz.prog.info? 5).map (fun i => (i.zero, i.size, i.bytes)) = some (some (.int .u8 0), 1, 1) := by kernel_rfl
set_option maxHeartbeats 1000000 in
theorem hyper_text.calls (A0 : Option Addr) (c0 : Nat) (l0 : List Int) (w : World) (hr0 : Kd.C (Kd.int .i64) w A0 l0.length l0) (hl : l0.length ≤ 1099511627776) (hT : TextOk w l0) :
    Calls Tryz.prog 36 #[.slice A0 l0.length c0] w fun e w' => e = .returned (.string ⟨(Hyp.textOf l0).toArray⟩) ∧ Below w.heap.size w w' := by
  obtain ⟨i0, hi, hz0, hz1, hz2⟩ := info_parts infoB
  have HC : Hid (∀ k, k < l0.length → ∃ b off, A0 = some ⟨b, off, none⟩ ∧ b < w.heap.size ∧ ∀ j, j < l0.length → w.cell? ⟨b, off + j, none⟩ = some (.int .i64 (l0.getD j 0))) := fun k hk => C_int hr0 (by omega)
  have HT := Lib.hid hT
  clear hr0 hT
  go_enter Tryz.func36, Tryz.ntmps36
  go_wp2
  go_loopg [3, 5, 8] l0.length (fun g s3 s5 s8 wr => ∃ k : Nat, k ≤ l0.length ∧ l0.length - k ≤ g ∧ s8 = .int .i64 k ∧ Hid (wr.ownsRow w.heap.size 5 1 s3 (Hyp.textOf (l0.take k)).length (Lib.byteCells (Hyp.textOf (l0.take k)))) ∧ Hid (Below w.heap.size w wr))
  case atStart => exact ⟨0, Nat.zero_le _, by omega, rfl, own_nil _ _ _ _, Below.refl _ _⟩
  case round =>
    obtain ⟨k, hk, hg, rfl, HO, HB⟩ := hrel
    by_cases hlt : k < l0.length
    · have hltz : (k : Int) < (l0.length : Int) := by omega
      obtain ⟨b, off, rfl, hbl, hcs⟩ := HC.out k hlt
      have hx := hcs k hlt
      have hcell := (HB.out.cell (p := ⟨b, off + k, none⟩) hbl).trans hx
      clear hcs hx
      have hsn := Hyp.textOf_snoc (l0.take k) (l0.getD k 0)
      have htk : l0.take k ++ [l0.getD k 0] = l0.take (k + 1) := by
        rw [List.take_succ_eq_append_getElem hlt, List.getD_eq_getElem?_getD, List.getElem?_eq_getElem hlt]; rfl
      rw [htk] at hsn
      have hmem : l0.getD k 0 ∈ l0 := by rw [List.getD_eq_getElem?_getD, List.getElem?_eq_getElem hlt]; exact List.getElem_mem hlt
      have hlen : (Hyp.textOf (l0.take k)).length ≤ 22 * k := by
        have := textOf_len (l0.take k) (fun x hx => HT.out.wf x (List.mem_of_mem_take hx))
        rw [List.length_take, Nat.min_eq_left hk] at this
        exact this
      have hil := itoa_len (l0.getD k 0) (HT.out.wf _ hmem).1 (HT.out.wf _ hmem).2
      have HSN := Lib.hid hsn
      have HM := Lib.hid hmem
      have HIL := Lib.hid hil
      clear hsn htk hmem hil
      generalize hy : l0.getD k 0 = y at *
      have HY := Lib.hid hy
      clear hy
      obtain ⟨Ao, co, rfl⟩ := own_slice HO.out
      generalize htx : Hyp.textOf (l0.take k) = tx at *
      have HTX := Lib.hid htx
      clear htx
      go_wp2_with fail
      refine (AppendInt_any w tx.length y l0 HM.out HT.out _ _ _ HB.out HO.out (by omega)).mono ?_
      rintro e w1 ⟨v1, rfl, ho1, hb1⟩
      have hil2 := HIL.out
      have hsz1 := hb1.size
      have hszw := HB.out.size
      have HO1 := Lib.hid ho1
      have HB1 := Lib.hid (HB.out.trans hb1)
      clear ho1 hb1 HO HB hcell
      obtain ⟨A1, c1, rfl⟩ := own_slice HO1.out
      go_wp2_with (at_builtin; refine wpList_append_own _ rfl _ _ 63 rfl w.heap.size 5 i0 (.int .u8 0) 1 1 Tryz.underlying63 hi hz0 hz1 hz2 rfl (by decide) _ _ _ rfl (HO1.out.alloc _) ⟨w1.heap.size, 0, none⟩ 1 1 [.int .u8 32] rfl rfl (cell_one_new _ _ _) (by simp [Value.oneCell']) (by unfold maxLen; omega) (by omega) (by simp; omega) ?_; intro v2 w2 ho2 hg2 _)
      have hb2 : Below w.heap.size w w2 := by
        have ha := HB1.out.alloc (o := .cells #[.int .u8 32] 5) (by omega)
        exact ha.grown hg2 (by simp; omega) (fun q e => by have := own_base HO1.out q e; omega)
      have HO2 := Lib.hid ho2
      have HB2 := Lib.hid hb2
      clear ho2 hb2 hg2
      obtain ⟨A2, c2, rfl⟩ := own_slice HO2.out
      go_wp2
      go_roundg (l0.length - (k + 1))
      case measure => omega
      case rel =>
        refine ⟨k + 1, by omega, Nat.le_refl _, by go_num, ?_, HB2⟩
        have := HO2.out
        rw [HSN.out]
        refine Lib.hid ?_
        simpa [byteCells_append, Lib.byteCells, Nat.add_assoc] using this
    · have hltz : ¬ (k : Int) < (l0.length : Int) := by omega
      obtain rfl : l0.length = k := by omega
      have htk : l0.take l0.length = l0 := List.take_length
      rw [htk] at HO
      clear htk
      have ho := HO.out
      rw [byteCells_nums] at ho
      have hcv := own_string (P := Tryz.prog) Tryz.underlying63 Tryz.underlying5 Tryz.underlying9 ho
      rw [strOf_bytes] at hcv
      clear ho
      obtain ⟨Ao, co, rfl⟩ := own_slice HO.out
      generalize htx : Hyp.textOf l0 = tx at *
      go_wp2
      go_ret
      exact ⟨rfl, HB.out⟩
end Go.Proofs.YtgjbnmobhafajaaGreatDoor
end
section
namespace Go.Proofs.YtgjbnmobhafajaaGreatDoor
open Go Go.RowKit Go.Sort Go.Shelf Go.Proofs.YtgjbnmobhafajaaGreatDoorW.PrintWords Go.Proofs.YtgjbnmobhafajaaGreatDoorW.PrintLast
attribute [local go_sem] Oper.semAt_some
theorem TextOk.sub {w : World} {l m : List Int} (h : TextOk w l) (hs : ∀ x ∈ m, x ∈ l) : TextOk w m := by
  rcases h with h | ⟨h1, h2⟩
  · exact .inl fun x hx => h x (hs x hx)
  · exact .inr ⟨fun x hx => h1 x (hs x hx), h2⟩
theorem Hyp.pick_mem (l : List Int) (b m : Nat) (hm : m ≤ l.length) : ∀ x ∈ Hyp.pick l b m, x ∈ l := by
  intro x hx
  unfold Hyp.pick at hx
  obtain ⟨i, hi, rfl⟩ := List.mem_map.1 hx
  have := List.mem_range.1 (List.mem_filter.1 hi).1
  rw [List.getD_eq_getElem?_getD, List.getElem?_eq_getElem (by omega)]
  exact List.getElem_mem _
theorem Row.Is.turn {A B : World} {L : Nat} {x : Row} (h : x.Is A) (hl : ∃ r, A.heap[L]? = some (.loop r)) (hg : A.grownBy B (some L)) : x.Is B := by
  obtain ⟨Ad, c, h1, h2, h3⟩ := h
  refine ⟨Ad, c, h1, h2, C_move h3 (fun b off e hn => ?_)⟩
  obtain ⟨b', off', e', hb', hc⟩ := C_int h3 hn
  rw [e] at e'
  cases e'
  obtain ⟨r, hl⟩ := hl
  refine hg.block b hb' (fun e => ?_)
  injection e with e
  subst e
  have := hc 0 hn
  unfold World.cell? at this
  rw [hl] at this
  cases this
def Hyp.aboveB (e : List Int) (L : List (List Int)) (T : List (List UInt8)) : Bool :=
  if e.length > 6 then L.any (fun f => Hyp.subB f e) else (List.range (2 ^ e.length)).any fun b => decide (Hyp.textOf (Hyp.sub e b) ∈ T)
theorem above1.gives (Bx : Nat) (A0 : Option Addr) (c0 : Nat) (l0 : List Int) (A1 : Option Addr) (c1 : Nat) (l1 : List Int) (w : World) (hbx : w.cell? ⟨Bx, 0, none⟩ = some (.slice A0 l0.length c0)) (hr0 : Kd.C (Kd.int .i64) w A0 l0.length l0) (hc0 : l0.length ≤ c0) (hr1 : Kd.C (Kd.int .i64) w A1 l1.length l1)
    (hl0 : l0.length ≤ 1099511627776) (hl1 : l1.length ≤ 1099511627776) (h0 : Hyp.Inc l0) (h1 : Hyp.Inc l1) :
    Calls Tryz.prog 47 #[.slice A1 l1.length c1, .pointer (some ⟨Bx, 0, none⟩)] w fun e w' => e = .returned (.bool (Hyp.subB l1 l0)) ∧ ∃ q, w' = w.drewN q := by
  have H := Lib.hid (hyper_contains.calls A0 c0 l0 A1 c1 l1 w hr0 hc0 hr1 hl0 hl1 h0 h1)
  clear hr0 hr1 h0 h1
  go_enter Tryz.func47, Tryz.ntmps47
  go_wp2_with fail
  refine H.out.mono ?_
  rintro e w' ⟨rfl, q, rfl⟩
  go_wp2
  go_ret
  exact ⟨rfl, q, rfl⟩
abbrev ConRow (w : World) : Type := { x : Row // x.Is w ∧ Hyp.Inc x.l ∧ x.l.length ≤ 1099511627776 }
def ConRow.enc {w : World} (x : ConRow w) : Value := x.1.v
instance (w : World) : Inhabited (ConRow w) := ⟨⟨⟨.slice none 0 0, []⟩, ⟨none, 0, rfl, Nat.le_refl _, rfl, by simp, fun h => absurd h (Nat.lt_irrefl 0)⟩, List.Pairwise.nil, by simp⟩⟩
def conList {w : World} (xs : List Row) (h : ∀ x ∈ xs, x.Is w ∧ Hyp.Inc x.l ∧ x.l.length ≤ 1099511627776) : List (ConRow w) := xs.attach.map fun x => ⟨x.1, h x.1 x.2⟩
theorem conList_map {w : World} (xs : List Row) (h : ∀ x ∈ xs, x.Is w ∧ Hyp.Inc x.l ∧ x.l.length ≤ 1099511627776) : (conList xs h).map (fun x => x.1) = xs := by
  unfold conList
  rw [List.map_map]
  exact List.attach_map_subtype_val xs
theorem conList_any {w : World} (xs : List Row) (h : ∀ x ∈ xs, x.Is w ∧ Hyp.Inc x.l ∧ x.l.length ≤ 1099511627776) (l0 : List Int) : (conList xs h).any (fun x => Hyp.subB x.1.l l0) = (xs.map Row.l).any (fun f => Hyp.subB f l0) := by
  conv => rhs; rw [← conList_map xs h, List.map_map, List.any_map]
  rfl
theorem box_new (w : World) (v : Value) (t : TypeId) : (w.alloc (.cells #[v] t)).cell? ⟨w.heap.size, 0, none⟩ = some v ∧ (w.alloc (.cells #[v] t)).frozen? ⟨w.heap.size, 0, none⟩ = false := by
  have h := World.alloc_heap_new w (.cells #[v] t)
  constructor
  · unfold World.cell?; rw [h]; rfl
  · unfold World.frozen?; rw [h]; rfl
theorem own_cells {w : World} {base g n cap : Nat} {e : TypeId} {ys : List Value} (h : w.ownsRow base e 1 (.slice (some ⟨g, 0, none⟩) n cap) n ys) (j : Nat) (hj : j < ys.length) : w.cell? ⟨g, 0 + j, none⟩ = some ys[j] ∧ w.frozen? ⟨g, 0 + j, none⟩ = false := by
  obtain ⟨_, _, _, hn, hm, hl, cur, hh, hc, ht⟩ := own_block h
  refine ⟨?_, by simp [World.frozen?, hh]⟩
  rw [Nat.zero_add]
  unfold World.cell?
  rw [hh]
  simp only [Option.isSome_none, Bool.false_eq_true, if_false]
  have := congrArg (fun l : List Value => l[j]?) ht
  simp only [List.getElem?_take] at this
  rw [if_pos (by omega), List.getElem?_eq_getElem hj] at this
  rw [← Array.getElem?_toList, this]
set_option maxHeartbeats 1000000 in
theorem above_long (A0 : Option Addr) (c0 : Nat) (l0 : List Int) (v1 : Value) (bm : Option Nat) (base : Nat) (xs : List Row) (w : World) (hr0 : Kd.C (Kd.int .i64) w A0 l0.length l0) (hc0 : l0.length ≤ c0) (hl0 : l0.length ≤ 1099511627776) (h0 : Hyp.Inc l0)
    (ho : w.ownsRow base 22 1 v1 xs.length (xs.map Row.v)) (hxs : ∀ x ∈ xs, x.Is w ∧ Hyp.Inc x.l ∧ x.l.length ≤ 1099511627776) (hx6 : 6 < l0.length) (hn : xs.length ≤ 1099511627776) :
    Calls Tryz.prog 35 #[.slice A0 l0.length c0, v1, .map bm] w fun e w' => e = .returned (.bool ((xs.map Row.l).any fun f => Hyp.subB f l0)) ∧ Below w.heap.size w w' := by
  have h6 : (6 : Int) < (l0.length : Int) := by omega
  obtain ⟨W1, hW1⟩ : ∃ W1, W1 = ((w.alloc (.cells #[.slice A0 l0.length c0] 22)).alloc (.cells #[.map bm] 51)).alloc (.cells #[.bool false] 4) := ⟨_, rfl⟩
  have hb1 : Below w.heap.size w W1 := by
    rw [hW1]
    exact (((Below.refl _ w).alloc (Nat.le_refl _) _).alloc (by simp) _).alloc (by simp <;> omega) _
  have hrc : W1.cell? ⟨w.heap.size + 1 + 1, 0, none⟩ = some (.bool false) ∧ W1.frozen? ⟨w.heap.size + 1 + 1, 0, none⟩ = false := by
    rw [hW1]
    have := box_new ((w.alloc (.cells #[.slice A0 l0.length c0] 22)).alloc (.cells #[.map bm] 51)) (.bool false) 4
    rwa [World.size_alloc, World.size_alloc] at this
  have hbx : W1.cell? ⟨w.heap.size, 0, none⟩ = some (.slice A0 l0.length c0) := by
    rw [hW1]
    have h1 : (w.alloc (.cells #[.slice A0 l0.length c0] 22)).cell? ⟨w.heap.size, 0, none⟩ = some (.slice A0 l0.length c0) := by
      exact (box_new w _ _).1
    have b1 := (Below.refl (w.heap.size + 1) (w.alloc (.cells #[.slice A0 l0.length c0] 22))).alloc (by simp) (.cells #[.map bm] 51)
    have b2 := b1.alloc (by simp <;> omega) (.cells #[.bool false] 4)
    exact (b2.cell (p := ⟨w.heap.size, 0, none⟩) (Nat.lt_succ_self w.heap.size)).trans h1
  obtain ⟨res, hres⟩ : ∃ r, r = (xs.map Row.l).any fun f => Hyp.subB f l0 := ⟨_, rfl⟩
  rw [← hres]
  have hcall : Calls Tryz.prog 46 #[v1, .func (.func 47) #[] #[.pointer (some ⟨w.heap.size, 0, none⟩)]] W1 fun e w' => e = .returned (.bool res) ∧ ∃ q, w' = W1.drewN q := by
    rcases own_nil_or ho with ⟨rfl, hn0, hx⟩ | ⟨g, cap, rfl⟩
    · refine (Tryz.slices_ContainsFunc_empty_f46 (α := Nat) none 0 _ W1).mono ?_
      rintro e w' ⟨rfl, rfl⟩
      have : xs = [] := List.eq_nil_of_length_eq_zero hn0
      subst this
      exact ⟨by rw [hres]; rfl, 0, rfl⟩
    · have hlen : (conList xs hxs).length = xs.length := by
        have := congrArg List.length (conList_map xs hxs)
        simpa using this
      refine (Tryz.slices_ContainsFunc_f46 ConRow.enc (fun x : ConRow w => Hyp.subB x.1.l l0) 47 _ (fun args w => by simp [go_sem]) g 0 xs.length cap (conList xs hxs) W1 ?_ (by rw [hlen]; exact Nat.le_refl _) (by omega) ?_).mono ?_
      · intro W x hb
        obtain ⟨A1, c1, e1, e2, e3⟩ := x.2.1
        show Calls _ _ #[x.1.v, .pointer (some ⟨w.heap.size, 0, none⟩)] _ _
        rw [e1]
        have hbW : Below w.heap.size w W := hb1.trans (hb.mono hb1.size)
        exact above1.gives w.heap.size A0 c0 l0 A1 c1 x.1.l W ((hb.cell (p := ⟨w.heap.size, 0, none⟩) (World.block_lt_of_cell? _ _ hbx)).trans hbx) (Kd.C_below hr0 hbW) hc0 (Kd.C_below e3 hbW) hl0 x.2.2.2 h0 x.2.2.1
      · intro j hj
        rw [hlen] at hj
        have h1 := (own_cells ho j (by simpa using hj)).1
        have h2 := (hb1.cell (p := ⟨g, 0 + j, none⟩) (World.block_lt_of_cell? _ _ h1)).trans h1
        rw [h2, getElem!_pos (conList xs hxs) j (by rw [hlen]; exact hj)]
        have h3 : (xs.map Row.v)[j]'(by simpa using hj) = ConRow.enc ((conList xs hxs)[j]'(by rw [hlen]; exact hj)) := by
          have : xs.map Row.v = (conList xs hxs).map ConRow.enc := by
            conv => lhs; rw [← conList_map xs hxs, List.map_map]
            rfl
          simp only [this, List.getElem_map]
        rw [h3]
      · rintro e w' ⟨rfl, q, rfl⟩
        refine ⟨?_, q, rfl⟩
        rw [List.take_of_length_le (by rw [hlen]; exact Nat.le_refl _), conList_any, hres]
  have H := Lib.hid hcall
  have HB := Lib.hid hb1
  have HW := Lib.hid hW1
  clear hcall hb1 hbx hr0 h0 ho hxs hres hW1
  go_enter Tryz.func35, Tryz.ntmps35
  go_wp2_with fail
  rw [← HW.out]
  refine H.out.mono ?_
  rintro e w' ⟨rfl, q, rfl⟩
  obtain ⟨hrc1, hrc2⟩ := hrc
  go_wp2
  try simp only [Exit.inBlock, Exit.then]
  have hc5 : ((W1.drewN q).setCell ⟨w.heap.size + 1 + 1, 0, none⟩ (.bool res)).cell? ⟨w.heap.size + 1 + 1, 0, none⟩ = some (.bool res) := World.cell?_setCell_same _ _ _ hrc1
  refine bodyPost_ret (v := .bool res) ?_ rfl ⟨rfl, ?_⟩
  · simp [results, Tryz.f35, go_sem, hc5]
  · exact below_set (pw_below_drewN HB.out q) (by omega)
end Go.Proofs.YtgjbnmobhafajaaGreatDoor
end
section
namespace Go.Proofs.YtgjbnmobhafajaaGreatDoor
open Go Go.RowKit Go.Sort Go.Shelf Go.Proofs.YtgjbnmobhafajaaGreatDoorW.PrintWords Go.Proofs.YtgjbnmobhafajaaGreatDoorW.PrintLast
attribute [local go_sem] Oper.semAt_some
theorem below_turn {A B : World} {n L : Nat} (h : A.grownBy B (some L)) (hz : A.heap.size = B.heap.size) (hL : n ≤ L) : Below n A B :=
  ⟨h.os, h.tape, h.output, h.size, fun k hk => by
    by_cases hlt : k < A.heap.size
    · exact h.block k hlt (fun e => by injection e with e; omega)
    · rw [Array.getElem?_eq_none (by omega), Array.getElem?_eq_none (by omega)]⟩
def shortI (T : List (List UInt8)) (l0 : List Int) (W0 : World) (xs : List Row) (W : World) : Prop := Below W0.heap.size W0 W ∧ ∀ b, b < xs.length → Hyp.textOf (Hyp.sub l0 b) ∉ T
def shortX (T : List (List UInt8)) (l0 : List Int) (w : World) (rb : Nat) (c : Code) (_ : List Row) (W : World) : Prop := c = .ret ∧ (∃ b, b < 2 ^ l0.length ∧ Hyp.textOf (Hyp.sub l0 b) ∈ T) ∧ Below w.heap.size w W ∧ W.cell? ⟨rb, 0, none⟩ = some (.bool true)
set_option maxRecDepth 100000 in
set_option maxHeartbeats 2000000 in
theorem above_short (A0 : Option Addr) (c0 : Nat) (l0 : List Int) (v1 : Value) (bm n : Nat) (T : List (List UInt8)) (w : World) (hr0 : Kd.C (Kd.int .i64) w A0 l0.length l0) (hc0 : l0.length ≤ c0) (hx6 : l0.length ≤ 6)
    (hk : Known w bm n T) (hT : TextOk w l0) :
    Calls Tryz.prog 35 #[.slice A0 l0.length c0, v1, .map (some bm)] w fun e w' => e = .returned (.bool ((List.range (2 ^ l0.length)).any fun b => decide (Hyp.textOf (Hyp.sub l0 b) ∈ T))) ∧ Below w.heap.size w w' := by
  have h6 : ¬ (6 : Int) < (l0.length : Int) := by omega
  obtain ⟨W0, hW0⟩ : ∃ W0, W0 = (((w.alloc (.cells #[.slice A0 l0.length c0] 22)).alloc (.cells #[.map (some bm)] 51)).alloc (.cells #[.bool false] 4)).alloc (.cells #[.slice A0 l0.length c0] 22) := ⟨_, rfl⟩
  have hs0 : W0.heap.size = w.heap.size + 1 + 1 + 1 + 1 := by rw [hW0]; simp
  have hb0 : Below w.heap.size w W0 := by
    rw [hW0]
    exact ((((Below.refl _ w).alloc (Nat.le_refl _) _).alloc (by simp) _).alloc (by simp <;> omega) _).alloc (by simp <;> omega) _
  have hc1 : W0.cell? ⟨w.heap.size + 1, 0, none⟩ = some (.map (some bm)) := by
    rw [hW0]
    have h1 := (box_new (w.alloc (.cells #[.slice A0 l0.length c0] 22)) (.map (some bm)) 51).1
    rw [World.size_alloc] at h1
    have b1 := ((Below.refl (w.heap.size + 1 + 1) ((w.alloc (.cells #[.slice A0 l0.length c0] 22)).alloc (.cells #[.map (some bm)] 51))).alloc (by simp) (.cells #[.bool false] 4)).alloc (by simp <;> omega) (.cells #[.slice A0 l0.length c0] 22)
    exact (b1.cell (p := ⟨w.heap.size + 1, 0, none⟩) (Nat.lt_succ_self (w.heap.size + 1))).trans h1
  have hc2 : W0.cell? ⟨w.heap.size + 1 + 1, 0, none⟩ = some (.bool false) ∧ W0.frozen? ⟨w.heap.size + 1 + 1, 0, none⟩ = false := by
    rw [hW0]
    have h1 := box_new ((w.alloc (.cells #[.slice A0 l0.length c0] 22)).alloc (.cells #[.map (some bm)] 51)) (.bool false) 4
    rw [World.size_alloc, World.size_alloc] at h1
    have b1 := (Below.refl (w.heap.size + 1 + 1 + 1) (((w.alloc (.cells #[.slice A0 l0.length c0] 22)).alloc (.cells #[.map (some bm)] 51)).alloc (.cells #[.bool false] 4))).alloc (by simp) (.cells #[.slice A0 l0.length c0] 22)
    exact ⟨(b1.cell (p := ⟨w.heap.size + 1 + 1, 0, none⟩) (Nat.lt_succ_self (w.heap.size + 1 + 1))).trans h1.1, (b1.frozen (p := ⟨w.heap.size + 1 + 1, 0, none⟩) (Nat.lt_succ_self (w.heap.size + 1 + 1))).trans h1.2⟩
  have hc3 : W0.cell? ⟨w.heap.size + 1 + 1 + 1, 0, none⟩ = some (.slice A0 l0.length c0) := by
    rw [hW0]
    have h1 := (box_new (((w.alloc (.cells #[.slice A0 l0.length c0] 22)).alloc (.cells #[.map (some bm)] 51)).alloc (.cells #[.bool false] 4)) (.slice A0 l0.length c0) 22).1
    rw [World.size_alloc, World.size_alloc, World.size_alloc] at h1
    exact h1
  have hITER := subsets_iter (w.heap.size + 1 + 1 + 1) W0.heap.size A0 c0 l0 hx6 W0 (Nat.le_refl _) (by omega) hc3 (Kd.C_below hr0 hb0) (fun a ha hn => by
    obtain ⟨b, off, e, hb, _⟩ := C_int hr0 hn
    rw [e] at ha; cases ha
    show b < _
    omega)
  have hKn : Known W0 bm n T := hk.step (hb0.block _ hk.lt)
  have hTx : TextOk W0 l0 := hT.below hb0
  have hbm := hk.lt
  obtain ⟨res, hres⟩ : ∃ r, r = (List.range (2 ^ l0.length)).any fun b => decide (Hyp.textOf (Hyp.sub l0 b) ∈ T) := ⟨_, rfl⟩
  rw [← hres]
  have HW := Lib.hid hW0
  have HRES := Lib.hid hres
  have HITER := Lib.hid hITER
  have HB0 := Lib.hid hb0
  have HKN := Lib.hid hKn
  have HTX := Lib.hid hTx
  have HC3 := Lib.hid hc3
  clear hr0 hk hT hW0 hres hITER hb0 hKn hTx hc3
  refine (callsIn_wide (n := 1)).1 ?_
  refine callsIn_of_wp_marks Tryz.func35 rfl trivial ?_ rfl
  simp only [Tryz.ntmps35, List.size_toArray, List.length_cons, List.length_nil, Nat.reduceAdd, Nat.reduceSub, Array.replicate_succ, Array.replicate_zero, List.push_toArray, List.append_toArray, List.nil_append, List.cons_append]
  gi_wp2_with fail
  refine ⟨trivial, (callsIn_wide.2 (hyper_subsets.calls _ A0 _ c0 rfl _)).mono ?_⟩
  rintro e w' ⟨rfl, rfl⟩
  rw [← HW.out]
  simp only [World.size_alloc]
  gi_wp2
  refine rangeFunc_rd (w0 := W0) rfl (Nat.le_refl 1) (gf := 60) (lb := #[.pointer (some ⟨w.heap.size + 1 + 1 + 1, 0, none⟩)]) rfl trivial (fun args w => by simp [go_sem]) HITER.out
    (fun {A B C} h k => h.trans k) (fun A B h hz => below_turn h hz (Nat.le_succ _)) (Below.refl _ _) (fun _ => rfl)
    (shortI T l0 W0) (shortX T l0 w (w.heap.size + 1 + 1)) ?_ ?_ ?_ ?_ ?_ ?_ (fun x => { tmps := #[.slice A0 l0.length c0, v1, .map (some bm), .pointer (some ⟨w.heap.size, 0, none⟩), undef, .pointer (some ⟨w.heap.size + 1, 0, none⟩), .pointer (some ⟨w.heap.size + 1 + 1, 0, none⟩), x.v, .slice A0 l0.length c0, .int .i64 l0.length, .bool false, undef, undef, undef, .slice A0 l0.length c0, .func (.func 60) #[] #[.pointer (some ⟨w.heap.size + 1 + 1 + 1, 0, none⟩)], x.v, undef, undef, undef, undef], defers := [] }) ?assign ?body ?done ?stop
  · intro xs A B h hb
    exact ⟨h.1.trans (hb.mono h.1.size), h.2⟩
  · rintro c xs A B ⟨h1, h2, h3, h4⟩ hb
    exact ⟨h1, h2, h3.trans (hb.mono h3.size), (hb.cell (p := ⟨w.heap.size + 1 + 1, 0, none⟩) (World.block_lt_of_cell? _ _ h4)).trans h4⟩
  · intro xs A B h hg hz
    exact ⟨h.1.trans (below_turn hg hz (Nat.le_succ _)), h.2⟩
  · rintro c xs A B ⟨h1, h2, h3, h4⟩ hg hz
    have hbt := below_turn (n := w.heap.size + 1 + 1 + 1) hg hz (by omega)
    exact ⟨h1, h2, h3.trans (hbt.mono (by omega)), (hbt.cell (p := ⟨w.heap.size + 1 + 1, 0, none⟩) (Nat.lt_succ_self _)).trans h4⟩
  · rintro pre x A B ⟨h1, h2, h3⟩ hl hg hz
    exact ⟨h1, h2.turn hl hg, h3⟩
  · exact ⟨Below.refl _ _, fun b hb => by simp at hb⟩
  case assign =>
    intro x W K hK
    gi_wp2
    exact hK
  case body =>
    rintro pre x W hLW ⟨hBW, hno⟩ ⟨hxl, ⟨Ax, cx, hxv, hcx, hrx⟩, hpl⟩
    have hmx : Tryz.prog.follows .mixedOrders = true := by kernel_rfl
    have hcW := (hBW.cell (p := ⟨w.heap.size + 1, 0, none⟩) (by show w.heap.size + 1 < _; omega)).trans hc1
    have hrb := (hBW.cell (p := ⟨w.heap.size + 1 + 1, 0, none⟩) (by show w.heap.size + 1 + 1 < _; omega)).trans hc2.1
    have hrf := (hBW.frozen (p := ⟨w.heap.size + 1 + 1, 0, none⟩) (by show w.heap.size + 1 + 1 < _; omega)).trans hc2.2
    have hxm : ∀ y ∈ x.l, y ∈ l0 := by rw [hxl]; exact Hyp.pick_mem l0 _ _ (Nat.le_refl _)
    have hxlen : x.l.length ≤ 6 := by rw [hxl]; exact Nat.le_trans (Hyp.pick_len l0 _ _) hx6
    have hKW : Known W bm n T := HKN.out.step (hBW.block _ (HKN.out.lt))
    have HTW := Lib.hid ((HTX.out.below hBW).sub hxm)
    have HTXT := Lib.hid (hyper_text.calls Ax cx x.l W.drew (Kd.C_below hrx (Below.refl _ W).drew) (by omega) (HTW.out.below (Below.refl _ W).drew))
    have htl := textOf_len x.l HTW.out.wf
    rw [hxv]
    have HBW := Lib.hid hBW
    have HNO := Lib.hid hno
    have HXL := Lib.hid hxl
    have HKW := Lib.hid hKW
    clear hBW hno hxl hrx hxm hKW hxv
    have hml : (Hyp.textOf x.l).length ≤ maxLen := by unfold maxLen; omega
    obtain ⟨tx, htx⟩ : ∃ t, t = Hyp.textOf x.l := ⟨_, rfl⟩
    rw [← htx] at hml htl
    rw [← htx] at HTXT
    have HTX2 := Lib.hid htx
    clear htx
    have HCELL : Hid (∀ w', Below W.heap.size W w' → w'.cell? ⟨w.heap.size + 1, 0, none⟩ = some (.map (some bm))) := Lib.hid fun w' hb => (hb.cell (p := ⟨w.heap.size + 1, 0, none⟩) (by show w.heap.size + 1 < W.heap.size; omega)).trans hcW
    have HLOOK : Hid (∀ w', Below W.heap.size W w' → (Instr.lookup 51 (.map (some bm)) (.string ⟨tx.toArray⟩) false).run Tryz.prog w' = .ok (.bool (decide (tx ∈ T))) w') := Lib.hid fun w' hb => (HKW.out.step (hb.block _ HKW.out.lt)).look tx hml
    gi_wp2
    gi_region_with_o (refine ⟨trivial, rfl, (callsIn_wide.2 HTXT.out).mono ?_⟩; rintro e w' ⟨rfl, hbw⟩; have hbw2 : Below W.heap.size W w' := (Below.refl _ W).drew.trans hbw; clear hbw; have hcw' := HCELL.out w' hbw2; have hlk' := HLOOK.out w' hbw2)
    all_goals have hrb' := (hbw2.cell (p := ⟨w.heap.size + 1 + 1, 0, none⟩) (by show w.heap.size + 1 + 1 < W.heap.size; omega)).trans hrb
    all_goals have hrf' := (hbw2.frozen (p := ⟨w.heap.size + 1 + 1, 0, none⟩) (by show w.heap.size + 1 + 1 < W.heap.size; omega)).trans hrf
    all_goals by_cases ht : tx ∈ T
    all_goals first | (have hd : decide (tx ∈ T) = true := by simpa using ht) | (have hd : decide (tx ∈ T) = false := by simpa using ht)
    all_goals rw [hd]
    all_goals gi_wp2
    all_goals first
      | (refine ⟨⟨?_, ?_⟩, rfl, ⟨pre.length, hpl, by rw [← HXL.out, ← HTX2.out]; exact ht⟩, ?_, ?_⟩
         · rw [Below.heap_setCell _ _ _ _ (by show W0.heap.size + 1 ≠ w.heap.size + 1 + 1; omega)]
           exact hbw2.block _ hLW
         · rw [Below.heap_setCell _ _ _ _ (by show W0.heap.size + 1 - 1 ≠ w.heap.size + 1 + 1; omega)]
           exact hbw2.block _ (by omega)
         · exact below_set ((HB0.out.trans (HBW.out.mono (by omega))).trans (hbw2.mono (by omega))) (by omega)
         · exact World.cell?_setCell_same _ _ _ hrb')
      | (refine ⟨⟨hbw2.block _ hLW, hbw2.block _ (by omega)⟩, hbw2.mono (by omega), HBW.out.trans (hbw2.mono (by omega)), fun b hb => ?_⟩
         rw [List.length_append, List.length_singleton] at hb
         by_cases hbp : b = pre.length
         · rw [hbp, ← HXL.out, ← HTX2.out]; exact ht
         · exact HNO.out b (by omega))
  case done =>
    rintro xs W hS ⟨hB, hno⟩ hK
    have hlen : xs.length = 2 ^ l0.length := by
      have := congrArg List.length hS
      simpa using this
    have hfalse : res = false := by
      rw [HRES.out, List.any_eq_false]
      intro b hb
      have := hno b (by rw [hlen]; exact List.mem_range.1 hb)
      simpa using this
    have hrb := (hB.cell (p := ⟨w.heap.size + 1 + 1, 0, none⟩) (by show w.heap.size + 1 + 1 < _; omega)).trans hc2.1
    have hrf := (hB.frozen (p := ⟨w.heap.size + 1 + 1, 0, none⟩) (by show w.heap.size + 1 + 1 < _; omega)).trans hc2.2
    have HBd := Lib.hid hB
    have HF := Lib.hid hfalse
    clear hB hno hS hfalse
    gi_wp2
    have hK' : (W.setCell ⟨w.heap.size + 1 + 1, 0, none⟩ (.bool false)).heap[W0.heap.size]? = some (.deferred (some [])) := by
      rw [Below.heap_setCell _ _ _ _ (by show W0.heap.size ≠ w.heap.size + 1 + 1; omega)]; exact hK
    refine ⟨by simp, .inl ⟨_, _, rfl, run_takeDeferred hK', ?_⟩⟩
    have hc5 : ((W.setCell ⟨w.heap.size + 1 + 1, 0, none⟩ (.bool false)).putObj W0.heap.size (.deferred none)).cell? ⟨w.heap.size + 1 + 1, 0, none⟩ = some (.bool false) := by
      rw [cell_same (w := W.setCell ⟨w.heap.size + 1 + 1, 0, none⟩ (.bool false)) (World.putObj_heap_other (by show w.heap.size + 1 + 1 ≠ W0.heap.size; omega))]
      exact World.cell?_setCell_same _ _ _ hrb
    refine ⟨.bool false, ?_, by rw [HF.out], ?_⟩
    · simp [results, Tryz.f35, go_sem, hc5]
    · exact pw_below_grown (below_set (HB0.out.trans (HBd.out.mono (by omega))) (by omega)) _ (by have := HBd.out.size; show w.heap.size ≤ (W.setCell _ _).heap.size; simp; omega) (grownBy_putObj' _ _ _) (fun k e => by cases e; omega)
  case stop =>
    rintro c pre W ⟨rfl, ⟨b, hb, hin⟩, hBw, hcr⟩ hK
    have htrue : res = true := by
      rw [HRES.out, List.any_eq_true]
      exact ⟨b, List.mem_range.2 hb, by simpa using hin⟩
    gi_wp2
    refine ⟨by simp, .inl ⟨_, _, rfl, run_takeDeferred hK, ?_⟩⟩
    have hc5 : (W.putObj W0.heap.size (.deferred none)).cell? ⟨w.heap.size + 1 + 1, 0, none⟩ = some (.bool true) := by
      rw [cell_same (w := W) (World.putObj_heap_other (by show w.heap.size + 1 + 1 ≠ W0.heap.size; omega))]
      exact hcr
    refine ⟨.bool true, ?_, by rw [htrue], ?_⟩
    · simp [results, Tryz.f35, go_sem, hc5]
    · exact pw_below_grown hBw _ hBw.size (grownBy_putObj' _ _ _) (fun k e => by cases e; omega)
end Go.Proofs.YtgjbnmobhafajaaGreatDoor
end
section
namespace Go.Proofs.YtgjbnmobhafajaaGreatDoor.Hyp
def setOf (l : List Int) : List Int := Lib.compact (l.mergeSort fun x y => decide (x ≤ y))
end Go.Proofs.YtgjbnmobhafajaaGreatDoor.Hyp
end
section
namespace Go.Proofs.YtgjbnmobhafajaaGreatDoor
open Go.RowKit Go.Sort Go.Proofs.YtgjbnmobhafajaaGreatDoorW.PrintWords Go.Proofs.YtgjbnmobhafajaaGreatDoorW.PrintLast
def hyper_set.f (l0 : List Int) : Option (List Int) := if l0.length ≤ 1099511627776 then some (Hyp.setOf l0) else none
theorem compact_len (l : List Int) : (Lib.compact l).length ≤ l.length := by
  unfold Lib.compact Lib.compactUpTo
  rw [List.length_map]
  have := List.length_filter_le (Lib.keeps l.toArray) (List.range l.length)
  simpa using this
set_option maxHeartbeats 1000000 in
theorem hyper_set.calls (A0 : Option Addr) (c0 : Nat) (l0 : List Int) (r : List Int) (w : World) (hr0 : Kd.C (Kd.int .i64) w A0 l0.length l0) (hc0 : l0.length ≤ c0) (h : hyper_set.f l0 = some r) :
    Calls Tryz.prog 24 #[.slice A0 l0.length c0] w fun e w' => ∃ v0_ : Value, e = .returned v0_ ∧ Kd.R (Kd.int .i64) 3 w' w.heap.size (fun _ => True) v0_ r ∧ Below w.heap.size w w' := by
  unfold hyper_set.f at h
  by_cases hl : l0.length ≤ 1099511627776
  case neg => rw [if_neg hl] at h; cases h
  rw [if_pos hl] at h
  injection h with h
  subst h
  cases l0 with
  | nil =>
    have e0 : Hyp.setOf [] = [] := by simp [Hyp.setOf, Lib.compact, Lib.compactUpTo]
    rw [e0]
    cases A0 with
    | none =>
      go_enter Tryz.func24, Tryz.ntmps24
      go_wp2_with fail
      refine (Tryz.slices_Clone_int_nil _ _ _).mono ?_
      rintro e w' ⟨rfl, rfl⟩
      go_wp2_with fail
      refine (Tryz.slices_Sort_int_none _ _ _).mono ?_
      rintro e w' ⟨rfl, rfl⟩
      go_wp2_with fail
      refine (Tryz.slices_Compact_int_empty _ _ _).mono ?_
      rintro e w' ⟨rfl, rfl⟩
      go_wp2_with fail
      go_ret
      exact ⟨_, rfl, Kd.R_nil _ _ _ _ _, Below.refl _ _⟩
    | some a =>
      go_enter Tryz.func24, Tryz.ntmps24
      go_wp2_with fail
      refine (Tryz.slices_Clone_int_zero _ _ _).mono ?_
      rintro e w1 ⟨v, rfl, hown, hne, hb⟩
      rcases own_nil_or hown with ⟨hv, _⟩ | ⟨g, cap, rfl⟩
      · exact absurd hv hne
      clear hne
      go_wp2_with fail
      refine (Tryz.slices_Sort_int_none _ _ _).mono ?_
      rintro e w' ⟨rfl, rfl⟩
      go_wp2_with fail
      refine (Tryz.slices_Compact_int_empty _ _ _).mono ?_
      rintro e w' ⟨rfl, rfl⟩
      go_wp2_with fail
      go_ret
      exact ⟨_, rfl, R_mk (xs := []) hown, hb⟩
  | cons x0 xs0 =>
    generalize hl0 : x0 :: xs0 = l0 at *
    have hpos : 0 < l0.length := by rw [← hl0]; simp
    clear hl0 x0 xs0
    obtain ⟨b, off, rfl, hbl, hcell⟩ := C_int hr0 hpos
    have HC := Lib.hid hcell
    clear hcell hr0
    have hst : Hyp.setOf l0 = Lib.compact (l0.mergeSort fun x y => decide (x ≤ y)) := rfl
    generalize hr : Hyp.setOf l0 = r at hst ⊢
    have HST := Lib.hid hst
    clear hst hr
    go_enter Tryz.func24, Tryz.ntmps24
    go_wp2_with fail
    refine (Tryz.slices_Clone_int b off l0.length c0 l0 _ (Nat.le_refl _) (by omega) HC.out).mono ?_
    rintro e w1 ⟨v, rfl, hown, hne, hb⟩
    rw [List.take_length] at hown
    rcases own_nil_or hown with ⟨hv, _⟩ | ⟨g, cap, rfl⟩
    · exact absurd hv hne
    clear hne
    have hH := own_holds (enc := Value.int .i64) (d := l0.toArray) (by simpa using hown)
    have hcap := (own_block hown).2.2.2.1
    have HO := Lib.hid hown
    have HH := Lib.hid hH
    have HBl := Lib.hid hb
    clear hown hH hb
    go_wp2_with fail
    refine (Tryz.slices_Sort_int g 0 cap l0 _ HH.out.2.2 HH.out.2.1 (by omega)).mono ?_
    rintro e w2 ⟨rfl, m, os, hw2⟩
    have hown2 := own_put (enc := Value.int .i64) (m := m) (os := os) (l0.mergeSort fun x y => decide (x ≤ y)).toArray HO.out (by simp)
    have hg2 := grown_putRow (enc := Value.int .i64) (w := w1) (g := g) (m := m) (os := os) (l0.mergeSort fun x y => decide (x ≤ y)).toArray
    rw [← hw2] at hown2 hg2
    have HO2 := Lib.hid hown2
    have HG2 := Lib.hid hg2
    clear hown2 hg2 hw2
    have hlen : (l0.mergeSort fun x y => decide (x ≤ y)).length = l0.length := by simp
    have hH2 := own_holds (enc := Value.int .i64) (d := (l0.mergeSort fun x y => decide (x ≤ y)).toArray) HO2.out
    generalize hs : (l0.mergeSort fun x y => decide (x ≤ y)) = s at *
    have HH2 := Lib.hid hH2
    have HL := Lib.hid hlen
    clear hH2 hlen hs
    go_wp2_with fail
    rw [← HL.out]
    refine (Tryz.slices_Compact_int g 0 cap s _ HH2.out.2.2 (by rw [HL.out]; omega) (by rw [HL.out]; exact hcap)).mono ?_
    rintro e w3 ⟨rfl, q, hw3⟩
    have hown3 := own_put (enc := Value.int .i64) (m := q) (os := #[]) (Lib.compact s ++ List.replicate (s.length - (Lib.compact s).length) 0).toArray HO2.out (by have := compact_len s; simp; rw [← HL.out]; omega)
    have hg3 := grown_putRow (enc := Value.int .i64) (w := w2) (g := g) (m := q) (os := #[]) (Lib.compact s ++ List.replicate (s.length - (Lib.compact s).length) 0).toArray
    rw [grow_empty, ← hw3] at hown3 hg3
    have hown4 := own_take (m := (Lib.compact s).length) hown3 (by rw [← HL.out]; exact compact_len s)
    have HO4 := Lib.hid hown4
    have HG3 := Lib.hid hg3
    clear hown3 hown4 hg3 hw3
    have hbase : w.heap.size ≤ g := (own_block HO.out).2.2.1
    go_wp2_with fail
    go_ret
    refine ⟨_, rfl, R_mk ?_, ?_⟩
    · rw [HST.out]
      have := HO4.out
      simpa [nums, List.take_append] using this
    · have b1 := HBl.out
      have b2 := b1.grown HG2.out b1.size (fun k e => by cases e; exact hbase)
      exact b2.grown HG3.out b2.size (fun k e => by cases e; exact hbase)
end Go.Proofs.YtgjbnmobhafajaaGreatDoor
end
section
namespace Go.Proofs.YtgjbnmobhafajaaGreatDoor.Hyp
open Go
theorem ext_of_sorted {α : Type} (R : α → α → Prop) (irr : ∀ a, ¬ R a a) (asym : ∀ a b, R a b → ¬ R b a) : ∀ l m : List α, l.Pairwise R → m.Pairwise R → (∀ x, x ∈ l ↔ x ∈ m) → l = m := by
  intro l
  induction l with
  | nil =>
    intro m _ _ h
    cases m with
    | nil => rfl
    | cons y m => exact absurd ((h y).2 List.mem_cons_self) (by simp)
  | cons x l ih =>
    intro m hl hm h
    cases m with
    | nil => exact absurd ((h x).1 List.mem_cons_self) (by simp)
    | cons y m =>
      obtain ⟨h1, h2⟩ := List.pairwise_cons.1 hl
      obtain ⟨k1, k2⟩ := List.pairwise_cons.1 hm
      have hxy : x = y := by
        rcases List.mem_cons.1 ((h x).1 List.mem_cons_self) with e | e
        · exact e
        · rcases List.mem_cons.1 ((h y).2 List.mem_cons_self) with e2 | e2
          · exact e2.symm
          · exact absurd (k1 x e) (asym _ _ (h1 y e2))
      subst hxy
      congr 1
      refine ih m h2 k2 fun z => ⟨fun hz => ?_, fun hz => ?_⟩
      · rcases List.mem_cons.1 ((h z).1 (List.mem_cons_of_mem _ hz)) with e | e
        · subst e; exact absurd (h1 _ hz) (irr _)
        · exact e
      · rcases List.mem_cons.1 ((h z).2 (List.mem_cons_of_mem _ hz)) with e | e
        · subst e; exact absurd (k1 _ hz) (irr _)
        · exact e
theorem inc_ext {a b : List Int} (ha : Inc a) (hb : Inc b) (h : ∀ x, x ∈ a ↔ x ∈ b) : a = b :=
  ext_of_sorted (· < ·) (fun a h => by omega) (fun a b h1 h2 => by omega) a b ha hb h
theorem inc_nodup {a : List Int} (h : Inc a) : a.Nodup := h.imp (fun h e => by omega)
theorem inc_filter {a : List Int} (h : Inc a) (p : Int → Bool) : Inc (a.filter p) := h.sublist List.filter_sublist
theorem subB_refl (a : List Int) : subB a a = true := (subB_iff a a).2 fun _ h => h
theorem subB_trans {a b c : List Int} (h1 : subB a b = true) (h2 : subB b c = true) : subB a c = true :=
  (subB_iff a c).2 fun x hx => (subB_iff b c).1 h2 x ((subB_iff a b).1 h1 x hx)
theorem subB_anti {a b : List Int} (ha : Inc a) (hb : Inc b) (h1 : subB a b = true) (h2 : subB b a = true) : a = b :=
  inc_ext ha hb fun x => ⟨(subB_iff a b).1 h1 x, (subB_iff b a).1 h2 x⟩
theorem eq_of_sub_len {a b : List Int} (ha : Inc a) (hb : Inc b) (h : subB a b = true) (hl : b.length ≤ a.length) : a = b := by
  have h1 := (subB_iff a b).1 h
  have e : b.filter (fun x => a.contains x) = a := inc_ext (inc_filter hb _) ha fun x => by
    simp only [List.mem_filter, List.contains_iff_mem]
    exact ⟨fun h => h.2, fun hx => ⟨h1 x hx, hx⟩⟩
  have hs : (b.filter (fun x => a.contains x)).Sublist b := List.filter_sublist
  rw [e] at hs
  exact hs.eq_of_length (by have := hs.length_le; omega)
theorem compactUpTo_spec (d : Array Int) : ∀ m, m ≤ d.size → (∀ i j, i < j → j < d.size → d[i]! ≤ d[j]!) →
    Inc (Lib.compactUpTo d m) ∧ (∀ x ∈ Lib.compactUpTo d m, ∃ j, j < m ∧ x = d[j]!) ∧ (∀ j, j < m → d[j]! ∈ Lib.compactUpTo d m) := by
  intro m
  induction m with
  | zero => intro _ _; simp [Lib.compactUpTo, Inc]
  | succ m ih =>
    intro hm hs
    obtain ⟨h1, h2, h3⟩ := ih (by omega) hs
    rw [Lib.compactUpTo_succ]
    by_cases hk : Lib.keeps d m = true
    · rw [if_pos hk]
      refine ⟨?_, ?_, ?_⟩
      · refine List.pairwise_append.2 ⟨h1, List.pairwise_singleton _ _, fun x hx y hy => ?_⟩
        simp at hy; subst hy
        obtain ⟨j, hj, rfl⟩ := h2 x hx
        have hne : d[m]! ≠ d[m - 1]! := by
          intro e
          rw [Lib.keeps_neg (by omega) e] at hk
          cases hk
        have e1 : d[m - 1]! ≤ d[m]! := hs (m - 1) m (by omega) (by omega)
        have e2 : d[j]! ≤ d[m - 1]! := by
          by_cases hjm : j = m - 1
          · rw [hjm]; exact Int.le_refl _
          · exact hs j (m - 1) (by omega) (by omega)
        omega
      · intro x hx
        rcases List.mem_append.1 hx with hx | hx
        · obtain ⟨j, hj, e⟩ := h2 x hx; exact ⟨j, by omega, e⟩
        · simp at hx; exact ⟨m, by omega, hx⟩
      · intro j hj
        by_cases hjm : j = m
        · subst hjm; simp
        · exact List.mem_append_left _ (h3 j (by omega))
    · rw [if_neg hk, List.append_nil]
      refine ⟨h1, fun x hx => ?_, fun j hj => ?_⟩
      · obtain ⟨j, hj, e⟩ := h2 x hx; exact ⟨j, by omega, e⟩
      · by_cases hjm : j = m
        · subst hjm
          have hj0 : 0 < j := by
            rcases Nat.eq_zero_or_pos j with e | e
            · subst e; exact absurd (Lib.keeps_lt_one d 0 (by omega)) hk
            · exact e
          have e : d[j]! = d[j - 1]! := Classical.byContradiction fun hne => hk (Lib.keeps_pos hne)
          rw [e]; exact h3 (j - 1) (by omega)
        · exact h3 j (by omega)
theorem setOf_spec (l : List Int) : Inc (setOf l) ∧ ∀ x, x ∈ setOf l ↔ x ∈ l := by
  obtain ⟨s, hs⟩ : ∃ s, s = l.mergeSort fun x y => decide (x ≤ y) := ⟨_, rfl⟩
  have hp : s.Pairwise fun x y => decide (x ≤ y) = true := by
    rw [hs]
    exact List.pairwise_mergeSort (fun a b c h1 h2 => by simp at *; omega) (fun a b => by simp; omega) l
  have hm : ∀ x, x ∈ s ↔ x ∈ l := fun x => by rw [hs]; exact List.mem_mergeSort
  have hsz : s.toArray.size = s.length := by simp
  have hg : ∀ i (h : i < s.length), s.toArray[i]! = s[i] := fun i h => by simp [h]
  obtain ⟨h1, h2, h3⟩ := compactUpTo_spec s.toArray s.length (by simp) (fun i j hij hj => by
    rw [hsz] at hj
    rw [hg i (by omega), hg j hj]
    have := List.pairwise_iff_getElem.1 hp i j (by omega) hj hij
    simpa using this)
  have e : setOf l = Lib.compactUpTo s.toArray s.length := by rw [hs]; rfl
  rw [e]
  refine ⟨h1, fun x => ⟨fun hx => ?_, fun hx => ?_⟩⟩
  · obtain ⟨j, hj, rfl⟩ := h2 x hx
    rw [hg j hj, ← hm]
    exact List.getElem_mem hj
  · obtain ⟨j, hj, rfl⟩ := List.mem_iff_getElem.1 ((hm x).2 hx)
    rw [← hg j hj]
    exact h3 j hj
theorem setOf_inc (l : List Int) : Inc (setOf l) := (setOf_spec l).1
theorem mem_setOf (l : List Int) (x : Int) : x ∈ setOf l ↔ x ∈ l := (setOf_spec l).2 x
theorem setOf_of_inc {l : List Int} (h : Inc l) : setOf l = l := inc_ext (setOf_inc l) h (mem_setOf l)
theorem setOf_pos {l : List Int} (h : 0 < l.length) : 0 < (setOf l).length := by
  cases l with
  | nil => simp at h
  | cons x l => exact List.length_pos_of_mem ((mem_setOf _ x).2 List.mem_cons_self)
theorem setOf_le (l : List Int) : (setOf l).length ≤ l.length := (inc_nodup (setOf_inc l)).length_le_of_subset fun x hx => (mem_setOf l x).1 hx
def val (l : List UInt8) : Nat := l.foldl (fun a b => a * 10 + (b.toNat - 48)) 0
theorem val_snoc (l : List UInt8) (b : UInt8) : val (l ++ [b]) = val l * 10 + (b.toNat - 48) := by simp [val]
theorem dec_spec : ∀ n u, u < n → val (Lib.decDigits u) = u ∧ (∀ b ∈ Lib.decDigits u, 48 ≤ b.toNat ∧ b.toNat ≤ 57) ∧ Lib.decDigits u ≠ [] := by
  intro n
  induction n with
  | zero => intro u h; omega
  | succ n ih =>
    intro u hu
    rw [Lib.decDigits]
    split
    · rename_i h
      refine ⟨?_, ?_, by simp⟩
      · simp [val]; omega
      · intro b hb; simp at hb; subst hb; simp; omega
    · rename_i h
      obtain ⟨h1, h2, h3⟩ := ih (u / 10) (by omega)
      refine ⟨?_, ?_, by simp⟩
      · rw [val_snoc, h1]; simp; omega
      · intro b hb
        rcases List.mem_append.1 hb with hb | hb
        · exact h2 b hb
        · simp at hb; subst hb; simp; omega
theorem dec_inj {u v : Nat} (h : Lib.decDigits u = Lib.decDigits v) : u = v := by
  rw [← (dec_spec (u + 1) u (by omega)).1, h, (dec_spec (v + 1) v (by omega)).1]
theorem itoa_byte (x : Int) : ∀ b ∈ Lib.itoa x, b.toNat ≠ 32 := by
  intro b hb
  unfold Lib.itoa at hb
  split at hb
  · rcases List.mem_cons.1 hb with e | e
    · subst e; decide
    · have := (dec_spec _ _ (Nat.lt_succ_self _)).2.1 b e; omega
  · have := (dec_spec _ _ (Nat.lt_succ_self _)).2.1 b hb; omega
theorem itoa_inj {x y : Int} (h : Lib.itoa x = Lib.itoa y) : x = y := by
  have key : ∀ u v : Nat, (45 : UInt8) :: Lib.decDigits u ≠ Lib.decDigits v := by
    intro u v e
    have := (dec_spec _ v (Nat.lt_succ_self _)).2.1 45 (by rw [← e]; exact List.mem_cons_self)
    revert this; decide
  unfold Lib.itoa at h
  split at h <;> split at h
  · have := dec_inj (List.cons.inj h).2; omega
  · exact absurd h (key _ _)
  · exact absurd h.symm (key _ _)
  · have := dec_inj h; omega
theorem cut_at {a b r s : List UInt8} (ha : ∀ x ∈ a, x.toNat ≠ 32) (hb : ∀ x ∈ b, x.toNat ≠ 32) (h : a ++ 32 :: r = b ++ 32 :: s) : a = b ∧ r = s := by
  induction a generalizing b with
  | nil =>
    cases b with
    | nil => simpa using h
    | cons y b =>
      simp at h
      exact absurd (by rw [← h.1]; decide) (hb y List.mem_cons_self)
  | cons x a ih =>
    cases b with
    | nil =>
      simp at h
      exact absurd (by rw [h.1]; decide) (ha x List.mem_cons_self)
    | cons y b =>
      simp only [List.cons_append, List.cons.injEq] at h
      obtain ⟨h1, h2⟩ := ih (fun z hz => ha z (List.mem_cons_of_mem _ hz)) (fun z hz => hb z (List.mem_cons_of_mem _ hz)) h.2
      exact ⟨by rw [h.1, h1], h2⟩
theorem textOf_inj : ∀ a b : List Int, textOf a = textOf b → a = b := by
  intro a
  induction a with
  | nil =>
    intro b h
    cases b with
    | nil => rfl
    | cons y b => simp [textOf] at h
  | cons x a ih =>
    intro b h
    cases b with
    | nil => simp [textOf] at h
    | cons y b =>
      have e : ∀ (z : Int) (l : List Int), textOf (z :: l) = Lib.itoa z ++ 32 :: textOf l := fun z l => by simp [textOf]
      rw [e, e] at h
      obtain ⟨h1, h2⟩ := cut_at (itoa_byte x) (itoa_byte y) h
      rw [itoa_inj h1, ih b h2]
theorem pow_bit {b m i : Nat} (hi : i < m) : (b + 2 ^ m) / 2 ^ i % 2 = b / 2 ^ i % 2 := by
  have e : 2 ^ m = 2 ^ (m - i - 1) * 2 * 2 ^ i := by
    rw [← Nat.pow_succ, ← Nat.pow_add]; congr 1; omega
  rw [e, Nat.add_mul_div_right _ _ (Nat.pow_pos (by decide))]
  omega
theorem pick_congr (l : List Int) (b c m : Nat) (h : ∀ i, i < m → b / 2 ^ i % 2 = c / 2 ^ i % 2) : pick l b m = pick l c m := by
  unfold pick
  congr 1
  refine List.filter_congr fun i hi => ?_
  rw [h i (List.mem_range.1 hi)]
theorem pick_of (l : List Int) (p : Nat → Bool) : ∀ m, ∃ b, b < 2 ^ m ∧ pick l b m = ((List.range m).filter p).map fun i => l.getD i 0 := by
  intro m
  induction m with
  | zero => exact ⟨0, by simp, rfl⟩
  | succ m ih =>
    obtain ⟨b, hb, he⟩ := ih
    rw [List.range_succ, List.filter_append, List.map_append, ← he]
    by_cases hp : p m = true
    · refine ⟨b + 2 ^ m, by rw [Nat.pow_succ]; omega, ?_⟩
      rw [pick_succ, pick_congr l (b + 2 ^ m) b m (fun i hi => pow_bit hi)]
      have h1 : (b + 2 ^ m) / 2 ^ m % 2 = 1 := by
        rw [Nat.add_div_right _ (Nat.pow_pos (by decide)), Nat.div_eq_of_lt hb]
      rw [if_pos h1]
      simp [hp]
    · refine ⟨b, by rw [Nat.pow_succ]; omega, ?_⟩
      rw [pick_succ, Nat.div_eq_of_lt hb]
      simp [hp]
theorem filter_pick (l : List Int) (p : Int → Bool) : l.filter p = ((List.range l.length).filter fun i => p (l.getD i 0)).map fun i => l.getD i 0 := by
  have e : (List.range l.length).map (fun i => l.getD i 0) = l := by
    refine List.ext_getElem (by simp) fun i h1 h2 => ?_
    simp at h1
    simp [h1]
  conv => lhs; rw [← e, List.filter_map]
  rfl
theorem sub_sub (l : List Int) (b : Nat) : subB (sub l b) l = true := (subB_iff _ _).2 (pick_mem l b _ (Nat.le_refl _))
theorem sub_all {l f : List Int} (hl : Inc l) (hf : Inc f) (h : subB f l = true) : ∃ b, b < 2 ^ l.length ∧ sub l b = f := by
  obtain ⟨b, hb, he⟩ := pick_of l (fun i => f.contains (l.getD i 0)) l.length
  refine ⟨b, hb, ?_⟩
  show pick l b l.length = f
  rw [he, ← filter_pick l (fun x => f.contains x)]
  refine inc_ext (inc_filter hl _) hf fun x => ?_
  simp only [List.mem_filter, List.contains_iff_mem]
  exact ⟨fun h => h.2, fun hx => ⟨(subB_iff f l).1 h x hx, hx⟩⟩
theorem aboveB_eq {e : List Int} {O : List (List Int)} (he : Inc e) (hO : ∀ f ∈ O, Inc f) : aboveB e O (O.map textOf) = O.any fun f => subB f e := by
  unfold aboveB
  split
  · rfl
  · rw [Bool.eq_iff_iff]
    simp only [List.any_eq_true, List.mem_range, decide_eq_true_eq, List.mem_map]
    constructor
    · rintro ⟨b, hb, f, hf, ht⟩
      refine ⟨f, hf, ?_⟩
      rw [textOf_inj _ _ ht]
      exact sub_sub e b
    · rintro ⟨f, hf, hs⟩
      obtain ⟨b, hb, h⟩ := sub_all he (hO f hf) hs
      exact ⟨b, hb, f, hf, by rw [h]⟩
def setsOf (edges : List (List Int)) : List (List Int) := (edges.filter fun e => !e.isEmpty).map setOf
structure IsMin (edges r : List (List Int)) : Prop where
  sorted : r.Pairwise fun a b => cmpL a b < 0
  mem : ∀ e, e ∈ r ↔ e ∈ setsOf edges ∧ ∀ f ∈ setsOf edges, subB f e = true → f = e
theorem IsMin.unique {edges r s : List (List Int)} (h : IsMin edges r) (k : IsMin edges s) : r = s :=
  ext_of_sorted _ (fun a h => by rw [cmpL_self] at h; omega) (fun a b h1 h2 => by have := cmpL_flip a b; omega) r s h.sorted k.sorted fun x => (h.mem x).trans (k.mem x).symm
def step (O : List (List Int)) (e : List Int) : List (List Int) := if O.any (fun f => subB f e) then O else O ++ [e]
def run (P : List (List Int)) : List (List Int) := P.foldl step []
theorem run_snoc (P : List (List Int)) (e : List Int) : run (P ++ [e]) = step (run P) e := by simp [run]
structure RunIs (P O : List (List Int)) : Prop where
  among : ∀ e ∈ O, e ∈ P
  over : ∀ e ∈ P, ∃ f ∈ O, subB f e = true
  apart : O.Pairwise fun f e => subB f e = false
theorem run_is (P : List (List Int)) : RunIs P (run P) := by
  induction hn : P.length generalizing P with
  | zero =>
    have : P = [] := List.eq_nil_of_length_eq_zero hn
    subst this
    exact ⟨fun e h => h, fun e h => by simp at h, List.Pairwise.nil⟩
  | succ n ih =>
    have hne : P ≠ [] := by intro e; subst e; simp at hn
    obtain ⟨h1, h2, h3⟩ := ih P.dropLast (by rw [List.length_dropLast]; omega)
    have e := List.dropLast_concat_getLast hne
    generalize P.dropLast = Q at *
    generalize P.getLast hne = x at *
    subst e
    rw [run_snoc]
    unfold step
    split
    · rename_i hx
      obtain ⟨f, hf, hs⟩ := List.any_eq_true.1 hx
      refine ⟨fun e he => List.mem_append_left _ (h1 e he), fun e he => ?_, h3⟩
      rcases List.mem_append.1 he with he | he
      · exact h2 e he
      · simp at he; subst he; exact ⟨f, hf, hs⟩
    · rename_i hx
      refine ⟨fun e he => ?_, fun e he => ?_, ?_⟩
      · rcases List.mem_append.1 he with he | he
        · exact List.mem_append_left _ (h1 e he)
        · exact List.mem_append_right _ he
      · rcases List.mem_append.1 he with he | he
        · obtain ⟨f, hf, hs⟩ := h2 e he
          exact ⟨f, List.mem_append_left _ hf, hs⟩
        · simp at he; subst he; exact ⟨e, List.mem_append_right _ (by simp), subB_refl _⟩
      · refine List.pairwise_append.2 ⟨h3, List.pairwise_singleton _ _, fun f hf e he => ?_⟩
        simp at he; subst he
        rw [Bool.eq_false_iff]
        intro hs
        exact hx (List.any_eq_true.2 ⟨f, hf, hs⟩)
theorem run_sub (P : List (List Int)) : (run P).Sublist P := by
  induction hn : P.length generalizing P with
  | zero =>
    have : P = [] := List.eq_nil_of_length_eq_zero hn
    subst this
    exact List.Sublist.slnil
  | succ n ih =>
    have hne : P ≠ [] := by intro e; subst e; simp at hn
    have h1 := ih P.dropLast (by rw [List.length_dropLast]; omega)
    have e := List.dropLast_concat_getLast hne
    generalize P.dropLast = Q at *
    generalize P.getLast hne = x at *
    subst e
    rw [run_snoc]
    unfold step
    split
    · exact h1.trans (List.sublist_append_left _ _)
    · exact h1.append (List.Sublist.refl _)
theorem run_min {edges P r : List (List Int)} (hp : P.Perm (setsOf edges)) (hl : P.Pairwise fun a b => a.length ≤ b.length) (hr : r.Perm (run P)) (hs : r.Pairwise fun a b => cmpL a b ≤ 0) : IsMin edges r := by
  obtain ⟨h1, h2, h3⟩ := run_is P
  have hinc : ∀ e ∈ P, Inc e := by
    intro e he
    obtain ⟨x, _, rfl⟩ := List.mem_map.1 (hp.mem_iff.1 he)
    exact setOf_inc x
  have hsub := run_sub P
  have hanti : ∀ g ∈ run P, ∀ e ∈ run P, subB g e = true → g = e := by
    intro g hg e he hs
    have hlr := hl.sublist hsub
    obtain ⟨i, hi, rfl⟩ := List.mem_iff_getElem.1 hg
    obtain ⟨j, hj, rfl⟩ := List.mem_iff_getElem.1 he
    rcases Nat.lt_trichotomy i j with h | h | h
    · have := List.pairwise_iff_getElem.1 h3 i j hi hj h
      rw [hs] at this; cases this
    · subst h; rfl
    · have hlen := List.pairwise_iff_getElem.1 hlr j i hj hi h
      exact eq_of_sub_len (hinc _ (h1 _ hg)) (hinc _ (h1 _ he)) hs hlen
  have hnd : (run P).Nodup := h3.imp fun {a b} h e => by subst e; rw [subB_refl] at h; cases h
  refine ⟨?_, fun e => ?_⟩
  · have hrn : r.Nodup := hr.nodup_iff.2 hnd
    rw [List.pairwise_iff_getElem] at hs ⊢
    intro i j hi hj hij
    have h4 := hs i j hi hj hij
    have h5 : r[i] ≠ r[j] := by
      have := List.pairwise_iff_getElem.1 hrn i j hi hj hij
      exact this
    have h6 : cmpL r[i] r[j] ≠ 0 := fun e => h5 (cmpL_zero _ _ e)
    omega
  · rw [hr.mem_iff]
    constructor
    · intro he
      refine ⟨hp.mem_iff.1 (h1 e he), fun f hf hs => ?_⟩
      obtain ⟨g, hg, hgf⟩ := h2 f (hp.mem_iff.2 hf)
      have hge := hanti g hg e he (subB_trans hgf hs)
      subst hge
      exact subB_anti (hinc f (hp.mem_iff.2 hf)) (hinc _ (h1 _ he)) hs hgf
    · rintro ⟨he, hmin⟩
      obtain ⟨g, hg, hge⟩ := h2 e (hp.mem_iff.2 he)
      have := hmin g (hp.mem_iff.1 (h1 g hg)) hge
      subst this
      exact hg
def minimal (edges : List (List Int)) : List (List Int) := (run ((setsOf edges).mergeSort fun a b => decide (a.length ≤ b.length))).mergeSort fun a b => decide (cmpL a b ≤ 0)
theorem minimal_is (edges : List (List Int)) : IsMin edges (minimal edges) := by
  refine run_min (P := (setsOf edges).mergeSort fun a b => decide (a.length ≤ b.length)) (List.mergeSort_perm _ _) ?_ (List.mergeSort_perm _ _) ?_
  · exact (List.pairwise_mergeSort (fun a b c h1 h2 => by simp at *; omega) (fun a b => by simp; omega) _).imp fun {a b} h => by simpa using h
  · exact (List.pairwise_mergeSort (fun a b c h1 h2 => by simp at *; exact cmpL_le_trans _ _ _ h1 h2) (fun a b => by have := cmpL_flip a b; simp; omega) _).imp fun {a b} h => by simpa using h
end Go.Proofs.YtgjbnmobhafajaaGreatDoor.Hyp
end
section
namespace Go.Proofs.YtgjbnmobhafajaaGreatDoor
open Go.RowKit Go.Sort Go.Proofs.YtgjbnmobhafajaaGreatDoorW.PrintWords Go.Proofs.YtgjbnmobhafajaaGreatDoorW.PrintLast
theorem Rows.good {w : World} {base g : Nat} {xs : List Row} (h : Rows w base xs) (hg : ∀ cells, w.heap[g]? ≠ some (.cells cells 3 (0, 0))) {x : Row} (hx : x ∈ xs) : GoodRow w g x := by
  refine ⟨h.is hx, fun b off n c e hn => ?_⟩
  obtain ⟨g', cap, hv, hb, cells, hc⟩ := h.blockOf hx
  rw [hv] at e
  cases e
  intro e
  subst e
  exact hg _ hc
structure Sorted (R : Row → Row → Prop) (w : World) (base : Nat) (v : Value) (xs : List Row) (w' : World) (ys : List Row) : Prop where
  perm : ys.Perm xs
  sorted : ys.Pairwise R
  own : w'.ownsRow base 22 1 v ys.length (ys.map Row.v)
  rows : Rows w' base ys
  grown : w.grownBy w' v.ownBlock
def arrOf {w : World} {g : Nat} (xs : List Row) (h : ∀ x ∈ xs, GoodRow w g x) : Array (GRow w g) := (xs.attach.map fun x => (⟨x.1, h x.1 x.2⟩ : GRow w g)).toArray
theorem arrOf_list {w : World} {g : Nat} (xs : List Row) (h : ∀ x ∈ xs, GoodRow w g x) : (arrOf xs h).toList.map (fun x : GRow w g => x.1) = xs := by
  show List.map (fun x : GRow w g => x.1) (xs.attach.map fun x => (⟨x.1, h x.1 x.2⟩ : GRow w g)) = xs
  rw [List.map_map]
  exact List.attach_map_subtype_val xs
theorem arrOf_size {w : World} {g : Nat} (xs : List Row) (h : ∀ x ∈ xs, GoodRow w g x) : (arrOf xs h).size = xs.length := by unfold arrOf; rw [List.size_toArray, List.length_map, List.length_attach]
theorem permIn_perm {α : Type} [Inhabited α] {d d' : Array α} (h : PermIn 0 d.size d d') : d'.toList.Perm d.toList := by
  obtain ⟨h1, _, h3⟩ := h
  have e1 : d'.extract 0 d.size = d' := by rw [← h1]; simp
  have e2 : d.extract 0 d.size = d := by simp
  rw [e1, e2] at h3
  exact h3
theorem sortedIn_pairwise {α : Type} [Inhabited α] {lt : α → α → Bool} {d : Array α} (h : SortedIn lt 0 d.size d) : d.toList.Pairwise fun x y => lt y x = false := by
  rw [List.pairwise_iff_getElem]
  intro i j hi hj hij
  have := h i j (Nat.zero_le _) hij (by simpa using hj)
  rw [getElem!_pos d j (by simpa using hj), getElem!_pos d i (by simpa using hi)] at this
  simpa using this
theorem sorted_of {R : Row → Row → Prop} {w w' : World} {base g n cap : Nat} {xs : List Row} (hg : ∀ cells, w.heap[g]? ≠ some (.cells cells 3 (0, 0))) (hR : Rows w base xs) (ho : w.ownsRow base 22 1 (.slice (some ⟨g, 0, none⟩) n cap) n (xs.map Row.v)) (hn : n = xs.length)
    (h : ∀ x ∈ xs, GoodRow w g x) (d' : Array (GRow w g)) (lt : GRow w g → GRow w g → Bool) (hlt : ∀ x y, lt y x = false → R x.1 y.1) (hS : SW GRow.enc w g 0 d' w') (hP : PermIn 0 (arrOf xs h).size (arrOf xs h) d') (hs : SortedIn lt 0 (arrOf xs h).size d') :
    ∃ ys, Sorted R w base (.slice (some ⟨g, 0, none⟩) n cap) xs w' ys := by
  have hsz : d'.size = (arrOf xs h).size := hP.1
  have hp : (d'.toList.map fun x : GRow w g => x.1).Perm xs := by
    have := (permIn_perm hP).map (fun x : GRow w g => x.1)
    rw [arrOf_list] at this
    exact this
  obtain ⟨m, os, rfl⟩ := hS
  have hgr : w.grownBy (sortWorld GRow.enc w g 0 m d' os) (some g) := grown_putRow (enc := GRow.enc) (w := w) (g := g) (m := m) (os := os) d'
  refine ⟨d'.toList.map fun x : GRow w g => x.1, hp, ?_, ?_, ?_, hgr⟩
  · rw [← hsz] at hs
    rw [List.pairwise_map]
    exact (sortedIn_pairwise hs).imp (fun {a b} h => hlt a b h)
  · have := own_put (enc := GRow.enc) (m := m) (os := os) d' ho (by rw [hsz, arrOf_size, hn])
    have e : (d'.toList.map fun x : GRow w g => x.1).length = n := by rw [List.length_map, Array.length_toList, hsz, arrOf_size, hn]
    rw [e, List.map_map]
    exact this
  · refine (hR.grown hgr (fun k hk cells => ?_)).perm hp.symm
    cases hk
    exact hg cells
theorem own_type27 {w : World} {base g n cap : Nat} {ys : List Value} (ho : w.ownsRow base 22 1 (.slice (some ⟨g, 0, none⟩) n cap) n ys) : ∀ cells, w.heap[g]? ≠ some (.cells cells 3 (0, 0)) := by
  intro cells h
  obtain ⟨_, _, _, _, _, _, cur, hh, _⟩ := own_block ho
  rw [hh] at h
  simp at h
theorem arr_row1 {w : World} {base g cap : Nat} {xs : List Row} (h : ∀ x ∈ xs, GoodRow w g x) (ho : w.ownsRow base 22 1 (.slice (some ⟨g, 0, none⟩) xs.length cap) xs.length (xs.map Row.v)) : Row1 GRow.enc w g 0 (arrOf xs h) := by
  have : xs.map Row.v = (arrOf xs h).toList.map (GRow.enc (w := w) (blk := g)) := by
    conv => lhs; rw [← arrOf_list xs h, List.map_map]
    rfl
  rw [this] at ho
  obtain ⟨h1, h2, h3⟩ := own_holds ho
  exact ⟨GRow.one _ _, h3, h2⟩
theorem SortStable.rows (base : Nat) (v : Value) (xs : List Row) (w : World) (ho : w.ownsRow base 22 1 v xs.length (xs.map Row.v)) (hR : Rows w base xs) (hsz : xs.length < 1152921504606846976) :
    Calls Tryz.prog 33 #[v, .func (.func 34) #[] #[]] w fun e w' => e = .returned (.tuple #[]) ∧ ∃ ys, Sorted (fun x y => x.l.length ≤ y.l.length) w base v xs w' ys := by
  rcases own_nil_or ho with ⟨rfl, hn, hx⟩ | ⟨g, cap, rfl⟩
  · refine (SortStableFunc_none none 0 _ w).mono ?_
    rintro e w' ⟨rfl, q, rfl⟩
    have : xs = [] := List.eq_nil_of_length_eq_zero hn
    subst this
    exact ⟨rfl, [], List.Perm.refl _, List.Pairwise.nil, own_nil _ _ _ _, Rows.nil _ _, rfl, rfl, rfl, Nat.le_refl _, fun _ _ _ => rfl⟩
  · have hg := own_type27 ho
    have hgood := fun x hx => hR.good hg (x := x) hx
    have e := arrOf_size xs hgood
    have := SortStableFunc.calls GRow.enc _ (Hyp.len_swo (fun x : GRow w g => x.1.l.length)) 34 g cap (arrOf xs hgood) w eg29 (lays29 w g 0 _) (arr_row1 hgood ho) (by rw [e]; exact hsz)
    rw [e] at this
    refine this.mono ?_
    rintro e w' ⟨rfl, d', h1, h2, h3⟩
    refine ⟨rfl, sorted_of hg hR ho rfl hgood d' _ (fun x y h => ?_) h1 (by rw [arrOf_size]; exact h2) (by rw [arrOf_size]; exact h3)⟩
    simp [ltOf] at h
    omega
theorem SortFunc.rows (base : Nat) (v : Value) (xs : List Row) (w : World) (ho : w.ownsRow base 22 1 v xs.length (xs.map Row.v)) (hR : Rows w base xs) (hsz : xs.length < 1152921504606846976) :
    Calls Tryz.prog 37 #[v, .func (.func 38) #[] #[]] w fun e w' => e = .returned (.tuple #[]) ∧ ∃ ys, Sorted (fun x y => Hyp.cmpL x.l y.l ≤ 0) w base v xs w' ys := by
  rcases own_nil_or ho with ⟨rfl, hn, hx⟩ | ⟨g, cap, rfl⟩
  · have : xs = [] := List.eq_nil_of_length_eq_zero hn
    subst this
    refine (Tryz.slices_SortFunc_none (α := Nat) none 0 _ w).mono ?_
    rintro e w' ⟨rfl, rfl⟩
    exact ⟨rfl, [], List.Perm.refl _, List.Pairwise.nil, own_nil _ _ _ _, Rows.nil _ _, rfl, rfl, rfl, Nat.le_refl _, fun _ _ _ => rfl⟩
  · have hg := own_type27 ho
    have hgood := fun x hx => hR.good hg (x := x) hx
    have e := arrOf_size xs hgood
    have h1 := arr_row1 hgood ho
    have := Tryz.slices_SortFunc GRow.enc (GRow.one w g) _ (Hyp.cmpL_swo (fun x : GRow w g => x.1.l)) 38 #[] g 0 cap (arrOf xs hgood) w eg33 (lays33 w g 0 _) h1.hH h1.hblk (by rw [e]; omega)
    rw [e] at this
    refine this.mono ?_
    rintro e w' ⟨rfl, d', m, os, h2, h3, h4⟩
    refine ⟨rfl, sorted_of hg hR ho rfl hgood d' _ (fun x y h => ?_) ⟨m, os, h4⟩ (by rw [arrOf_size]; exact h2) (by rw [arrOf_size]; exact h3)⟩
    simp only [ltOf, decide_eq_false_iff_not] at h
    have := Hyp.cmpL_flip x.1.l y.1.l
    show Hyp.cmpL x.1.l y.1.l ≤ 0
    omega
end Go.Proofs.YtgjbnmobhafajaaGreatDoor
end
section
namespace Go.Proofs.YtgjbnmobhafajaaGreatDoor
open Go Go.RowKit Go.Sort Go.Shelf Go.Proofs.YtgjbnmobhafajaaGreatDoorW.PrintWords Go.Proofs.YtgjbnmobhafajaaGreatDoorW.PrintLast
theorem hyper_above.calls (x : Row) (v1 : Value) (bm n base : Nat) (xs : List Row) (w : World) (hx : x.Is w) (hxl : x.l.length ≤ 1099511627776) (hxi : Hyp.Inc x.l) (hT : TextOk w x.l)
    (ho : w.ownsRow base 22 1 v1 xs.length (xs.map Row.v)) (hxs : ∀ y ∈ xs, y.Is w ∧ Hyp.Inc y.l ∧ y.l.length ≤ 1099511627776) (hn : xs.length ≤ 1099511627776) (hk : Known w bm n ((xs.map Row.l).map Hyp.textOf)) :
    Calls Tryz.prog 35 #[x.v, v1, .map (some bm)] w fun e w' => e = .returned (.bool (xs.any fun f => Hyp.subB f.l x.l)) ∧ Below w.heap.size w w' := by
  obtain ⟨A0, c0, e1, e2, e3⟩ := hx
  rw [e1]
  have he : (xs.any fun f => Hyp.subB f.l x.l) = Hyp.aboveB x.l (xs.map Row.l) ((xs.map Row.l).map Hyp.textOf) := by
    rw [Hyp.aboveB_eq hxi (fun f hf => by obtain ⟨y, hy, rfl⟩ := List.mem_map.1 hf; exact (hxs y hy).2.1), List.any_map]
    rfl
  rw [he]
  unfold Hyp.aboveB
  by_cases h6 : x.l.length > 6
  · rw [if_pos h6]
    exact above_long A0 c0 x.l v1 (some bm) base xs w e3 e2 hxl hxi ho hxs h6 hn
  · rw [if_neg h6]
    exact above_short A0 c0 x.l v1 bm n _ w e3 e2 (by omega) hk hT
theorem C_rows {w : World} {A : Option Addr} {n e : Nat} {xs : List (List Int)} (h : Kd.C (Kd.slice e (Kd.int .i64)) w A n xs) (hn : 0 < n) :
    ∃ b off, A = some ⟨b, off, none⟩ ∧ b < w.heap.size ∧ ∀ j, j < n → ∃ Aj cj, w.cell? ⟨b, off + j, none⟩ = some (.slice Aj (xs.getD j []).length cj) ∧ (xs.getD j []).length ≤ cj ∧ Kd.C (Kd.int .i64) w Aj (xs.getD j []).length (xs.getD j []) := by
  have hl : xs.length = n := h.1
  obtain ⟨ad, rfl, hc⟩ := h.2.2 hn
  have key : ∀ j, j < n → ∃ Aj cj, w.cell? (ad.add j) = some (.slice Aj (xs.getD j []).length cj) ∧ (xs.getD j []).length ≤ cj ∧ Kd.C (Kd.int .i64) w Aj (xs.getD j []).length (xs.getD j []) := by
    intro j hj
    obtain ⟨c, hs, ⟨Aj, cj, hR, hlc, hC⟩, hcell⟩ := hc j (xs.getD j []) (by rw [List.getD_eq_getElem?_getD, List.getElem?_eq_getElem (by omega)]; rfl)
    have h0 := hcell 0 (.slice Aj (xs.getD j []).length cj) (by rw [hR]; rfl)
    have e : j * (Kd.slice e (Kd.int .i64)).sz + 0 = j := by show j * 1 + 0 = j; omega
    rw [e] at h0
    exact ⟨Aj, cj, h0, hlc, hC⟩
  obtain ⟨A0, c0, h0, _⟩ := key 0 hn
  have e0 : ad.add 0 = ad := by simp [Addr.add]
  rw [e0] at h0
  have hs := spot_none h0
  refine ⟨ad.block, ad.off, by rw [← hs], World.block_lt_of_cell? w _ h0, fun j hj => ?_⟩
  have hk := key j hj
  have : ad.add j = ⟨ad.block, ad.off + j, none⟩ := by
    generalize ad.block = b at *
    generalize ad.off = o at *
    subst hs
    unfold Addr.add
    by_cases hj0 : j = 0
    · subst hj0; rfl
    · rw [if_neg hj0]
  rw [← this]; exact hk
def stepRow (O : List Row) (e : Row) : List Row := if O.any (fun f => Hyp.subB f.l e.l) then O else O ++ [e]
def runRows (P : List Row) : List Row := P.foldl stepRow []
theorem runRows_snoc (P : List Row) (e : Row) : runRows (P ++ [e]) = stepRow (runRows P) e := by simp [runRows]
theorem stepRow_l (O : List Row) (e : Row) : (stepRow O e).map Row.l = Hyp.step (O.map Row.l) e.l := by
  unfold stepRow Hyp.step
  rw [List.any_map]
  show _ = if O.any (fun f => Hyp.subB f.l e.l) = true then _ else _
  split <;> simp
theorem runRows_l (P : List Row) : (runRows P).map Row.l = Hyp.run (P.map Row.l) := by
  induction hn : P.length generalizing P with
  | zero =>
    have : P = [] := List.eq_nil_of_length_eq_zero hn
    subst this; rfl
  | succ n ih =>
    have hne : P ≠ [] := by intro e; subst e; simp at hn
    have h1 := ih P.dropLast (by rw [List.length_dropLast]; omega)
    have e := List.dropLast_concat_getLast hne
    generalize P.dropLast = Q at *
    generalize P.getLast hne = x at *
    subst e
    rw [runRows_snoc, stepRow_l, h1, List.map_append, List.map_singleton, Hyp.run_snoc]
theorem runRows_sub (P : List Row) : (runRows P).Sublist P := by
  induction hn : P.length generalizing P with
  | zero =>
    have : P = [] := List.eq_nil_of_length_eq_zero hn
    subst this; exact List.Sublist.slnil
  | succ n ih =>
    have hne : P ≠ [] := by intro e; subst e; simp at hn
    have h1 := ih P.dropLast (by rw [List.length_dropLast]; omega)
    have e := List.dropLast_concat_getLast hne
    generalize P.dropLast = Q at *
    generalize P.getLast hne = x at *
    subst e
    rw [runRows_snoc]
    unfold stepRow
    split
    · exact h1.trans (List.sublist_append_left _ _)
    · exact h1.append (List.Sublist.refl _)
def MinAll (w : World) (l0 : List (List Int)) (i : Nat) (v : Value) (W : World) : Prop :=
  ∃ xs : List Row, xs.map Row.l = Hyp.setsOf (l0.take i) ∧ W.ownsRow w.heap.size 22 1 v xs.length (xs.map Row.v) ∧ Rows W w.heap.size xs ∧ Below w.heap.size w W ∧ xs.length ≤ i
def MinOut (wL : World) (ys : List Row) (k : Nat) (v : Value) (W : World) : Prop :=
  ∃ n, n ≤ k ∧ W.ownsRow (wL.heap.size + 1) 22 1 v (runRows (ys.take k)).length ((runRows (ys.take k)).map Row.v) ∧ Known W wL.heap.size n (((runRows (ys.take k)).map Row.l).map Hyp.textOf) ∧ Below wL.heap.size wL W
theorem setsOf_take (l0 : List (List Int)) (i : Nat) (hi : i < l0.length) : Hyp.setsOf (l0.take (i + 1)) = Hyp.setsOf (l0.take i) ++ (if 0 < (l0.getD i []).length then [Hyp.setOf (l0.getD i [])] else []) := by
  have e : l0.getD i [] = l0[i] := by rw [List.getD_eq_getElem?_getD, List.getElem?_eq_getElem hi]; rfl
  unfold Hyp.setsOf
  rw [List.take_succ_eq_append_getElem hi, List.filter_append, List.map_append, e]
  congr 1
  cases h : l0[i] with
  | nil => simp [h]
  | cons x r => simp [h]
theorem infoR : (Tryz.prog.info? 22).map (fun i => (i.zero, i.size, i.bytes)) = some (some (.slice none 0 0), 1, 24) := by kernel_rfl
theorem Rows.push {w1 w2 : World} {base base' n : Nat} {xs : List Row} {vo : Value} {ys : List Value} {o : Obj} (h : Rows w1 base xs) (ho : w1.ownsRow base' 22 1 vo n ys) (hg : (w1.alloc o).grownBy w2 vo.ownBlock) : Rows w2 base xs := by
  refine (h.below ((Below.refl _ w1).alloc (Nat.le_refl _) o)).grown hg (fun k hk cells hc => ?_)
  obtain ⟨c1, h1⟩ := own_typed ho k hk
  have hlt := own_lt ho k hk
  rw [Below.heap_alloc _ _ _ hlt, h1] at hc
  simp at hc
theorem own_row_list {w : World} {base : Nat} {v : Value} {xs : List Row} {x : Row} (h : w.ownsRow base 22 1 v (xs.length + 1) (xs.map Row.v ++ [x.v])) : w.ownsRow base 22 1 v (xs ++ [x]).length ((xs ++ [x]).map Row.v) := by
  simpa using h
set_option maxRecDepth 100000 in
set_option maxHeartbeats 4000000 in
theorem hyper_Minimal.gen (A0 : Option Addr) (c0 : Nat) (l0 : List (List Int)) (w : World) (hr0 : Kd.C (Kd.slice 3 (Kd.int .i64)) w A0 l0.length l0) (hc0 : l0.length ≤ c0) (hn : l0.length ≤ 1048576) (hel : ∀ x ∈ l0, x.length ≤ 1048576) (hT : ∀ x ∈ l0, TextOk w x) :
    Calls Tryz.prog 18 #[.slice A0 l0.length c0] w fun e w' => ∃ v0_ : Value, e = .returned (v0_) ∧ Kd.S (Kd.slice 3 (Kd.int .i64)) 22 w' w.heap.size (fun _ => True) v0_ (Hyp.minimal l0) ∧ Below w.heap.size w w' := by
  obtain ⟨i0, hi, hz0, hz1, hz2⟩ := info_parts infoR
  have HF : Hid (∀ k, k < l0.length → ∃ b off, A0 = some ⟨b, off, none⟩ ∧ b < w.heap.size ∧ ∀ j, j < l0.length → ∃ Aj cj, w.cell? ⟨b, off + j, none⟩ = some (.slice Aj (l0.getD j []).length cj) ∧ (l0.getD j []).length ≤ cj ∧ Kd.C (Kd.int .i64) w Aj (l0.getD j []).length (l0.getD j [])) := fun k hk => C_rows hr0 (by omega)
  have HEL := Lib.hid hel
  have HT := Lib.hid hT
  have S0 : Hid (MinAll w l0 0 (.slice none 0 0) w) := Lib.hid ⟨[], rfl, own_nil _ _ _ _, Rows.nil _ _, Below.refl _ _, Nat.le_refl _⟩
  clear hr0 hel hT
  go_enter Tryz.func18, Tryz.ntmps18
  go_wp2
  go_loopg [3, 5, 12] l0.length (fun g s3 s5 s12 wr => ∃ i : Nat, s12 = .int .i64 i ∧ i ≤ l0.length ∧ l0.length - i ≤ g ∧ Hid (MinAll w l0 i s3 wr))
  case atStart => exact ⟨0, rfl, Nat.zero_le _, by omega, S0⟩
  case round =>
    clear S0
    obtain ⟨i, rfl, hile, hg, S1⟩ := hrel
    obtain ⟨xs, hxl, hown, hrows, hbel, hxi⟩ := S1.out
    clear S1
    have HXL := Lib.hid hxl
    have HO := Lib.hid hown
    have HR := Lib.hid hrows
    have HB := Lib.hid hbel
    clear hxl hown hrows hbel
    obtain ⟨Ao, co, rfl⟩ := own_slice HO.out
    by_cases hlt : i < l0.length
    · have hltz : (i : Int) < (l0.length : Int) := by omega
      obtain ⟨b, off, rfl, hbl, hcs⟩ := HF.out i hlt
      obtain ⟨Aj, cj, hcell, hlc, hCj⟩ := hcs i hlt
      clear hcs
      have hcw := (HB.out.cell (p := ⟨b, off + i, none⟩) hbl).trans hcell
      clear hcell
      have hst := setsOf_take l0 i hlt
      have hmem : l0.getD i [] ∈ l0 := by rw [List.getD_eq_getElem?_getD, List.getElem?_eq_getElem hlt]; exact List.getElem_mem hlt
      have hjl := HEL.out _ hmem
      obtain ⟨z, hz⟩ : ∃ z, z = l0.getD i [] := ⟨_, rfl⟩
      rw [← hz] at hst hjl hcw hlc hCj
      have HST := Lib.hid hst
      have HCJ := Lib.hid (Kd.C_below hCj HB.out)
      clear hst hCj hmem hz
      by_cases hz0' : 0 < z.length
      · have hzz : (0 : Int) < (z.length : Int) := by omega
        go_wp2_with fail
        refine (hyper_set.calls Aj cj z (Hyp.setOf z) _ HCJ.out hlc (by unfold hyper_set.f; rw [if_pos (by omega)])).mono ?_
        rintro e w1 ⟨v, rfl, hrv, hb1⟩
        have hov := R_int hrv
        have hsp := Hyp.setOf_pos hz0'
        have hsl := Hyp.setOf_le z
        obtain ⟨s, hs⟩ : ∃ s, s = Hyp.setOf z := ⟨_, rfl⟩
        rw [← hs] at hov hsp hsl
        have HS := Lib.hid hs
        have HOV := Lib.hid hov
        have HB1 := Lib.hid hb1
        have hbs := HB.out.size
        have hbs1 := hb1.size
        have HO1 := Lib.hid (own_move HO.out (fun k hk => hb1.block k (own_lt HO.out k hk)))
        clear hrv hov hs hb1
        obtain ⟨Av, cv, rfl⟩ := own_slice HOV.out
        go_wp2_with (at_builtin; refine wpList_append_own _ rfl _ _ 23 rfl w.heap.size 22 i0 (.slice none 0 0) 1 24 Tryz.underlying23 hi hz0 hz1 hz2 rfl (by decide) _ _ _ rfl (HO1.out.alloc _) ⟨w1.heap.size, 0, none⟩ 1 1 [.slice Av s.length cv] rfl rfl (cell_one_new _ _ _) (by simp [Value.oneCell']) (by unfold maxLen; omega) (by omega) (by simp; omega) ?_; intro v2 w2 ho2 hg2 _)
        have hg2' : (w1.alloc (.cells #[.slice Av s.length cv] 22)).grownBy w2 (Value.slice Ao xs.length co).ownBlock := hg2
        clear hg2
        have S2 : Hid (MinAll w l0 (i + 1) v2 w2) := by
          refine Lib.hid ⟨xs ++ [⟨.slice Av s.length cv, s⟩], ?_, own_row_list ho2, ?_, ?_, by simp; omega⟩
          · rw [List.map_append, HXL.out, HST.out, if_pos hz0', HS.out]; rfl
          · exact Rows.push (HR.out.snoc HB1.out hbs HOV.out hsp) HO1.out hg2'
          · exact (((HB.out.trans (HB1.out.mono hbs)).alloc (by omega) _)).grown hg2' (by simp; omega) (fun q e => own_base HO1.out q e)
        clear ho2 hg2' HO1 HOV HR HB HO HXL HST HCJ HS HB1
        obtain ⟨xs2, _, hown2, _⟩ := S2.out
        obtain ⟨A2, c2, rfl⟩ := own_slice hown2
        clear hown2
        go_wp2
        go_roundg (l0.length - (i + 1))
        case measure => omega
        case rel => exact ⟨i + 1, by go_num, by omega, Nat.le_refl _, S2⟩
      · have hzz : ¬ (0 : Int) < (z.length : Int) := by omega
        have S2 : Hid (MinAll w l0 (i + 1) (.slice Ao xs.length co) wr) := by
          refine Lib.hid ⟨xs, ?_, HO.out, HR.out, HB.out, by omega⟩
          rw [HXL.out, HST.out, if_neg hz0', List.append_nil]
        clear HR HB HO HXL HST HCJ
        go_wp2
        go_roundg (l0.length - (i + 1))
        case measure => omega
        case rel => exact ⟨i + 1, by go_num, by omega, Nat.le_refl _, S2⟩
    · have hltz : ¬ (i : Int) < (l0.length : Int) := by omega
      obtain rfl : i = l0.length := by omega
      rw [List.take_length] at HXL
      clear HF
      go_wp2_with fail
      refine (SortStable.rows w.heap.size _ xs _ HO.out HR.out (by omega)).mono ?_
      rintro e w1 ⟨rfl, ys, hsorted⟩
      have hyn : ys.length = xs.length := hsorted.perm.length_eq
      have hgr := hsorted.grown
      have HOL := Lib.hid hsorted.own
      have HRL := Lib.hid hsorted.rows
      have HPERM : Hid (ys.map Row.l |>.Perm (Hyp.setsOf l0)) := Lib.hid (by rw [← HXL.out]; exact hsorted.perm.map _)
      have HLEN : Hid ((ys.map Row.l).Pairwise fun a b => a.length ≤ b.length) := Lib.hid (by rw [List.pairwise_map]; exact hsorted.sorted)
      have HBL : Hid (Below w.heap.size w w1) := Lib.hid (HB.out.grown hgr HB.out.size (fun q e => own_base HO.out q e))
      clear hsorted hgr HO HR HB HXL
      have hbl := HBL.out.size
      have HYS : Hid (∀ y ∈ ys, y.Is w1 ∧ Hyp.Inc y.l ∧ y.l.length ≤ 1048576 ∧ TextOk w y.l) := Lib.hid (by
        intro y hy
        have h1 := HPERM.out.mem_iff.1 (List.mem_map_of_mem hy)
        obtain ⟨x, hx, he⟩ := List.mem_map.1 h1
        have hx' := (List.mem_filter.1 hx).1
        refine ⟨HRL.out.is hy, ?_, ?_, ?_⟩
        · rw [← he]; exact Hyp.setOf_inc x
        · rw [← he]; exact Nat.le_trans (Hyp.setOf_le x) (HEL.out x hx')
        · rw [← he]; exact (HT.out x hx').sub fun z hz => (Hyp.mem_setOf x z).1 hz)
      have hmk := run_makeMap (P := Tryz.prog) 51 w1
      rw [← hyn] at HOL
      have S3 : Hid (MinOut w1 ys 0 (.slice none 0 0) (w1.alloc (.map #[] 0))) := Lib.hid ⟨0, Nat.le_refl _, own_nil _ _ _ _, Known.made w1, (Below.refl _ w1).alloc (Nat.le_refl _) _⟩
      rw [← hyn]
      have hyb : ys.length ≤ 1048576 := by omega
      clear hxi
      have HYN := Lib.hid hyn
      clear hyn
      go_wp2
      go_loopg [7, 9, 30] ys.length (fun g s7 s9 s30 wx => ∃ k : Nat, s30 = .int .i64 k ∧ k ≤ ys.length ∧ ys.length - k ≤ g ∧ Hid (MinOut w1 ys k s7 wx))
      case atStart => exact ⟨0, rfl, Nat.zero_le _, by omega, S3⟩
      case round =>
        clear S3 hmk
        obtain ⟨k, rfl, hkle, hg2, S4⟩ := hrel
        obtain ⟨nk, hnk, hown, hkn, hbel⟩ := S4.out
        clear S4
        have HO := Lib.hid hown
        have HK := Lib.hid hkn
        have HB := Lib.hid hbel
        clear hown hkn hbel
        have hOs := runRows_sub (ys.take k)
        have hOl := hOs.length_le
        rw [List.length_take, Nat.min_eq_left hkle] at hOl
        have HOS := Lib.hid hOs
        clear hOs
        obtain ⟨O, hO⟩ : ∃ O, O = runRows (ys.take k) := ⟨_, rfl⟩
        rw [← hO] at HO HK HOS hOl
        have HOE := Lib.hid hO
        clear hO
        obtain ⟨Ao2, co2, rfl⟩ := own_slice HO.out
        by_cases hlt : k < ys.length
        · have hltz : (k : Int) < (ys.length : Int) := by omega
          obtain ⟨y, hy⟩ : ∃ y, y = ys[k] := ⟨_, rfl⟩
          have hymem : y ∈ ys := by rw [hy]; exact List.getElem_mem hlt
          have hnext : runRows (ys.take (k + 1)) = stepRow O y := by
            rw [List.take_succ_eq_append_getElem hlt, runRows_snoc, ← HOE.out, hy]
          have HNEXT := Lib.hid hnext
          clear hnext
          rcases own_nil_or HOL.out with ⟨_, hn0, _⟩ | ⟨g1, cap1, hv1⟩
          · omega
          cases hv1
          have hcell := (own_cells HOL.out k (by simpa using hlt)).1
          rw [List.getElem_map, ← hy] at hcell
          have hcw := (HB.out.cell (p := ⟨g1, 0 + k, none⟩) (World.block_lt_of_cell? _ _ hcell)).trans hcell
          rw [Nat.zero_add] at hcw
          obtain ⟨hyi, hyinc, hyl, hyT⟩ := HYS.out y hymem
          have hBw : Below w.heap.size w wr := HBL.out.trans (HB.out.mono hbl)
          have hyiw := hyi.below HB.out
          have HYW := Lib.hid hyiw
          have HYT := Lib.hid (hyT.below hBw)
          have HBW := Lib.hid hBw
          have HABV := Lib.hid (hyper_above.calls y _ w1.heap.size nk _ O _ hyiw (by omega) hyinc HYT.out HO.out (fun z hz => by
            obtain ⟨h1, h2, h3, _⟩ := HYS.out z (List.mem_of_mem_take (HOS.out.subset hz))
            exact ⟨h1.below HB.out, h2, by omega⟩) (by omega) HK.out)
          obtain ⟨Ay, cy, hyv, hcy, hyC⟩ := hyiw
          rw [hyv] at hcw HABV
          clear hcell hyi hyinc hyT hyC hBw
          have HYV := Lib.hid hyv
          clear hyv hy
          go_wp2_with fail
          refine HABV.out.mono ?_
          rintro e w2 ⟨rfl, hb2⟩
          have hsz := HB.out.size
          have hsz2 := hb2.size
          obtain ⟨bb, hbb⟩ : ∃ bb, bb = O.any fun f => Hyp.subB f.l y.l := ⟨_, rfl⟩
          rw [← hbb]
          have HBB := Lib.hid hbb
          have HB2 := Lib.hid hb2
          have HO2 := Lib.hid (own_move HO.out (fun q hq => hb2.block q (own_lt HO.out q hq)))
          have HK2 : Hid (Known w2 w1.heap.size nk ((O.map Row.l).map Hyp.textOf)) := Lib.hid (HK.out.step (hb2.block _ HK.out.lt))
          clear hbb hb2 HO HK
          by_cases hbt : bb = true
          · subst hbt
            have S5 : Hid (MinOut w1 ys (k + 1) (.slice Ao2 O.length co2) w2) := by
              have : stepRow O y = O := by unfold stepRow; rw [if_pos HBB.out.symm]
              rw [this] at HNEXT
              refine Lib.hid ⟨nk, by omega, ?_, ?_, HB.out.trans (HB2.out.mono hsz)⟩
              · rw [HNEXT.out]; exact HO2.out
              · rw [HNEXT.out]; exact HK2.out
            clear HO2 HK2 HNEXT
            go_wp2
            go_roundg (ys.length - (k + 1))
            case measure => omega
            case rel => exact ⟨k + 1, by go_num, by omega, Nat.le_refl _, S5⟩
          · have hbf : bb = false := by simpa using hbt
            subst hbf
            have hst : stepRow O y = O ++ [y] := by unfold stepRow; rw [if_neg (by rw [← HBB.out]; simp)]
            rw [hst] at HNEXT
            clear hst
            obtain ⟨Dk, hDo, hDs⟩ := HK2.out
            have htl := textOf_len y.l HYT.out.wf
            have HDO := Lib.hid hDo
            have HDS := Lib.hid hDs
            clear hDo hDs
            have HTXT := Lib.hid (hyper_text.calls Ay cy y.l w2 (by
              obtain ⟨A', c', e1, e2, e3⟩ := HYW.out
              rw [HYV.out] at e1
              cases e1
              exact Kd.C_below e3 HB2.out) (by omega) (HYT.out.below HB2.out))
            go_wp2_with fail
            refine HTXT.out.mono ?_
            rintro e w3 ⟨rfl, hb3⟩
            have hown3 : w3.ownsMap Tryz.prog 9 (plainElem Tryz.prog 4) w1.heap.size nk Dk := by
              obtain ⟨es, cl, hbk, r⟩ := HDO.out
              exact ⟨es, cl, (hb3.block _ (Array.getElem?_eq_some_iff.1 hbk).1).trans hbk, r⟩
            have hsz3 := hb3.size
            have HOWN3 := Lib.hid hown3
            have HO3 := Lib.hid (own_move HO2.out (fun q hq => hb3.block q (own_lt HO2.out q hq)))
            have HB3 := Lib.hid ((HB.out.trans (HB2.out.mono hsz)).trans (hb3.mono (by omega)))
            clear hb3 hown3 HO2 HDO HK2 HTXT HABV
            obtain ⟨tx, htx⟩ : ∃ t, t = Hyp.textOf y.l := ⟨_, rfl⟩
            rw [← htx] at htl ⊢
            have HTX := Lib.hid htx
            clear htx
            have hkey : keyOf Tryz.prog 9 (.string ⟨tx.toArray⟩) = some (.string tx) := WideMaps.keyOf_string_mk Tryz.underlying9 (s := ⟨tx.toArray⟩) (by show tx.toArray.size ≤ maxLen; simp; unfold maxLen; omega)
            have HKEY := Lib.hid hkey
            clear hkey
            go_wp2_with (first
              | (at_mapUpdate; refine wpList_mapUpdate_own _ rfl _ _ _ 51 rfl 9 4 (Maps.string_keyed Tryz.underlying9) Tryz.underlying51 (plainElem Tryz.prog 4) w1.heap.size nk Dk rfl HOWN3.out (by unfold maxLen; omega) _ _ (.string tx) rfl rfl HKEY.out (.lit (.bool true)) [] (plainElem_bool Tryz.underlying4 true) ?_; intro w4 hown4 hg4
                 have HO4 : Hid (w4.ownsRow (w1.heap.size + 1) 22 1 (.slice Ao2 O.length co2) O.length (O.map Row.v)) := Lib.hid (own_move HO3.out (fun q hq => hg4.block q (own_lt HO3.out q hq) (by have := own_base HO3.out q hq; intro e; injection e with e; omega)))
                 have hsz4 : w3.heap.size ≤ w4.heap.size := hg4.size
                 have HOWN4 := Lib.hid hown4
                 have HG4 := Lib.hid hg4
                 clear hown4 hg4)
              | (at_builtin; refine wpList_append_own _ rfl _ _ 23 rfl (w1.heap.size + 1) 22 i0 (.slice none 0 0) 1 24 Tryz.underlying23 hi hz0 hz1 hz2 rfl (by decide) _ _ _ rfl (HO4.out.alloc _) ⟨w4.heap.size, 0, none⟩ 1 1 [.slice Ay y.l.length cy] rfl rfl (cell_one_new _ _ _) (by simp [Value.oneCell']) (by unfold maxLen; omega) (by omega) (by simp; omega) ?_; intro v5 w5 ho5 hg5 _))
            have hg5' : (w4.alloc (.cells #[.slice Ay y.l.length cy] 22)).grownBy w5 (Value.slice Ao2 O.length co2).ownBlock := hg5
            clear hg5
            have S6 : Hid (MinOut w1 ys (k + 1) v5 w5) := by
              have hKn := Known.putD (HOWN3.out.isMap) HDS.out tx HOWN4.out
              refine Lib.hid ⟨nk + 1, by omega, ?_, ?_, ?_⟩
              · rw [HNEXT.out]
                refine own_row_list ?_
                rw [HYV.out]; exact ho5
              · rw [HNEXT.out, List.map_append, List.map_append, List.map_singleton, List.map_singleton, ← HTX.out]
                refine (hKn.step (w1 := w4.alloc (.cells #[.slice Ay y.l.length cy] 22)) (Below.heap_alloc _ _ _ hKn.lt)).step ?_
                refine hg5'.block _ (by simp; exact Nat.lt_succ_of_lt hKn.lt) (fun e => ?_)
                have := own_base HO4.out _ e.symm
                omega
              · exact ((HB3.out.grown HG4.out (by omega) (fun q e => by injection e with e; omega)).alloc (by omega) _).grown hg5' (by simp; omega) (fun q e => by have := own_base HO4.out q e; omega)
            clear ho5 hg5' HO4 HOWN4 HG4 HO3 HOWN3 HNEXT
            obtain ⟨_, _, hown5, _⟩ := S6.out
            obtain ⟨A5, c5, rfl⟩ := own_slice hown5
            clear hown5
            go_wp2
            go_roundg (ys.length - (k + 1))
            case measure => omega
            case rel => exact ⟨k + 1, by go_num, by omega, Nat.le_refl _, S6⟩
        · have hltz : ¬ (k : Int) < (ys.length : Int) := by omega
          obtain rfl : k = ys.length := by omega
          rw [List.take_length] at HOS HOE
          have hsz := HB.out.size
          have HRO := Lib.hid ((HRL.out.below HB.out).sub HOS.out |>.sub (List.Sublist.refl _))
          have HOW := Lib.hid (own_weaken HO.out (show w.heap.size ≤ w1.heap.size + 1 by omega))
          have HBW := Lib.hid (HBL.out.trans (HB.out.mono hbl))
          clear HO HK HB HRL HOL
          go_wp2_with fail
          refine (SortFunc.rows w.heap.size _ O _ HOW.out HRO.out (by omega)).mono ?_
          rintro e w2 ⟨rfl, zs, hz⟩
          have HZ := Lib.hid hz
          clear hz
          go_wp2
          go_ret
          refine ⟨_, rfl, ?_, HBW.out.grown HZ.out.grown (by omega) (fun q e => own_base HOW.out q e)⟩
          have he : Hyp.minimal l0 = zs.map Row.l := by
            refine Hyp.IsMin.unique (Hyp.minimal_is l0) (Hyp.run_min HPERM.out HLEN.out ?_ ?_)
            · rw [← runRows_l, ← HOE.out]; exact HZ.out.perm.map _
            · rw [List.pairwise_map]; exact HZ.out.sorted
          rw [he]
          exact HZ.out.rows.toS HZ.out.own
end Go.Proofs.YtgjbnmobhafajaaGreatDoor
end
end
