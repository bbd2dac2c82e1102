/- The texts of this claim, MA. -/
import Derived.Sort.LotA
import Derived.Test.YtgjbnmobhafajaaGreatDoorProg
import Derived.Shelf.SlSortCmp.Kit1
import Derived.Sort.WalkB2
import Derived.Sort.WalkB12
import Derived.Deep.LoopGhost
import Derived.Lib.Hide
import Derived.Deep.CutRange
import Derived.Deep.DeepCutAuto
import Derived.Test.YtgjbnmobhafajaaGreatDoorQzShelf
set_option linter.unusedVariables false
set_option linter.unusedSimpArgs false
section
section
namespace Go.Proofs.YtgjbnmobhafajaaGreatDoor
open Go.Sort
variable {α : Type} [Inhabited α]
def swpN (d : Array α) (a b : Nat) : Nat → Array α
  | 0 => d
  | k + 1 => swp (swpN d a b k) (a + k) (b + k)
theorem size_swpN (d : Array α) (a b k : Nat) : (swpN d a b k).size = d.size := by
  induction k with
  | zero => rfl
  | succ k ih => rw [swpN, size_swp, ih]
theorem swpN_get (d : Array α) (a b : Nat) : ∀ n, a + n ≤ b → b + n ≤ d.size → ∀ k,
    (swpN d a b n)[k]! = if a ≤ k ∧ k < a + n then d[b + (k - a)]! else if b ≤ k ∧ k < b + n then d[a + (k - b)]! else d[k]! := by
  intro n
  induction n with
  | zero => intro _ _ k; rw [if_neg (by omega), if_neg (by omega)]; rfl
  | succ n ih =>
    intro h1 h2 k
    have hs : (swpN d a b n).size = d.size := size_swpN _ _ _ _
    rw [swpN, swp_get _ (by omega) (by omega), ih (by omega) (by omega), ih (by omega) (by omega), ih (by omega) (by omega)]
    repeat' split
    all_goals first | (exfalso; omega) | rfl | (congr 1; omega)
theorem swpN_perm (d : Array α) (a b lo hi : Nat) : ∀ n, lo ≤ a → lo ≤ b → a + n ≤ hi → b + n ≤ hi → hi ≤ d.size → PermIn lo hi d (swpN d a b n) := by
  intro n
  induction n with
  | zero => intro _ _ _ _ _; exact permIn_refl _ _ _
  | succ n ih =>
    intro h1 h2 h3 h4 h5
    exact permIn_trans _ _ _ _ _ (ih h1 h2 (by omega) (by omega) h5) (swp_permIn _ lo hi _ _ (by omega) (by omega) (by omega) (by omega) (by rw [size_swpN]; exact h5))
def rotF (a m b : Nat) (d : Array α) (k : Nat) : α :=
  if a ≤ k ∧ k < a + (b - m) then d[k + (m - a)]! else if a + (b - m) ≤ k ∧ k < b then d[k - (b - m)]! else d[k]!
theorem rot_more (d : Array α) (m i j : Nat) (hj : 0 < j) (hij : j < i) (him : i ≤ m) (hb : m + j ≤ d.size) (k : Nat) :
    rotF (m - (i - j)) m (m + j) (swpN d (m - i) m j) k = rotF (m - i) m (m + j) d k := by
  unfold rotF
  rw [swpN_get d _ _ j (by omega) (by omega), swpN_get d _ _ j (by omega) (by omega), swpN_get d _ _ j (by omega) (by omega)]
  repeat' split
  all_goals first | (exfalso; omega) | rfl | (congr 1; omega)
theorem rot_less (d : Array α) (m i j : Nat) (hi : 0 < i) (hij : i < j) (him : i ≤ m) (hb : m + j ≤ d.size) (k : Nat) :
    rotF (m - i) m (m + (j - i)) (swpN d (m - i) (m + j - i) i) k = rotF (m - i) m (m + j) d k := by
  unfold rotF
  rw [swpN_get d _ _ i (by omega) (by omega), swpN_get d _ _ i (by omega) (by omega), swpN_get d _ _ i (by omega) (by omega)]
  repeat' split
  all_goals first | (exfalso; omega) | rfl | (congr 1; omega)
theorem rot_end (d : Array α) (m i : Nat) (him : i ≤ m) (hb : m + i ≤ d.size) (k : Nat) :
    (swpN d (m - i) m i)[k]! = rotF (m - i) m (m + i) d k := by
  unfold rotF
  rw [swpN_get d _ _ i (by omega) (by omega)]
  repeat' split
  all_goals first | (exfalso; omega) | rfl | (congr 1; omega)
theorem bub_up (d dk : Array α) (a k : Nat) (h : ∀ x, dk[x]! = rotF a (a + 1) (k + 1) d x) (hak : a ≤ k) (hk : k + 1 < dk.size) (x : Nat) :
    (swp dk k (k + 1))[x]! = rotF a (a + 1) (k + 2) d x := by
  rw [swp_get _ (by omega) hk, h, h, h]
  unfold rotF
  repeat' split
  all_goals first | (exfalso; omega) | rfl | (congr 1; omega)
theorem bub_down (d dk : Array α) (m k : Nat) (h : ∀ x, dk[x]! = rotF (k + 1) m (m + 1) d x) (hk : k + 1 ≤ m) (hm : m < dk.size) (x : Nat) :
    (swp dk (k + 1) k)[x]! = rotF k m (m + 1) d x := by
  rw [swp_get _ (by omega) (by omega), h, h, h]
  unfold rotF
  repeat' split
  all_goals first | (exfalso; omega) | rfl | (congr 1; omega)
section
variable {lt : α → α → Bool}
omit [Inhabited α] in
theorem le_of_lt (hS : SWO lt) {x y : α} (h : lt x y = true) : lt y x = false := by
  cases e : lt y x with
  | false => rfl
  | true => have := hS.trans _ _ _ h e; rw [hS.irrefl] at this; cases this
theorem sorted_le (hS : SWO lt) {a b : Nat} {d : Array α} (h : SortedIn lt a b d) {i j : Nat} (ha : a ≤ i) (hij : i ≤ j) (hj : j < b) : lt d[j]! d[i]! = false := by
  by_cases e : i = j
  · subst e; exact hS.irrefl _
  · exact h i j ha (by omega) hj
theorem one_ahead (hS : SWO lt) {a b i : Nat} {d d' : Array α} (hs : SortedIn lt (a + 1) b d) (hi : a + 1 ≤ i) (hib : i ≤ b)
    (hlo : i = a + 1 ∨ lt d[i - 1]! d[a]! = true) (hhi : i = b ∨ lt d[i]! d[a]! = false) (hd : ∀ x, d'[x]! = rotF a (a + 1) i d x) : SortedIn lt a b d' := by
  intro p q hp hpq hq
  rw [hd, hd]
  have lo : ∀ x, a + 1 ≤ x → x < i → lt d[a]! d[x]! = false := by
    intro x h1 h2
    rcases hlo with hlo | hlo
    · omega
    · exact hS.ntrans _ _ _ (le_of_lt hS hlo) (sorted_le hS hs h1 (by omega) (by omega))
  have hi' : ∀ x, i ≤ x → x < b → lt d[x]! d[a]! = false := by
    intro x h1 h2
    rcases hhi with hhi | hhi
    · omega
    · exact hS.ntrans _ _ _ (sorted_le hS hs hi h1 h2) hhi
  unfold rotF
  by_cases c1 : q < i - 1
  · rw [if_pos (by omega), if_pos (by omega)]
    exact hs _ _ (by omega) (by omega) (by omega)
  · by_cases c2 : q = i - 1
    · rw [if_neg (by omega), if_pos (by omega), if_pos (by omega)]
      rw [show q - (i - (a + 1)) = a from by omega]
      exact lo _ (by omega) (by omega)
    · rw [if_neg (by omega), if_neg (by omega)]
      by_cases c3 : p < i - 1
      · rw [if_pos (by omega)]
        exact hs _ _ (by omega) (by omega) (by omega)
      · rw [if_neg (by omega)]
        by_cases c4 : p = i - 1
        · rw [if_pos (by omega), show p - (i - (a + 1)) = a from by omega]
          exact hi' _ (by omega) (by omega)
        · rw [if_neg (by omega)]
          exact hs _ _ (by omega) (by omega) (by omega)
theorem one_behind (hS : SWO lt) {a m i : Nat} {d d' : Array α} (hs : SortedIn lt a m d) (hi : a ≤ i) (him : i ≤ m)
    (hlo : i = a ∨ lt d[m]! d[i - 1]! = false) (hhi : i = m ∨ lt d[m]! d[i]! = true) (hd : ∀ x, d'[x]! = rotF i m (m + 1) d x) : SortedIn lt a (m + 1) d' := by
  intro p q hp hpq hq
  rw [hd, hd]
  have lo : ∀ x, a ≤ x → x < i → lt d[m]! d[x]! = false := by
    intro x h1 h2
    rcases hlo with hlo | hlo
    · omega
    · exact hS.ntrans _ _ _ hlo (sorted_le hS hs h1 (by omega) (by omega))
  have hi' : ∀ x, i ≤ x → x < m → lt d[x]! d[m]! = false := by
    intro x h1 h2
    rcases hhi with hhi | hhi
    · omega
    · exact hS.ntrans _ _ _ (sorted_le hS hs hi h1 h2) (le_of_lt hS hhi)
  unfold rotF
  by_cases c1 : q < i
  · rw [if_neg (by omega), if_neg (by omega), if_neg (by omega), if_neg (by omega)]
    exact hs _ _ (by omega) (by omega) (by omega)
  · by_cases c2 : q = i
    · rw [if_pos (by omega), if_neg (by omega), if_neg (by omega), show q + (m - i) = m from by omega]
      exact lo _ (by omega) (by omega)
    · rw [if_neg (by omega), if_pos (by omega)]
      by_cases c3 : p < i
      · rw [if_neg (by omega), if_neg (by omega)]
        exact hs _ _ (by omega) (by omega) (by omega)
      · by_cases c4 : p = i
        · rw [if_pos (by omega), show p + (m - i) = m from by omega]
          exact hi' _ (by omega) (by omega)
        · rw [if_neg (by omega), if_pos (by omega)]
          exact hs _ _ (by omega) (by omega) (by omega)
structure Cross (lt : α → α → Bool) (a m b s e : Nat) (d : Array α) : Prop where
  h1 : a ≤ s
  h2 : s ≤ m
  h3 : m ≤ e
  h4 : e ≤ b
  lo : s = a ∨ e = b ∨ lt d[e]! d[s - 1]! = false
  hi : s = m ∨ e = m ∨ lt d[e - 1]! d[s]! = true
theorem cross_runs {a m b s e : Nat} {d d1 : Array α} (C : Cross lt a m b s e d) (ha : SortedIn lt a m d) (hb : SortedIn lt m b d) (hd : ∀ x, d1[x]! = rotF s m e d x) :
    SortedIn lt a s d1 ∧ SortedIn lt s (s + (e - m)) d1 ∧ SortedIn lt (s + (e - m)) e d1 ∧ SortedIn lt e b d1 := by
  have := C.h1; have := C.h2; have := C.h3; have := C.h4
  refine ⟨fun p q h1 h2 h3 => ?_, fun p q h1 h2 h3 => ?_, fun p q h1 h2 h3 => ?_, fun p q h1 h2 h3 => ?_⟩ <;> rw [hd, hd] <;> unfold rotF
  · rw [if_neg (by omega), if_neg (by omega), if_neg (by omega), if_neg (by omega)]; exact ha _ _ (by omega) (by omega) (by omega)
  · rw [if_pos (by omega), if_pos (by omega)]; exact hb _ _ (by omega) (by omega) (by omega)
  · rw [if_neg (by omega), if_pos (by omega), if_neg (by omega), if_pos (by omega)]; exact ha _ _ (by omega) (by omega) (by omega)
  · rw [if_neg (by omega), if_neg (by omega), if_neg (by omega), if_neg (by omega)]; exact hb _ _ (by omega) (by omega) (by omega)
theorem cross_halves (hS : SWO lt) {a m b s e : Nat} {d d1 : Array α} (C : Cross lt a m b s e d) (ha : SortedIn lt a m d) (hb : SortedIn lt m b d) (hd : ∀ x, d1[x]! = rotF s m e d x) :
    ∀ p q, a ≤ p → p < s + (e - m) → s + (e - m) ≤ q → q < b → lt d1[q]! d1[p]! = false := by
  have := C.h1; have := C.h2; have := C.h3; have := C.h4
  intro p q h1 h2 h3 h4
  rw [hd, hd]
  unfold rotF
  by_cases cp : p < s
  · by_cases cq : q < e
    · rw [if_neg (by omega), if_pos (by omega), if_neg (by omega), if_neg (by omega)]
      exact sorted_le hS ha (by omega) (by omega) (by omega)
    · rw [if_neg (by omega), if_neg (by omega), if_neg (by omega), if_neg (by omega)]
      rcases C.lo with h | h | h
      · omega
      · omega
      · exact hS.ntrans _ _ _ (hS.ntrans _ _ _ (sorted_le hS hb (by omega) (by omega) (by omega)) h) (sorted_le hS ha h1 (by omega) (by omega))
  · by_cases cq : q < e
    · rw [if_neg (by omega), if_pos (by omega), if_pos (by omega)]
      rcases C.hi with h | h | h
      · omega
      · omega
      · exact hS.ntrans _ _ _ (hS.ntrans _ _ _ (sorted_le hS ha (by omega) (by omega) (by omega)) (le_of_lt hS h)) (sorted_le hS hb (by omega) (by omega) (by omega))
    · rw [if_neg (by omega), if_neg (by omega), if_pos (by omega)]
      exact sorted_le hS hb (by omega) (by omega) (by omega)
theorem join_halves {a mid b : Nat} {d1 d2 d3 : Array α} (hsz : b ≤ d1.size) (p1 : PermIn a mid d1 d2) (p2 : PermIn mid b d2 d3)
    (s1 : SortedIn lt a mid d2) (s2 : SortedIn lt mid b d3) (hx : ∀ p q, a ≤ p → p < mid → mid ≤ q → q < b → lt d1[q]! d1[p]! = false) : SortedIn lt a b d3 := by
  intro p q hp hpq hq
  by_cases c1 : q < mid
  · rw [p2.2.1 p (by omega), p2.2.1 q (by omega)]; exact s1 p q hp hpq c1
  · by_cases c2 : mid ≤ p
    · exact s2 p q c2 hpq hq
    · rw [p2.2.1 p (by omega)]
      have q1 : ∀ x, a ≤ x → x < mid → ∀ y, mid ≤ y → y < b → lt d1[y]! d2[x]! = false := by
        intro x hx1 hx2
        exact permIn_all d1 d2 a mid (fun z => ∀ y, mid ≤ y → y < b → lt d1[y]! z = false) (by omega) p1 (fun i hi1 hi2 y hy1 hy2 => hx i y hi1 hi2 hy1 hy2) x hx1 hx2
      have q2 := permIn_all d2 d3 mid b (fun z => lt z d2[p]! = false) (by rw [p1.1]; exact hsz) p2 (fun y hy1 hy2 => by
        rw [p1.2.1 y (by omega)]; exact q1 p hp (by omega) y hy1 hy2)
      exact q2 q (by omega) hq
theorem permIn_mono' {d d' : Array α} {a b a' b' : Nat} (h1 : a' ≤ a) (h2 : b ≤ b') (h3 : b' ≤ d.size) (h : PermIn a b d d') : PermIn a' b' d d' := permIn_mono d d' a b a' b' h1 h2 h3 h
end
end Go.Proofs.YtgjbnmobhafajaaGreatDoor
end
section
namespace Go.Proofs.YtgjbnmobhafajaaGreatDoor
open Go.Shelf Go.RowKit Go.Lib Go.Sort
variable {α : Type} [Inhabited α]
set_option maxHeartbeats 4000000 in
set_option maxRecDepth 1000000 in
theorem swapRange.calls_f92 (enc : α → Value) (fv : Value) (blk off cap : Nat) (za zb zn : Int) (a b n : Nat) (hza : za = a) (hzb : zb = b) (hzn : zn = n) (d0 d : Array α) (w0 w : World)
    (R : Row1 enc w0 blk off d0) (hs : d0.size = d.size) (S : SW enc w0 blk off d w) (ha : a + n ≤ d.size) (hb : b + n ≤ d.size) (hsz : d.size < 4611686018427387904) :
    Calls Tryz.prog 92 #[.slice (some ⟨blk, off, none⟩) d.size cap, .int .i64 za, .int .i64 zb, .int .i64 zn, fv] w fun e w' => e = .returned (.tuple #[]) ∧ SW enc w0 blk off (swpN d a b n) w' := by
  subst hza hzb hzn
  have hcl0 := R.hO.cells
  simp only [Value.cells] at hcl0
  have hst := R.hO.store Tryz.prog
  have S0 : Aside (SW enc w0 blk off d w) := S
  clear S
  go_enter Tryz.func92, Tryz.ntmps92
  go_wp2
  go_loopg [10] n (fun kx s10 wr => ∃ (i : Nat), s10 = .int .i64 i ∧ i ≤ n ∧ n - i ≤ kx ∧ Aside (SW enc w0 blk off (swpN d a b i) wr))
  case atStart => exact ⟨0, rfl, Nat.zero_le _, by omega, S0⟩
  case round =>
    clear S0
    obtain ⟨i, rfl, hin, hkx, S1⟩ := hrel
    by_cases hlt : i < n
    · have hltz : (i : Int) < (n : Int) := by omega
      have hds : (swpN d a b i).size = d.size := size_swpN _ _ _ _
      generalize hdk : swpN d a b i = dk at *
      have HDK := Lib.hid hdk
      clear hdk
      go_wp2_with fail
      obtain ⟨iN1, hiN1⟩ : ∃ q, q = a + i := ⟨_, rfl⟩
      obtain ⟨jN1, hjN1⟩ : ∃ q, q = b + i := ⟨_, rfl⟩
      have ea1 : ((a : Int) + (i : Int)).toNat = iN1 := by omega
      have pa1 : (0 : Int) ≤ (a : Int) + (i : Int) := by omega
      have ba1 : (a : Int) + (i : Int) < (d.size : Int) := by omega
      have ra1 : IntKind.i64.wrap ((a : Int) + (i : Int)) = (a : Int) + (i : Int) := by rw [IntKind.wrap_i64]; omega
      have ec1 : ((b : Int) + (i : Int)).toNat = jN1 := by omega
      have pc1 : (0 : Int) ≤ (b : Int) + (i : Int) := by omega
      have bc1 : (b : Int) + (i : Int) < (d.size : Int) := by omega
      have rc1 : IntKind.i64.wrap ((b : Int) + (i : Int)) = (b : Int) + (i : Int) := by rw [IntKind.wrap_i64]; omega
      obtain ⟨x1, hx1⟩ : ∃ x, x = dk[a + i]! := ⟨_, rfl⟩
      obtain ⟨y1, hy1⟩ : ∃ x, x = dk[b + i]! := ⟨_, rfl⟩
      have S2 : Aside (SW enc w0 blk off (swp dk (a + i) (b + i)) ((wr.setCell ⟨blk, off + iN1, none⟩ (enc y1)).setCell ⟨blk, off + jN1, none⟩ (enc x1)).drew) := by rw [hiN1, hjN1, hx1, hy1]; exact S1.out.swapped R (a + i) (b + i) (by omega) (by omega)
      have c1a := S1.out.c1 R (by omega) (a + i) (by omega)
      have c1b := S1.out.c1 R (by omega) (b + i) (by omega)
      have f1a := S1.out.f1 R (by omega) (a + i) (by omega)
      have f1b := S1.out.f1 R (by omega) (b + i) (by omega)
      obtain ⟨u1, c1c⟩ := S1.out.c2 R (by omega) (a + i) (b + i) (by omega) (by omega) (enc y1)
      rw [← hjN1, ← hiN1] at c1c
      rw [← hx1, ← hiN1] at c1a
      rw [← hy1, ← hjN1] at c1b
      rw [← hiN1] at f1a
      rw [← hjN1] at f1b
      clear S1 hx1 hy1 hiN1 hjN1
      go_wp2_with fail
      go_big_region
      clear c1a c1b c1c f1a f1b
      generalize ((wr.setCell ⟨blk, off + iN1, none⟩ (enc y1)).setCell ⟨blk, off + jN1, none⟩ (enc x1)).drew = w2 at S2 ⊢
      clear ea1 ec1
      go_wp2
      go_roundg (n - (i + 1))
      case measure => omega
      case rel => exact ⟨i + 1, by go_num, by omega, Nat.le_refl _, by rw [swpN, HDK.out]; exact S2⟩
    · have hltz : ¬ (i : Int) < (n : Int) := by omega
      obtain rfl : i = n := by omega
      go_wp2
      go_end0
      exact ⟨rfl, S1.out⟩
end Go.Proofs.YtgjbnmobhafajaaGreatDoor
end
section
namespace Go.Proofs.YtgjbnmobhafajaaGreatDoor
open Go.Shelf Go.RowKit Go.Lib Go.Sort
variable {α : Type} [Inhabited α]
def RotPost (enc : α → Value) (w0 : World) (blk off a m b : Nat) (d : Array α) (e : Ending) (w' : World) : Prop :=
  e = .returned (.tuple #[]) ∧ ∃ d', SW enc w0 blk off d' w' ∧ PermIn a b d d' ∧ ∀ k, d'[k]! = rotF a m b d k
def RotRel (enc : α → Value) (w0 : World) (blk off a m b i j : Nat) (d : Array α) (W : World) : Prop :=
  ∃ dk, SW enc w0 blk off dk W ∧ PermIn a b d dk ∧ ∀ k, rotF (m - i) m (m + j) dk k = rotF a m b d k
set_option maxHeartbeats 4000000 in
set_option maxRecDepth 1000000 in
theorem rotate.calls_f81 (enc : α → Value) (fv : Value) (blk off cap : Nat) (za zm zb : Int) (a m b : Nat) (hza : za = a) (hzm : zm = m) (hzb : zb = b) (d0 d : Array α) (w0 w : World)
    (R : Row1 enc w0 blk off d0) (hs : d0.size = d.size) (S : SW enc w0 blk off d w) (ham : a < m) (hmb : m < b) (hb : b ≤ d.size) (hsz : d.size < 4611686018427387904) :
    Calls Tryz.prog 81 #[.slice (some ⟨blk, off, none⟩) d.size cap, .int .i64 za, .int .i64 zm, .int .i64 zb, fv] w (RotPost enc w0 blk off a m b d) := by
  subst hza hzm hzb
  have S0 : Hid (RotRel enc w0 blk off a m b (m - a) (b - m) d w) := ⟨d, S, permIn_refl _ _ _, fun k => by rw [show m - (m - a) = a from by omega, show m + (b - m) = b from by omega]⟩
  have HR := Lib.hid R
  have hsz' := hs
  have HSZ := Lib.hid hs
  clear S R hs hsz'
  go_enter Tryz.func81, Tryz.ntmps81
  go_wp2
  go_loopg [10, 11] (b - a) (fun kx s10 s11 wr => ∃ (i j : Nat), s10 = .int .i64 i ∧ s11 = .int .i64 j ∧ 0 < i ∧ 0 < j ∧ i ≤ m - a ∧ j ≤ b - m ∧ i + j ≤ kx ∧ Hid (RotRel enc w0 blk off a m b i j d wr))
  case atStart => exact ⟨m - a, b - m, by congr 1; omega, by congr 1; omega, by omega, by omega, by omega, by omega, by omega, S0⟩
  case round =>
    clear S0
    obtain ⟨i, j, rfl, rfl, hi0, hj0, him, hjm, hkx, S1⟩ := hrel
    obtain ⟨dk, hS, hP, hF⟩ := S1.out
    have hsz1 : dk.size = d.size := hP.1
    have HSW := Lib.hid hS
    have HP := Lib.hid hP
    have HF := Lib.hid hF
    have HZ := Lib.hid hsz1
    have hszle : d.size ≤ dk.size := by omega
    clear hS hP hF hsz1 S1
    by_cases hij : i = j
    · subst hij
      go_wp2_with fail
      rw [← HZ.out]
      refine (swapRange.calls_f92 enc fv blk off cap _ _ _ (m - i) m i (by omega) rfl rfl d0 dk w0 _ HR.out (by rw [HZ.out]; exact HSZ.out) HSW.out (by omega) (by omega) (by rw [HZ.out]; omega)).mono ?_
      rintro e w1 ⟨rfl, hS2⟩
      have HS2 := Lib.hid hS2
      clear hS2
      rw [HZ.out]
      go_wp2_with fail
      go_end0
      refine ⟨rfl, _, HS2.out, permIn_trans _ _ _ _ _ HP.out (swpN_perm _ _ _ a b i (by omega) (by omega) (by omega) (by omega) (by omega)), fun k => ?_⟩
      rw [rot_end dk m i (by omega) (by omega)]
      exact HF.out k
    · have hne : ((i : Int) != (j : Int)) = true := by rw [bne_iff_ne]; omega
      by_cases hgt : j < i
      · have hgz : (j : Int) < (i : Int) := by omega
        go_wp2_with fail
        rw [← HZ.out]
        refine (swapRange.calls_f92 enc fv blk off cap _ _ _ (m - i) m j (by omega) rfl rfl d0 dk w0 _ HR.out (by rw [HZ.out]; exact HSZ.out) HSW.out (by omega) (by omega) (by rw [HZ.out]; omega)).mono ?_
        rintro e w1 ⟨rfl, hS2⟩
        have HS2 := Lib.hid hS2
        clear hS2
        rw [HZ.out]
        go_wp2
        go_roundg (i - j + j)
        case measure => omega
        case rel =>
          refine ⟨i - j, j, by congr 1; omega, rfl, by omega, hj0, by omega, hjm, Nat.le_refl _, _, HS2.out, permIn_trans _ _ _ _ _ HP.out (swpN_perm _ _ _ a b j (by omega) (by omega) (by omega) (by omega) (by omega)), fun k => ?_⟩
          rw [rot_more dk m i j hj0 hgt (by omega) (by omega)]
          exact HF.out k
      · have hgz : ¬ (j : Int) < (i : Int) := by omega
        have hlt : i < j := by omega
        go_wp2_with fail
        rw [← HZ.out]
        refine (swapRange.calls_f92 enc fv blk off cap _ _ _ (m - i) (m + j - i) i (by omega) (by omega) rfl d0 dk w0 _ HR.out (by rw [HZ.out]; exact HSZ.out) HSW.out (by omega) (by omega) (by rw [HZ.out]; omega)).mono ?_
        rintro e w1 ⟨rfl, hS2⟩
        have HS2 := Lib.hid hS2
        clear hS2
        rw [HZ.out]
        go_wp2
        go_roundg (i + (j - i))
        case measure => omega
        case rel =>
          refine ⟨i, j - i, rfl, by congr 1; omega, hi0, by omega, him, by omega, Nat.le_refl _, _, HS2.out, permIn_trans _ _ _ _ _ HP.out (swpN_perm _ _ _ a b i (by omega) (by omega) (by omega) (by omega) (by omega)), fun k => ?_⟩
          rw [rot_less dk m i j hi0 hlt (by omega) (by omega)]
          exact HF.out k
end Go.Proofs.YtgjbnmobhafajaaGreatDoor
end
section
namespace Go.Proofs.YtgjbnmobhafajaaGreatDoor
open Go.Shelf Go.RowKit Go.Lib Go.Sort
variable {α : Type} [Inhabited α]
def SymPost (enc : α → Value) (cf : α → α → Int) (w0 : World) (blk off a b : Nat) (d : Array α) (e : Ending) (w' : World) : Prop :=
  e = .returned (.tuple #[]) ∧ ∃ d', SW enc w0 blk off d' w' ∧ PermIn a b d d' ∧ SortedIn (ltOf cf) a b d'
def BubRel (enc : α → Value) (w0 : World) (blk off a b x m y : Nat) (d : Array α) (W : World) : Prop :=
  ∃ dk, SW enc w0 blk off dk W ∧ PermIn a b d dk ∧ ∀ k, dk[k]! = rotF x m y d k
theorem rotF_id (d : Array α) (a m b : Nat) (h : a = m ∨ b ≤ m) (k : Nat) : rotF a m b d k = d[k]! := by
  unfold rotF
  repeat' split
  all_goals first | (exfalso; omega) | rfl | (congr 1; omega)
set_option maxHeartbeats 8000000 in
set_option maxRecDepth 1000000 in
theorem sym_one_ahead (enc : α → Value) (cf : α → α → Int) (hO : SWO (ltOf cf)) (g : Nat) (cb : Array Value) (blk off cap : Nat) (za zm zb : Int) (a m b : Nat) (hza : za = a) (hzm : zm = m) (hzb : zb = b) (d0 d : Array α) (w0 w : World)
    (eg : ∀ args w, (callFunc g args).run Tryz.prog w = .ok (.enter g args) w) (hcmp : CmpLays1 Tryz.prog g cb enc cf blk off d0.size w0) (R0 : Row1 enc w0 blk off d0) (hs : d0.size = d.size) (S : SW enc w0 blk off d w) (ham : a < m) (hmb : m < b) (hb : b ≤ d.size) (hsz : d.size < 4611686018427387904)
    (sa : SortedIn (ltOf cf) a m d) (sb : SortedIn (ltOf cf) m b d) (h1 : m = a + 1) :
    Calls Tryz.prog 57 #[.slice (some ⟨blk, off, none⟩) d.size cap, .int .i64 za, .int .i64 zm, .int .i64 zb, .func (.func g) #[] cb] w (SymPost enc cf w0 blk off a b d) := by
  subst hza hzm hzb
  have mixed : Tryz.prog.follows .mixedOrders = true := by kernel_rfl
  have hcl0 := R0.hO.cells
  simp only [Value.cells] at hcl0
  have hst := R0.hO.store Tryz.prog
  have R := Lib.hid R0
  have HC := Lib.hid hcmp
  have HS := Lib.hid S
  have HA := Lib.hid sa
  have HBs := Lib.hid sb
  have HZ := Lib.hid hs
  have hzle : d0.size ≤ d.size := by omega
  have hzge : d.size ≤ d0.size := by omega
  clear R0 hcmp S sa sb hs
  subst h1
  go_enter Tryz.func57, Tryz.ntmps57
  have hd1 : (((a + 1 : Nat) : Int) - (a : Int) == 1) = true := by rw [beq_iff_eq]; omega
  have hd2 : ((a : Int) + 1 - (a : Int) == 1) = true := by rw [beq_iff_eq]; omega
  go_wp2
  go_loopg [10, 11, 12] (b - a) (fun kx s10 s11 s12 wr => ∃ (lo hi : Nat), s10 = .int .i64 lo ∧ s11 = .int .i64 hi ∧ a + 1 ≤ lo ∧ lo ≤ hi ∧ hi ≤ b ∧ hi - lo ≤ kx ∧ Hid (lo = a + 1 ∨ ltOf cf d[lo - 1]! d[a]! = true) ∧ Hid (hi = b ∨ ltOf cf d[hi]! d[a]! = false) ∧ Aside (SW enc w0 blk off d wr))
  case atStart => exact ⟨a + 1, b, by go_num, rfl, by omega, by omega, Nat.le_refl _, by omega, .inl rfl, .inl rfl, HS.out⟩
  case round =>
    clear HS hd1 hd2
    obtain ⟨lo, hi, rfl, rfl, h1, h2, h3, hkx, HLO, HHI, S1⟩ := hrel
    by_cases hlt : lo < hi
    · have hltz : (lo : Int) < (hi : Int) := by omega
      obtain ⟨h, hh⟩ : ∃ h, h = (lo + hi) / 2 := ⟨_, rfl⟩
      have hh1 : lo ≤ h := by omega
      have hh2 : h < hi := by omega
      have hhz : ((lo : Int) + (hi : Int)) / 2 = (h : Int) := by omega
      have HH := Lib.hid hhz
      clear hh hhz
      cases hlv0 : ltOf cf d[h]! d[a]! with
      | true =>
        have hlv := Lib.hid hlv0
        clear hlv0
        go_upto_region 5 with fail
        rw [HH.out]
        obtain ⟨iN1, hiN1⟩ : ∃ q_, q_ = h := ⟨_, rfl⟩
        obtain ⟨jN1, hjN1⟩ : ∃ q_, q_ = a := ⟨_, rfl⟩
        have ea1 : ((h : Int)).toNat = iN1 := by omega
        have pa1 : (0 : Int) ≤ (h : Int) := by omega
        have ba1 : (h : Int) < (d.size : Int) := by omega
        have ra1 : IntKind.i64.wrap ((h : Int)) = (h : Int) := by rw [IntKind.wrap_i64]; omega
        have ec1 : ((a : Int)).toNat = jN1 := by omega
        have pc1 : (0 : Int) ≤ (a : Int) := by omega
        have bc1 : (a : Int) < (d.size : Int) := by omega
        have rc1 : IntKind.i64.wrap ((a : Int)) = (a : Int) := by rw [IntKind.wrap_i64]; omega
        obtain ⟨x1, hx1⟩ : ∃ x, x = d[h]! := ⟨_, rfl⟩
        obtain ⟨y1, hy1⟩ : ∃ x, x = d[a]! := ⟨_, rfl⟩
        have l1a := S1.out.cl R.out (by omega) (h) (by omega)
        have l1b := S1.out.cl R.out (by omega) (a) (by omega)
        rw [← hx1, ← hiN1] at l1a
        rw [← hy1, ← hjN1] at l1b
        have hc1 := S1.out.cmp HC.out (by omega) x1 y1
        have hv1 : cf x1 y1 < 0 := by rw [hx1, hy1]; exact of_decide_eq_true hlv.out
        have hd1 : decide (cf x1 y1 < 0) = true := decide_eq_true hv1
        clear hx1 hy1 hiN1 hjN1
        go_wp2_with fail
        go_quiet_grown (first | (go_at_fn g; refine Calls.grown_of (hc1 _ _)))
        have S1' : Aside (SW enc w0 blk off d (grow (wr.drewN nq) osq)) := S1.out.grown nq osq
        clear l1a l1b hc1 S1
        generalize grow (wr.drewN nq) osq = w2 at S1' ⊢
        clear nq osq
        clear ea1 ec1 pa1 ba1 ra1 pc1 bc1 rc1 hv1 hd1
        go_wp2
        go_roundg (hi - (h + 1))
        case measure => omega
        case rel => exact ⟨h + 1, hi, by go_num, rfl, by omega, by omega, h3, by omega, .inr (by simpa using hlv.out), HHI, S1'⟩
      | false =>
        have hlv := Lib.hid hlv0
        clear hlv0
        go_upto_region 5 with fail
        rw [HH.out]
        obtain ⟨iN2, hiN2⟩ : ∃ q_, q_ = h := ⟨_, rfl⟩
        obtain ⟨jN2, hjN2⟩ : ∃ q_, q_ = a := ⟨_, rfl⟩
        have ea2 : ((h : Int)).toNat = iN2 := by omega
        have pa2 : (0 : Int) ≤ (h : Int) := by omega
        have ba2 : (h : Int) < (d.size : Int) := by omega
        have ra2 : IntKind.i64.wrap ((h : Int)) = (h : Int) := by rw [IntKind.wrap_i64]; omega
        have ec2 : ((a : Int)).toNat = jN2 := by omega
        have pc2 : (0 : Int) ≤ (a : Int) := by omega
        have bc2 : (a : Int) < (d.size : Int) := by omega
        have rc2 : IntKind.i64.wrap ((a : Int)) = (a : Int) := by rw [IntKind.wrap_i64]; omega
        obtain ⟨x2, hx2⟩ : ∃ x, x = d[h]! := ⟨_, rfl⟩
        obtain ⟨y2, hy2⟩ : ∃ x, x = d[a]! := ⟨_, rfl⟩
        have l2a := S1.out.cl R.out (by omega) (h) (by omega)
        have l2b := S1.out.cl R.out (by omega) (a) (by omega)
        rw [← hx2, ← hiN2] at l2a
        rw [← hy2, ← hjN2] at l2b
        have hc2 := S1.out.cmp HC.out (by omega) x2 y2
        have hv2 : ¬ cf x2 y2 < 0 := by rw [hx2, hy2]; exact of_decide_eq_false hlv.out
        have hd2 : decide (cf x2 y2 < 0) = false := decide_eq_false hv2
        clear hx2 hy2 hiN2 hjN2
        go_wp2_with fail
        go_quiet_grown (first | (go_at_fn g; refine Calls.grown_of (hc2 _ _)))
        have S1' : Aside (SW enc w0 blk off d (grow (wr.drewN nq) osq)) := S1.out.grown nq osq
        clear l2a l2b hc2 S1
        generalize grow (wr.drewN nq) osq = w2 at S1' ⊢
        clear nq osq
        clear ea2 ec2 pa2 ba2 ra2 pc2 bc2 rc2 hv2 hd2
        go_wp2
        go_roundg (h - lo)
        case measure => omega
        case rel => exact ⟨lo, h, rfl, rfl, h1, by omega, by omega, by omega, HLO, .inr hlv.out, S1'⟩
    · have hltz : ¬ (lo : Int) < (hi : Int) := by omega
      obtain rfl : hi = lo := by omega
      have S2 : Hid (BubRel enc w0 blk off a b a (a + 1) (a + 1) d wr) := ⟨d, S1.out, permIn_refl _ _ _, fun k => by rw [rotF_id _ _ _ _ (.inr (Nat.le_refl _))]⟩
      clear S1
      go_wp2
      go_loopg [13] (b - a) (fun kx s13 wr => ∃ k : Nat, s13 = .int .i64 k ∧ a ≤ k ∧ k < hi ∧ hi - k ≤ kx ∧ Hid (BubRel enc w0 blk off a b a (a + 1) (k + 1) d wr))
      case atStart => exact ⟨a, rfl, Nat.le_refl _, by omega, by omega, S2⟩
      case round =>
        clear S2
        obtain ⟨k, rfl, hk1, hk2, hkx2, S3⟩ := hrel
        obtain ⟨dk, hS, hP, hF⟩ := S3.out
        have hsz1 : dk.size = d.size := hP.1
        have S4 := Lib.hid hS
        have HP := Lib.hid hP
        have HF := Lib.hid hF
        have hs1 : d.size ≤ dk.size := by omega
        have hs2 : dk.size ≤ d.size := by omega
        clear hS hP hF hsz1 S3
        by_cases hkl : k + 1 < hi
        · have hkz : (k : Int) < (hi : Int) - 1 := by omega
          go_wp2_with fail
          obtain ⟨iN3, hiN3⟩ : ∃ q_, q_ = k := ⟨_, rfl⟩
          obtain ⟨jN3, hjN3⟩ : ∃ q_, q_ = k + 1 := ⟨_, rfl⟩
          have ea3 : ((k : Int)).toNat = iN3 := by omega
          have pa3 : (0 : Int) ≤ (k : Int) := by omega
          have ba3 : (k : Int) < (d.size : Int) := by omega
          have ra3 : IntKind.i64.wrap ((k : Int)) = (k : Int) := by rw [IntKind.wrap_i64]; omega
          have ec3 : ((k : Int) + 1).toNat = jN3 := by omega
          have pc3 : (0 : Int) ≤ (k : Int) + 1 := by omega
          have bc3 : (k : Int) + 1 < (d.size : Int) := by omega
          have rc3 : IntKind.i64.wrap ((k : Int) + 1) = (k : Int) + 1 := by rw [IntKind.wrap_i64]; omega
          obtain ⟨x3, hx3⟩ : ∃ x, x = dk[k]! := ⟨_, rfl⟩
          obtain ⟨y3, hy3⟩ : ∃ x, x = dk[k + 1]! := ⟨_, rfl⟩
          have S4' : Aside (SW enc w0 blk off (swp dk (k) (k + 1)) ((wr.setCell ⟨blk, off + iN3, none⟩ (enc y3)).setCell ⟨blk, off + jN3, none⟩ (enc x3)).drew) := by rw [hiN3, hjN3, hx3, hy3]; exact S4.out.swapped R.out (k) (k + 1) (by omega) (by omega)
          have c3a := S4.out.c1 R.out (by omega) (k) (by omega)
          have c3b := S4.out.c1 R.out (by omega) (k + 1) (by omega)
          have f3a := S4.out.f1 R.out (by omega) (k) (by omega)
          have f3b := S4.out.f1 R.out (by omega) (k + 1) (by omega)
          obtain ⟨u3, c3c⟩ := S4.out.c2 R.out (by omega) (k) (k + 1) (by omega) (by omega) (enc y3)
          rw [← hjN3, ← hiN3] at c3c
          rw [← hx3, ← hiN3] at c3a
          rw [← hy3, ← hjN3] at c3b
          rw [← hiN3] at f3a
          rw [← hjN3] at f3b
          clear S4 hx3 hy3 hiN3 hjN3
          go_wp2_with fail
          go_big_region
          clear c3a c3b c3c f3a f3b
          generalize ((wr.setCell ⟨blk, off + iN3, none⟩ (enc y3)).setCell ⟨blk, off + jN3, none⟩ (enc x3)).drew = w2 at S4' ⊢
          clear ea3 ec3 pa3 ba3 ra3 pc3 bc3 rc3
          go_wp2
          go_roundg (hi - (k + 1))
          case measure => omega
          case rel => exact ⟨k + 1, by go_num, by omega, by omega, by omega, _, S4'.out, permIn_trans _ _ _ _ _ HP.out (swp_permIn _ a b _ _ (by omega) (by omega) (by omega) (by omega) (by omega)), fun x => bub_up d dk a k HF.out hk1 (by omega) x⟩
        · have hkz : ¬ (k : Int) < (hi : Int) - 1 := by omega
          go_wp2
          go_end0
          obtain rfl : hi = k + 1 := by omega
          exact ⟨rfl, dk, S4.out, HP.out, one_ahead hO HBs.out h1 h3 HLO.out HHI.out HF.out⟩
end Go.Proofs.YtgjbnmobhafajaaGreatDoor
end
section
namespace Go.Proofs.YtgjbnmobhafajaaGreatDoor
open Go.Shelf Go.RowKit Go.Lib Go.Sort
variable {α : Type} [Inhabited α]
set_option maxHeartbeats 8000000 in
set_option maxRecDepth 1000000 in
theorem sym_one_behind (enc : α → Value) (cf : α → α → Int) (hO : SWO (ltOf cf)) (g : Nat) (cb : Array Value) (blk off cap : Nat) (za zm zb : Int) (a m b : Nat) (hza : za = a) (hzm : zm = m) (hzb : zb = b) (d0 d : Array α) (w0 w : World)
    (eg : ∀ args w, (callFunc g args).run Tryz.prog w = .ok (.enter g args) w) (hcmp : CmpLays1 Tryz.prog g cb enc cf blk off d0.size w0) (R0 : Row1 enc w0 blk off d0) (hs : d0.size = d.size) (S : SW enc w0 blk off d w) (ham : a < m) (hmb : m < b) (hb : b ≤ d.size) (hsz : d.size < 4611686018427387904)
    (sa : SortedIn (ltOf cf) a m d) (sb : SortedIn (ltOf cf) m b d) (h1 : b = m + 1) (h2 : m ≠ a + 1) :
    Calls Tryz.prog 57 #[.slice (some ⟨blk, off, none⟩) d.size cap, .int .i64 za, .int .i64 zm, .int .i64 zb, .func (.func g) #[] cb] w (SymPost enc cf w0 blk off a b d) := by
  subst hza hzm hzb
  have mixed : Tryz.prog.follows .mixedOrders = true := by kernel_rfl
  have hcl0 := R0.hO.cells
  simp only [Value.cells] at hcl0
  have hst := R0.hO.store Tryz.prog
  have R := Lib.hid R0
  have HC := Lib.hid hcmp
  have HS := Lib.hid S
  have HA := Lib.hid sa
  have HBs := Lib.hid sb
  have HZ := Lib.hid hs
  have hzle : d0.size ≤ d.size := by omega
  have hzge : d.size ≤ d0.size := by omega
  clear R0 hcmp S sa sb hs
  subst h1
  go_enter Tryz.func57, Tryz.ntmps57
  have hd0 : ((m : Int) - (a : Int) == 1) = false := by rw [beq_eq_false_iff_ne]; omega
  have hd2 : ((m : Int) + 1 - (m : Int) == 1) = true := by rw [beq_iff_eq]; omega
  go_wp2
  go_loopg [14, 15, 16] (m - a) (fun kx s14 s15 s16 wr => ∃ (lo hi : Nat), s14 = .int .i64 lo ∧ s15 = .int .i64 hi ∧ a ≤ lo ∧ lo ≤ hi ∧ hi ≤ m ∧ hi - lo ≤ kx ∧ Hid (lo = a ∨ ltOf cf d[m]! d[lo - 1]! = false) ∧ Hid (hi = m ∨ ltOf cf d[m]! d[hi]! = true) ∧ Aside (SW enc w0 blk off d wr))
  case atStart => exact ⟨a, m, rfl, rfl, Nat.le_refl _, by omega, Nat.le_refl _, Nat.le_refl _, .inl rfl, .inl rfl, HS.out⟩
  case round =>
    clear HS hd0 hd2
    obtain ⟨lo, hi, rfl, rfl, h1, h2, h3, hkx, HLO, HHI, S1⟩ := hrel
    by_cases hlt : lo < hi
    · have hltz : (lo : Int) < (hi : Int) := by omega
      obtain ⟨h, hh⟩ : ∃ h, h = (lo + hi) / 2 := ⟨_, rfl⟩
      have hh1 : lo ≤ h := by omega
      have hh2 : h < hi := by omega
      have hhz : ((lo : Int) + (hi : Int)) / 2 = (h : Int) := by omega
      have HH := Lib.hid hhz
      clear hh hhz
      cases hlv0 : ltOf cf d[m]! d[h]! with
      | true =>
        have hlv := Lib.hid hlv0
        clear hlv0
        go_upto_region 17 with fail
        rw [HH.out]
        obtain ⟨iN1, hiN1⟩ : ∃ q_, q_ = m := ⟨_, rfl⟩
        obtain ⟨jN1, hjN1⟩ : ∃ q_, q_ = h := ⟨_, rfl⟩
        have ea1 : ((m : Int)).toNat = iN1 := by omega
        have pa1 : (0 : Int) ≤ (m : Int) := by omega
        have ba1 : (m : Int) < (d.size : Int) := by omega
        have ra1 : IntKind.i64.wrap ((m : Int)) = (m : Int) := by rw [IntKind.wrap_i64]; omega
        have ec1 : ((h : Int)).toNat = jN1 := by omega
        have pc1 : (0 : Int) ≤ (h : Int) := by omega
        have bc1 : (h : Int) < (d.size : Int) := by omega
        have rc1 : IntKind.i64.wrap ((h : Int)) = (h : Int) := by rw [IntKind.wrap_i64]; omega
        obtain ⟨x1, hx1⟩ : ∃ x, x = d[m]! := ⟨_, rfl⟩
        obtain ⟨y1, hy1⟩ : ∃ x, x = d[h]! := ⟨_, rfl⟩
        have l1a := S1.out.cl R.out (by omega) (m) (by omega)
        have l1b := S1.out.cl R.out (by omega) (h) (by omega)
        rw [← hx1, ← hiN1] at l1a
        rw [← hy1, ← hjN1] at l1b
        have hc1 := S1.out.cmp HC.out (by omega) x1 y1
        have hv1 : cf x1 y1 < 0 := by rw [hx1, hy1]; exact of_decide_eq_true hlv.out
        have hd1 : decide (cf x1 y1 < 0) = true := decide_eq_true hv1
        clear hx1 hy1 hiN1 hjN1
        go_wp2_with fail
        go_quiet_grown (first | (go_at_fn g; refine Calls.grown_of (hc1 _ _)))
        have S1' : Aside (SW enc w0 blk off d (grow (wr.drewN nq) osq)) := S1.out.grown nq osq
        clear l1a l1b hc1 S1
        generalize grow (wr.drewN nq) osq = w2 at S1' ⊢
        clear nq osq
        clear ea1 ec1 pa1 ba1 ra1 pc1 bc1 rc1 hv1 hd1
        go_wp2
        go_roundg (h - lo)
        case measure => omega
        case rel => exact ⟨lo, h, rfl, rfl, h1, by omega, by omega, by omega, HLO, .inr hlv.out, S1'⟩
      | false =>
        have hlv := Lib.hid hlv0
        clear hlv0
        go_upto_region 17 with fail
        rw [HH.out]
        obtain ⟨iN2, hiN2⟩ : ∃ q_, q_ = m := ⟨_, rfl⟩
        obtain ⟨jN2, hjN2⟩ : ∃ q_, q_ = h := ⟨_, rfl⟩
        have ea2 : ((m : Int)).toNat = iN2 := by omega
        have pa2 : (0 : Int) ≤ (m : Int) := by omega
        have ba2 : (m : Int) < (d.size : Int) := by omega
        have ra2 : IntKind.i64.wrap ((m : Int)) = (m : Int) := by rw [IntKind.wrap_i64]; omega
        have ec2 : ((h : Int)).toNat = jN2 := by omega
        have pc2 : (0 : Int) ≤ (h : Int) := by omega
        have bc2 : (h : Int) < (d.size : Int) := by omega
        have rc2 : IntKind.i64.wrap ((h : Int)) = (h : Int) := by rw [IntKind.wrap_i64]; omega
        obtain ⟨x2, hx2⟩ : ∃ x, x = d[m]! := ⟨_, rfl⟩
        obtain ⟨y2, hy2⟩ : ∃ x, x = d[h]! := ⟨_, rfl⟩
        have l2a := S1.out.cl R.out (by omega) (m) (by omega)
        have l2b := S1.out.cl R.out (by omega) (h) (by omega)
        rw [← hx2, ← hiN2] at l2a
        rw [← hy2, ← hjN2] at l2b
        have hc2 := S1.out.cmp HC.out (by omega) x2 y2
        have hv2 : ¬ cf x2 y2 < 0 := by rw [hx2, hy2]; exact of_decide_eq_false hlv.out
        have hd2 : decide (cf x2 y2 < 0) = false := decide_eq_false hv2
        clear hx2 hy2 hiN2 hjN2
        go_wp2_with fail
        go_quiet_grown (first | (go_at_fn g; refine Calls.grown_of (hc2 _ _)))
        have S1' : Aside (SW enc w0 blk off d (grow (wr.drewN nq) osq)) := S1.out.grown nq osq
        clear l2a l2b hc2 S1
        generalize grow (wr.drewN nq) osq = w2 at S1' ⊢
        clear nq osq
        clear ea2 ec2 pa2 ba2 ra2 pc2 bc2 rc2 hv2 hd2
        go_wp2
        go_roundg (hi - (h + 1))
        case measure => omega
        case rel => exact ⟨h + 1, hi, by go_num, rfl, by omega, by omega, h3, by omega, .inr (by simpa using hlv.out), HHI, S1'⟩
    · have hltz : ¬ (lo : Int) < (hi : Int) := by omega
      obtain rfl : hi = lo := by omega
      have S2 : Hid (BubRel enc w0 blk off a (m + 1) m m (m + 1) d wr) := ⟨d, S1.out, permIn_refl _ _ _, fun k => by rw [rotF_id _ _ _ _ (.inl rfl)]⟩
      clear S1
      go_wp2
      go_loopg [17] (m - a) (fun kx s17 wr => ∃ k : Nat, s17 = .int .i64 k ∧ hi ≤ k ∧ k ≤ m ∧ k - hi ≤ kx ∧ Hid (BubRel enc w0 blk off a (m + 1) k m (m + 1) d wr))
      case atStart => exact ⟨m, rfl, by omega, Nat.le_refl _, by omega, S2⟩
      case round =>
        clear S2
        obtain ⟨k, rfl, hk1, hk2, hkx2, S3⟩ := hrel
        obtain ⟨dk, hS, hP, hF⟩ := S3.out
        have hsz1 : dk.size = d.size := hP.1
        have S4 := Lib.hid hS
        have HP := Lib.hid hP
        have HF := Lib.hid hF
        have hs1 : d.size ≤ dk.size := by omega
        have hs2 : dk.size ≤ d.size := by omega
        clear hS hP hF hsz1 S3
        by_cases hkl : hi < k
        · obtain ⟨q, rfl⟩ : ∃ q, k = q + 1 := ⟨k - 1, by omega⟩
          have hkz : (hi : Int) < (q : Int) + 1 := by omega
          go_wp2_with fail
          obtain ⟨iN3, hiN3⟩ : ∃ q_, q_ = q + 1 := ⟨_, rfl⟩
          obtain ⟨jN3, hjN3⟩ : ∃ q_, q_ = q := ⟨_, rfl⟩
          have ea3 : ((q : Int) + 1).toNat = iN3 := by omega
          have pa3 : (0 : Int) ≤ (q : Int) + 1 := by omega
          have ba3 : (q : Int) + 1 < (d.size : Int) := by omega
          have ra3 : IntKind.i64.wrap ((q : Int) + 1) = (q : Int) + 1 := by rw [IntKind.wrap_i64]; omega
          have ec3 : ((q : Int)).toNat = jN3 := by omega
          have pc3 : (0 : Int) ≤ (q : Int) := by omega
          have bc3 : (q : Int) < (d.size : Int) := by omega
          have rc3 : IntKind.i64.wrap ((q : Int)) = (q : Int) := by rw [IntKind.wrap_i64]; omega
          obtain ⟨x3, hx3⟩ : ∃ x, x = dk[q + 1]! := ⟨_, rfl⟩
          obtain ⟨y3, hy3⟩ : ∃ x, x = dk[q]! := ⟨_, rfl⟩
          have S4' : Aside (SW enc w0 blk off (swp dk (q + 1) (q)) ((wr.setCell ⟨blk, off + iN3, none⟩ (enc y3)).setCell ⟨blk, off + jN3, none⟩ (enc x3)).drew) := by rw [hiN3, hjN3, hx3, hy3]; exact S4.out.swapped R.out (q + 1) (q) (by omega) (by omega)
          have c3a := S4.out.c1 R.out (by omega) (q + 1) (by omega)
          have c3b := S4.out.c1 R.out (by omega) (q) (by omega)
          have f3a := S4.out.f1 R.out (by omega) (q + 1) (by omega)
          have f3b := S4.out.f1 R.out (by omega) (q) (by omega)
          obtain ⟨u3, c3c⟩ := S4.out.c2 R.out (by omega) (q + 1) (q) (by omega) (by omega) (enc y3)
          rw [← hiN3, ← hjN3] at c3c
          rw [← hx3, ← hiN3] at c3a
          rw [← hy3, ← hjN3] at c3b
          rw [← hiN3] at f3a
          rw [← hjN3] at f3b
          clear S4 hx3 hy3 hiN3 hjN3
          go_wp2_with fail
          go_big_region
          clear c3a c3b c3c f3a f3b
          generalize ((wr.setCell ⟨blk, off + iN3, none⟩ (enc y3)).setCell ⟨blk, off + jN3, none⟩ (enc x3)).drew = w2 at S4' ⊢
          clear ea3 ec3 pa3 ba3 ra3 pc3 bc3 rc3
          go_wp2
          go_roundg (q - hi)
          case measure => omega
          case rel => exact ⟨q, by first | rfl | go_num | (congr 1; omega), by omega, by omega, by omega, _, S4'.out, permIn_trans _ _ _ _ _ HP.out (swp_permIn _ a (m + 1) _ _ (by omega) (by omega) (by omega) (by omega) (by omega)), fun x => bub_down d dk m q HF.out hk2 (by omega) x⟩
        · have hkz : ¬ (hi : Int) < (k : Int) := by omega
          go_wp2
          go_end0
          obtain rfl : hi = k := by omega
          exact ⟨rfl, dk, S4.out, HP.out, one_behind hO HA.out h1 h3 HLO.out HHI.out HF.out⟩
end Go.Proofs.YtgjbnmobhafajaaGreatDoor
end
section
namespace Go.Proofs.YtgjbnmobhafajaaGreatDoor
open Go.Shelf Go.RowKit Go.Lib Go.Sort
variable {α : Type} [Inhabited α]
set_option linter.unusedVariables false
def SymSaid (enc : α → Value) (cf : α → α → Int) (g : Nat) (cb : Array Value) (blk off cap : Nat) (w0 : World) (d0 : Array α) (N : Nat) : Prop :=
  ∀ (za zm zb : Int) (a m b : Nat), za = a → zm = m → zb = b → ∀ (d : Array α) (w : World), b - a < N → d0.size = d.size → SW enc w0 blk off d w → a < m → m < b → b ≤ d.size → d.size < 4611686018427387904 → SortedIn (ltOf cf) a m d → SortedIn (ltOf cf) m b d →
    Calls Tryz.prog 57 #[.slice (some ⟨blk, off, none⟩) d.size cap, .int .i64 za, .int .i64 zm, .int .i64 zb, .func (.func g) #[] cb] w (SymPost enc cf w0 blk off a b d)
set_option maxHeartbeats 8000000 in
set_option maxRecDepth 1000000 in
theorem sym_more (enc : α → Value) (cf : α → α → Int) (hO : SWO (ltOf cf)) (g : Nat) (cb : Array Value) (blk off cap : Nat) (za zm zb : Int) (a m b : Nat) (hza : za = a) (hzm : zm = m) (hzb : zb = b) (d0 d : Array α) (w0 w : World)
    (eg : ∀ args w, (callFunc g args).run Tryz.prog w = .ok (.enter g args) w) (hcmp : CmpLays1 Tryz.prog g cb enc cf blk off d0.size w0) (R0 : Row1 enc w0 blk off d0) (hs : d0.size = d.size) (S : SW enc w0 blk off d w) (ham : a < m) (hmb : m < b) (hb : b ≤ d.size) (hsz : d.size < 4611686018427387904)
    (sa : SortedIn (ltOf cf) a m d) (sb : SortedIn (ltOf cf) m b d) (h1 : m ≠ a + 1) (h2 : b ≠ m + 1) (mid : Nat) (hmid : mid = (a + b) / 2) (hside : mid < m)
    (IH0 : SymSaid enc cf g cb blk off cap w0 d0 (b - a)) :
    Calls Tryz.prog 57 #[.slice (some ⟨blk, off, none⟩) d.size cap, .int .i64 za, .int .i64 zm, .int .i64 zb, .func (.func g) #[] cb] w (SymPost enc cf w0 blk off a b d) := by
  subst hza hzm hzb
  have mixed : Tryz.prog.follows .mixedOrders = true := by kernel_rfl
  have hcl0 := R0.hO.cells
  simp only [Value.cells] at hcl0
  have hst := R0.hO.store Tryz.prog
  have R := Lib.hid R0
  have HC := Lib.hid hcmp
  have HS := Lib.hid S
  have HA := Lib.hid sa
  have HBs := Lib.hid sb
  have HZ := Lib.hid hs
  have hzle : d0.size ≤ d.size := by omega
  have hzge : d.size ≤ d0.size := by omega
  clear R0 hcmp S sa sb hs
  have IH := Lib.hid IH0
  clear IH0
  unfold SymSaid at IH
  have q1 : a < mid := by omega
  have q2 : mid < b := by omega
  have q3 : a + b ≤ 2 * mid + 1 := by omega
  have q4 : 2 * mid ≤ a + b := by omega
  have hmz : ((a : Int) + (b : Int)) / 2 = (mid : Int) := by omega
  have HMZ := Lib.hid hmz
  clear hmz hmid
  go_enter Tryz.func57, Tryz.ntmps57
  have hd0 : ((m : Int) - (a : Int) == 1) = false := by rw [beq_eq_false_iff_ne]; omega
  have hd2 : ((b : Int) - (m : Int) == 1) = false := by rw [beq_eq_false_iff_ne]; omega
  go_upto_region 25 with fail
  rw [HMZ.out]
  have gm : (mid : Int) < (m : Int) := by omega
  go_wp2
  go_loopg [20, 21, 23] (b - a) (fun kx s20 s21 s23 wr => ∃ (s r : Nat), s20 = .int .i64 s ∧ s21 = .int .i64 r ∧ mid + m - b ≤ s ∧ s ≤ r ∧ r ≤ mid ∧ r - s ≤ kx ∧ Hid (s = mid + m - b ∨ ltOf cf d[mid + m - 1 - (s - 1)]! d[s - 1]! = false) ∧ Hid (r = mid ∨ ltOf cf d[mid + m - 1 - r]! d[r]! = true) ∧ Aside (SW enc w0 blk off d wr))
  case atStart => exact ⟨mid + m - b, mid, by first | rfl | (congr 1; omega), rfl, by omega, by omega, by omega, by omega, .inl rfl, .inl rfl, HS.out⟩
  case round =>
    clear HS hd0 hd2 gm
    obtain ⟨s, r, rfl, rfl, h3, h4, h5, hkx, HLO, HHI, S0⟩ := hrel
    by_cases hlt : s < r
    · have hltz : (s : Int) < (r : Int) := by omega
      obtain ⟨c, hc⟩ : ∃ c, c = (s + r) / 2 := ⟨_, rfl⟩
      have hc1 : s ≤ c := by omega
      have hc2 : c < r := by omega
      have hcz : ((s : Int) + (r : Int)) / 2 = (c : Int) := by omega
      have HCC := Lib.hid hcz
      clear hc hcz
      cases hlv0 : ltOf cf d[mid + m - 1 - c]! d[c]! with
      | true =>
        have hlv := Lib.hid hlv0
        clear hlv0
        have pn1 : (c : Int) ≤ (mid : Int) + (m : Int) - 1 := by omega
        go_upto_region 35 with fail
        rw [HCC.out]
        obtain ⟨iN1, hiN1⟩ : ∃ q_, q_ = mid + m - 1 - c := ⟨_, rfl⟩
        obtain ⟨jN1, hjN1⟩ : ∃ q_, q_ = c := ⟨_, rfl⟩
        have ea1 : ((mid : Int) + (m : Int) - 1 - (c : Int)).toNat = iN1 := by omega
        have pa1 : (0 : Int) ≤ (mid : Int) + (m : Int) - 1 - (c : Int) := by omega
        have ba1 : (mid : Int) + (m : Int) - 1 - (c : Int) < (d.size : Int) := by omega
        have ra1 : IntKind.i64.wrap ((mid : Int) + (m : Int) - 1 - (c : Int)) = (mid : Int) + (m : Int) - 1 - (c : Int) := by rw [IntKind.wrap_i64]; omega
        have ec1 : ((c : Int)).toNat = jN1 := by omega
        have pc1 : (0 : Int) ≤ (c : Int) := by omega
        have bc1 : (c : Int) < (d.size : Int) := by omega
        have rc1 : IntKind.i64.wrap ((c : Int)) = (c : Int) := by rw [IntKind.wrap_i64]; omega
        obtain ⟨x1, hx1⟩ : ∃ x, x = d[mid + m - 1 - c]! := ⟨_, rfl⟩
        obtain ⟨y1, hy1⟩ : ∃ x, x = d[c]! := ⟨_, rfl⟩
        have l1a := S0.out.cl R.out (by omega) (mid + m - 1 - c) (by omega)
        have l1b := S0.out.cl R.out (by omega) (c) (by omega)
        rw [← hx1, ← hiN1] at l1a
        rw [← hy1, ← hjN1] at l1b
        have hc1 := S0.out.cmp HC.out (by omega) x1 y1
        have hv1 : cf x1 y1 < 0 := by rw [hx1, hy1]; exact of_decide_eq_true hlv.out
        have hd1 : decide (cf x1 y1 < 0) = true := decide_eq_true hv1
        clear hx1 hy1 hiN1 hjN1
        go_wp2_with fail
        go_quiet_grown (first | (go_at_fn g; refine Calls.grown_of (hc1 _ _)))
        have S0' : Aside (SW enc w0 blk off d (grow (wr.drewN nq) osq)) := S0.out.grown nq osq
        clear l1a l1b hc1 S0
        generalize grow (wr.drewN nq) osq = w2 at S0' ⊢
        clear nq osq
        clear ea1 ec1 pa1 ba1 ra1 pc1 bc1 rc1 hv1 hd1
        go_wp2
        go_roundg (c - s)
        case measure => omega
        case rel => exact ⟨s, c, rfl, rfl, by omega, by omega, by omega, by omega, HLO, .inr hlv.out, S0'⟩
      | false =>
        have hlv := Lib.hid hlv0
        clear hlv0
        have pn1 : (c : Int) ≤ (mid : Int) + (m : Int) - 1 := by omega
        go_upto_region 35 with fail
        rw [HCC.out]
        obtain ⟨iN2, hiN2⟩ : ∃ q_, q_ = mid + m - 1 - c := ⟨_, rfl⟩
        obtain ⟨jN2, hjN2⟩ : ∃ q_, q_ = c := ⟨_, rfl⟩
        have ea2 : ((mid : Int) + (m : Int) - 1 - (c : Int)).toNat = iN2 := by omega
        have pa2 : (0 : Int) ≤ (mid : Int) + (m : Int) - 1 - (c : Int) := by omega
        have ba2 : (mid : Int) + (m : Int) - 1 - (c : Int) < (d.size : Int) := by omega
        have ra2 : IntKind.i64.wrap ((mid : Int) + (m : Int) - 1 - (c : Int)) = (mid : Int) + (m : Int) - 1 - (c : Int) := by rw [IntKind.wrap_i64]; omega
        have ec2 : ((c : Int)).toNat = jN2 := by omega
        have pc2 : (0 : Int) ≤ (c : Int) := by omega
        have bc2 : (c : Int) < (d.size : Int) := by omega
        have rc2 : IntKind.i64.wrap ((c : Int)) = (c : Int) := by rw [IntKind.wrap_i64]; omega
        obtain ⟨x2, hx2⟩ : ∃ x, x = d[mid + m - 1 - c]! := ⟨_, rfl⟩
        obtain ⟨y2, hy2⟩ : ∃ x, x = d[c]! := ⟨_, rfl⟩
        have l2a := S0.out.cl R.out (by omega) (mid + m - 1 - c) (by omega)
        have l2b := S0.out.cl R.out (by omega) (c) (by omega)
        rw [← hx2, ← hiN2] at l2a
        rw [← hy2, ← hjN2] at l2b
        have hc2 := S0.out.cmp HC.out (by omega) x2 y2
        have hv2 : ¬ cf x2 y2 < 0 := by rw [hx2, hy2]; exact of_decide_eq_false hlv.out
        have hd2 : decide (cf x2 y2 < 0) = false := decide_eq_false hv2
        clear hx2 hy2 hiN2 hjN2
        go_wp2_with fail
        go_quiet_grown (first | (go_at_fn g; refine Calls.grown_of (hc2 _ _)))
        have S0' : Aside (SW enc w0 blk off d (grow (wr.drewN nq) osq)) := S0.out.grown nq osq
        clear l2a l2b hc2 S0
        generalize grow (wr.drewN nq) osq = w2 at S0' ⊢
        clear nq osq
        clear ea2 ec2 pa2 ba2 ra2 pc2 bc2 rc2 hv2 hd2
        go_wp2
        go_roundg (r - (c + 1))
        case measure => omega
        case rel => exact ⟨c + 1, r, by go_num, rfl, by omega, by omega, by omega, by omega, .inr (by simpa using hlv.out), HHI, S0'⟩
    · have hltz : ¬ (s : Int) < (r : Int) := by omega
      obtain rfl : s = r := by omega
      obtain ⟨e, he⟩ : ∃ e, e = mid + m - s := ⟨_, rfl⟩
      have e1 : m ≤ e := by omega
      have e2 : e ≤ b := by omega
      have e3 : e + s = mid + m := by omega
      have CR : Hid (Cross (ltOf cf) a m b s e d) := by
        refine ⟨by omega, by omega, e1, e2, ?_, ?_⟩
        · rcases HLO.out with h | h
          · exact .inr (.inl (by omega))
          · by_cases hs0 : s = 0
            · exact .inl (by omega)
            · exact .inr (.inr (by rw [show mid + m - 1 - (s - 1) = e from by omega] at h; exact h))
        · rcases HHI.out with h | h
          · exact .inr (.inl (by omega))
          · exact .inr (.inr (by rw [show mid + m - 1 - s = e - 1 from by omega] at h; exact h))
      have HMID : Hid (s + (e - m) = mid) := Lib.hid (by omega)
      clear he HLO HHI
      by_cases i1 : s < m
      · by_cases i2 : m < e
        · have g1 : (s : Int) < (m : Int) := by omega
          have g2 : (m : Int) < (mid : Int) + (m : Int) - (s : Int) := by omega
          go_wp2_with fail
          refine (rotate.calls_f81 enc _ blk off cap _ _ _ s m e rfl rfl (by omega) d0 d w0 _ R.out HZ.out S0.out (by omega) (by omega) (by omega) hsz).mono ?_
          rintro e1 w1 ⟨rfl, d1, hS1, hP1, hF1⟩
          have S1 := Lib.hid hS1
          have P1 := Lib.hid (permIn_mono' (a' := a) (b' := b) (by omega) (by omega) hb hP1)
          have F1 := Lib.hid hF1
          clear hS1 hP1 hF1 S0
          have T1 : Hid _ := Lib.hid (cross_runs CR.out HA.out HBs.out F1.out)
          have X1 : Hid (∀ p q, a ≤ p → p < mid → mid ≤ q → q < b → ltOf cf d1[q]! d1[p]! = false) := Lib.hid (by have := cross_halves hO CR.out HA.out HBs.out F1.out; rw [HMID.out] at this; exact this)
          have T1' := T1.out
          rw [HMID.out] at T1'
          have T1 := Lib.hid (show SortedIn (ltOf cf) a s d1 ∧ SortedIn (ltOf cf) s (s + (e - m)) d1 ∧ SortedIn (ltOf cf) mid e d1 ∧ SortedIn (ltOf cf) e b d1 from ⟨T1'.1, by rw [HMID.out]; exact T1'.2.1, T1'.2.2.1, T1'.2.2.2⟩)
          clear T1' F1
          have D1Z : Hid (d1.size = d.size) := Lib.hid P1.out.1
          by_cases j1 : a < s
          · by_cases j2 : s < mid
            · have g3 : (a : Int) < (s : Int) := by omega
              have g4 : (s : Int) < (mid : Int) := by omega
              go_wp2_with fail
              rw [← D1Z.out]
              refine (IH.out _ _ _ a s mid rfl rfl rfl d1 _ (by omega) (by rw [D1Z.out]; exact HZ.out) S1.out (by omega) (by omega) (by rw [D1Z.out]; omega) (by rw [D1Z.out]; exact hsz) T1.out.1 (by rw [← HMID.out]; exact T1.out.2.1)).mono ?_
              rintro e2 w2 ⟨rfl, d2, hS2, hP2, hs2⟩
              have S2 := Lib.hid hS2
              have P12 := Lib.hid hP2
              have Q2 := Lib.hid hs2
              clear hS2 hP2 hs2
              rw [D1Z.out]
              have P2 := Lib.hid (permIn_trans _ _ _ _ _ P1.out (permIn_mono' (a' := a) (b' := b) (Nat.le_refl _) (by omega) (by rw [D1Z.out]; exact hb) P12.out))
              have T2 : Hid (SortedIn (ltOf cf) mid e d2 ∧ SortedIn (ltOf cf) e b d2) := Lib.hid ⟨fun p q h1 h2 h3 => by rw [P12.out.2.1 p (by omega), P12.out.2.1 q (by omega)]; exact T1.out.2.2.1 p q (by omega) h2 h3, fun p q h1 h2 h3 => by rw [P12.out.2.1 p (by omega), P12.out.2.1 q (by omega)]; exact T1.out.2.2.2 p q h1 h2 h3⟩
              have JOIN : Hid (∀ d3, PermIn mid b d2 d3 → SortedIn (ltOf cf) mid b d3 → SortedIn (ltOf cf) a b d3) := Lib.hid (fun d3 p3 q3 => join_halves (by rw [D1Z.out]; exact hb) P12.out p3 Q2.out q3 X1.out)
              have D2Z : Hid (d2.size = d.size) := Lib.hid (by rw [P12.out.1]; exact D1Z.out)
              clear P12 Q2
              by_cases k1 : mid < e
              · by_cases k2 : e < b
                · have g5 : (mid : Int) < (mid : Int) + (m : Int) - (s : Int) := by omega
                  have g6 : (mid : Int) + (m : Int) - (s : Int) < (b : Int) := by omega
                  go_wp2_with fail
                  rw [← D2Z.out]
                  refine (IH.out _ _ _ mid e b rfl (by omega) rfl d2 _ (by omega) (by rw [D2Z.out]; exact HZ.out) S2.out (by omega) (by omega) (by rw [D2Z.out]; omega) (by rw [D2Z.out]; exact hsz) (T2.out.1) (T2.out.2)).mono ?_
                  rintro e3 w3 ⟨rfl, d3, hS3, hP3, hs3⟩
                  have S3 := Lib.hid hS3
                  have P3 := Lib.hid hP3
                  have Q3 := Lib.hid hs3
                  clear hS3 hP3 hs3
                  go_wp2
                  all_goals go_end0
                  all_goals exact ⟨rfl, d3, S3.out, permIn_trans _ _ _ _ _ P2.out (permIn_mono' (by omega) (Nat.le_refl _) (by rw [D2Z.out]; exact hb) P3.out), JOIN.out d3 P3.out Q3.out⟩
                · have g5 : (mid : Int) < (mid : Int) + (m : Int) - (s : Int) := by omega
                  have g6 : ¬ (mid : Int) + (m : Int) - (s : Int) < (b : Int) := by omega
                  go_wp2
                  all_goals go_end0
                  all_goals exact ⟨rfl, d2, S2.out, P2.out, JOIN.out d2 (permIn_refl _ _ _) (by have := T2.out.1; rw [show e = b from by omega] at this; exact this)⟩
              · have g5 : ¬ (mid : Int) < (mid : Int) + (m : Int) - (s : Int) := by omega
                go_wp2
                all_goals go_end0
                all_goals exact ⟨rfl, d2, S2.out, P2.out, JOIN.out d2 (permIn_refl _ _ _) (by have := T2.out.2; rw [show e = mid from by omega] at this; exact this)⟩
            · have g3 : (a : Int) < (s : Int) := by omega
              have g4 : ¬ (s : Int) < (mid : Int) := by omega
              have P12 : Hid (PermIn a mid d1 d1) := Lib.hid (permIn_refl _ _ _)
              have Q2 : Hid (SortedIn (ltOf cf) a mid d1) := Lib.hid (by have := T1.out.1; rw [show s = mid from by omega] at this; exact this)
              have S2 := S1
              obtain ⟨d2, E2, P12, Q2, S2⟩ : ∃ d2, Hid (d2 = d1) ∧ Hid (PermIn a mid d1 d2) ∧ Hid (SortedIn (ltOf cf) a mid d2) ∧ Hid (SW enc w0 blk off d2 _) := ⟨_, Lib.hid rfl, P12, Q2, S2⟩
              have P2 := Lib.hid (permIn_trans _ _ _ _ _ P1.out (permIn_mono' (a' := a) (b' := b) (Nat.le_refl _) (by omega) (by rw [D1Z.out]; exact hb) P12.out))
              have T2 : Hid (SortedIn (ltOf cf) mid e d2 ∧ SortedIn (ltOf cf) e b d2) := Lib.hid ⟨fun p q h1 h2 h3 => by rw [P12.out.2.1 p (by omega), P12.out.2.1 q (by omega)]; exact T1.out.2.2.1 p q (by omega) h2 h3, fun p q h1 h2 h3 => by rw [P12.out.2.1 p (by omega), P12.out.2.1 q (by omega)]; exact T1.out.2.2.2 p q h1 h2 h3⟩
              have JOIN : Hid (∀ d3, PermIn mid b d2 d3 → SortedIn (ltOf cf) mid b d3 → SortedIn (ltOf cf) a b d3) := Lib.hid (fun d3 p3 q3 => join_halves (by rw [D1Z.out]; exact hb) P12.out p3 Q2.out q3 X1.out)
              have D2Z : Hid (d2.size = d.size) := Lib.hid (by rw [P12.out.1]; exact D1Z.out)
              clear P12 Q2
              by_cases k1 : mid < e
              · by_cases k2 : e < b
                · have g5 : (mid : Int) < (mid : Int) + (m : Int) - (s : Int) := by omega
                  have g6 : (mid : Int) + (m : Int) - (s : Int) < (b : Int) := by omega
                  go_wp2_with fail
                  rw [← D2Z.out]
                  refine (IH.out _ _ _ mid e b rfl (by omega) rfl d2 _ (by omega) (by rw [D2Z.out]; exact HZ.out) S2.out (by omega) (by omega) (by rw [D2Z.out]; omega) (by rw [D2Z.out]; exact hsz) (T2.out.1) (T2.out.2)).mono ?_
                  rintro e3 w3 ⟨rfl, d3, hS3, hP3, hs3⟩
                  have S3 := Lib.hid hS3
                  have P3 := Lib.hid hP3
                  have Q3 := Lib.hid hs3
                  clear hS3 hP3 hs3
                  go_wp2
                  all_goals go_end0
                  all_goals exact ⟨rfl, d3, S3.out, permIn_trans _ _ _ _ _ P2.out (permIn_mono' (by omega) (Nat.le_refl _) (by rw [D2Z.out]; exact hb) P3.out), JOIN.out d3 P3.out Q3.out⟩
                · have g5 : (mid : Int) < (mid : Int) + (m : Int) - (s : Int) := by omega
                  have g6 : ¬ (mid : Int) + (m : Int) - (s : Int) < (b : Int) := by omega
                  go_wp2
                  all_goals go_end0
                  all_goals exact ⟨rfl, d2, S2.out, P2.out, JOIN.out d2 (permIn_refl _ _ _) (by have := T2.out.1; rw [show e = b from by omega] at this; exact this)⟩
              · have g5 : ¬ (mid : Int) < (mid : Int) + (m : Int) - (s : Int) := by omega
                go_wp2
                all_goals go_end0
                all_goals exact ⟨rfl, d2, S2.out, P2.out, JOIN.out d2 (permIn_refl _ _ _) (by have := T2.out.2; rw [show e = mid from by omega] at this; exact this)⟩
          · have g3 : ¬ (a : Int) < (s : Int) := by omega
            have P12 : Hid (PermIn a mid d1 d1) := Lib.hid (permIn_refl _ _ _)
            have Q2 : Hid (SortedIn (ltOf cf) a mid d1) := Lib.hid (by have := T1.out.2.1; rw [HMID.out, show s = a from by omega] at this; exact this)
            have S2 := S1
            obtain ⟨d2, E2, P12, Q2, S2⟩ : ∃ d2, Hid (d2 = d1) ∧ Hid (PermIn a mid d1 d2) ∧ Hid (SortedIn (ltOf cf) a mid d2) ∧ Hid (SW enc w0 blk off d2 _) := ⟨_, Lib.hid rfl, P12, Q2, S2⟩
            have P2 := Lib.hid (permIn_trans _ _ _ _ _ P1.out (permIn_mono' (a' := a) (b' := b) (Nat.le_refl _) (by omega) (by rw [D1Z.out]; exact hb) P12.out))
            have T2 : Hid (SortedIn (ltOf cf) mid e d2 ∧ SortedIn (ltOf cf) e b d2) := Lib.hid ⟨fun p q h1 h2 h3 => by rw [P12.out.2.1 p (by omega), P12.out.2.1 q (by omega)]; exact T1.out.2.2.1 p q (by omega) h2 h3, fun p q h1 h2 h3 => by rw [P12.out.2.1 p (by omega), P12.out.2.1 q (by omega)]; exact T1.out.2.2.2 p q h1 h2 h3⟩
            have JOIN : Hid (∀ d3, PermIn mid b d2 d3 → SortedIn (ltOf cf) mid b d3 → SortedIn (ltOf cf) a b d3) := Lib.hid (fun d3 p3 q3 => join_halves (by rw [D1Z.out]; exact hb) P12.out p3 Q2.out q3 X1.out)
            have D2Z : Hid (d2.size = d.size) := Lib.hid (by rw [P12.out.1]; exact D1Z.out)
            clear P12 Q2
            by_cases k1 : mid < e
            · by_cases k2 : e < b
              · have g5 : (mid : Int) < (mid : Int) + (m : Int) - (s : Int) := by omega
                have g6 : (mid : Int) + (m : Int) - (s : Int) < (b : Int) := by omega
                go_wp2_with fail
                rw [← D2Z.out]
                refine (IH.out _ _ _ mid e b rfl (by omega) rfl d2 _ (by omega) (by rw [D2Z.out]; exact HZ.out) S2.out (by omega) (by omega) (by rw [D2Z.out]; omega) (by rw [D2Z.out]; exact hsz) (T2.out.1) (T2.out.2)).mono ?_
                rintro e3 w3 ⟨rfl, d3, hS3, hP3, hs3⟩
                have S3 := Lib.hid hS3
                have P3 := Lib.hid hP3
                have Q3 := Lib.hid hs3
                clear hS3 hP3 hs3
                go_wp2
                all_goals go_end0
                all_goals exact ⟨rfl, d3, S3.out, permIn_trans _ _ _ _ _ P2.out (permIn_mono' (by omega) (Nat.le_refl _) (by rw [D2Z.out]; exact hb) P3.out), JOIN.out d3 P3.out Q3.out⟩
              · have g5 : (mid : Int) < (mid : Int) + (m : Int) - (s : Int) := by omega
                have g6 : ¬ (mid : Int) + (m : Int) - (s : Int) < (b : Int) := by omega
                go_wp2
                all_goals go_end0
                all_goals exact ⟨rfl, d2, S2.out, P2.out, JOIN.out d2 (permIn_refl _ _ _) (by have := T2.out.1; rw [show e = b from by omega] at this; exact this)⟩
            · have g5 : ¬ (mid : Int) < (mid : Int) + (m : Int) - (s : Int) := by omega
              go_wp2
              all_goals go_end0
              all_goals exact ⟨rfl, d2, S2.out, P2.out, JOIN.out d2 (permIn_refl _ _ _) (by have := T2.out.2; rw [show e = mid from by omega] at this; exact this)⟩
        · have g1 : (s : Int) < (m : Int) := by omega
          have g2 : ¬ (m : Int) < (mid : Int) + (m : Int) - (s : Int) := by omega
          have P1 : Hid (PermIn a b d d) := Lib.hid (permIn_refl _ _ _)
          have F1 : Hid (∀ x, d[x]! = rotF s m e d x) := Lib.hid (fun x => by rw [rotF_id _ _ _ _ (by omega)])
          obtain ⟨d1, E1, P1, F1, S1⟩ : ∃ d1, Hid (d1 = d) ∧ Hid (PermIn a b d d1) ∧ Hid (∀ x, d1[x]! = rotF s m e d x) ∧ Hid (SW enc w0 blk off d1 _) := ⟨_, Lib.hid rfl, P1, F1, Lib.hid S0.out⟩
          clear S0
          have T1 : Hid _ := Lib.hid (cross_runs CR.out HA.out HBs.out F1.out)
          have X1 : Hid (∀ p q, a ≤ p → p < mid → mid ≤ q → q < b → ltOf cf d1[q]! d1[p]! = false) := Lib.hid (by have := cross_halves hO CR.out HA.out HBs.out F1.out; rw [HMID.out] at this; exact this)
          have T1' := T1.out
          rw [HMID.out] at T1'
          have T1 := Lib.hid (show SortedIn (ltOf cf) a s d1 ∧ SortedIn (ltOf cf) s (s + (e - m)) d1 ∧ SortedIn (ltOf cf) mid e d1 ∧ SortedIn (ltOf cf) e b d1 from ⟨T1'.1, by rw [HMID.out]; exact T1'.2.1, T1'.2.2.1, T1'.2.2.2⟩)
          clear T1' F1
          have D1Z : Hid (d1.size = d.size) := Lib.hid P1.out.1
          by_cases j1 : a < s
          · by_cases j2 : s < mid
            · have g3 : (a : Int) < (s : Int) := by omega
              have g4 : (s : Int) < (mid : Int) := by omega
              go_wp2_with fail
              rw [← D1Z.out]
              refine (IH.out _ _ _ a s mid rfl rfl rfl d1 _ (by omega) (by rw [D1Z.out]; exact HZ.out) S1.out (by omega) (by omega) (by rw [D1Z.out]; omega) (by rw [D1Z.out]; exact hsz) T1.out.1 (by rw [← HMID.out]; exact T1.out.2.1)).mono ?_
              rintro e2 w2 ⟨rfl, d2, hS2, hP2, hs2⟩
              have S2 := Lib.hid hS2
              have P12 := Lib.hid hP2
              have Q2 := Lib.hid hs2
              clear hS2 hP2 hs2
              rw [D1Z.out]
              have P2 := Lib.hid (permIn_trans _ _ _ _ _ P1.out (permIn_mono' (a' := a) (b' := b) (Nat.le_refl _) (by omega) (by rw [D1Z.out]; exact hb) P12.out))
              have T2 : Hid (SortedIn (ltOf cf) mid e d2 ∧ SortedIn (ltOf cf) e b d2) := Lib.hid ⟨fun p q h1 h2 h3 => by rw [P12.out.2.1 p (by omega), P12.out.2.1 q (by omega)]; exact T1.out.2.2.1 p q (by omega) h2 h3, fun p q h1 h2 h3 => by rw [P12.out.2.1 p (by omega), P12.out.2.1 q (by omega)]; exact T1.out.2.2.2 p q h1 h2 h3⟩
              have JOIN : Hid (∀ d3, PermIn mid b d2 d3 → SortedIn (ltOf cf) mid b d3 → SortedIn (ltOf cf) a b d3) := Lib.hid (fun d3 p3 q3 => join_halves (by rw [D1Z.out]; exact hb) P12.out p3 Q2.out q3 X1.out)
              have D2Z : Hid (d2.size = d.size) := Lib.hid (by rw [P12.out.1]; exact D1Z.out)
              clear P12 Q2
              by_cases k1 : mid < e
              · by_cases k2 : e < b
                · have g5 : (mid : Int) < (mid : Int) + (m : Int) - (s : Int) := by omega
                  have g6 : (mid : Int) + (m : Int) - (s : Int) < (b : Int) := by omega
                  go_wp2_with fail
                  rw [← D2Z.out]
                  refine (IH.out _ _ _ mid e b rfl (by omega) rfl d2 _ (by omega) (by rw [D2Z.out]; exact HZ.out) S2.out (by omega) (by omega) (by rw [D2Z.out]; omega) (by rw [D2Z.out]; exact hsz) (T2.out.1) (T2.out.2)).mono ?_
                  rintro e3 w3 ⟨rfl, d3, hS3, hP3, hs3⟩
                  have S3 := Lib.hid hS3
                  have P3 := Lib.hid hP3
                  have Q3 := Lib.hid hs3
                  clear hS3 hP3 hs3
                  go_wp2
                  all_goals go_end0
                  all_goals exact ⟨rfl, d3, S3.out, permIn_trans _ _ _ _ _ P2.out (permIn_mono' (by omega) (Nat.le_refl _) (by rw [D2Z.out]; exact hb) P3.out), JOIN.out d3 P3.out Q3.out⟩
                · have g5 : (mid : Int) < (mid : Int) + (m : Int) - (s : Int) := by omega
                  have g6 : ¬ (mid : Int) + (m : Int) - (s : Int) < (b : Int) := by omega
                  go_wp2
                  all_goals go_end0
                  all_goals exact ⟨rfl, d2, S2.out, P2.out, JOIN.out d2 (permIn_refl _ _ _) (by have := T2.out.1; rw [show e = b from by omega] at this; exact this)⟩
              · have g5 : ¬ (mid : Int) < (mid : Int) + (m : Int) - (s : Int) := by omega
                go_wp2
                all_goals go_end0
                all_goals exact ⟨rfl, d2, S2.out, P2.out, JOIN.out d2 (permIn_refl _ _ _) (by have := T2.out.2; rw [show e = mid from by omega] at this; exact this)⟩
            · have g3 : (a : Int) < (s : Int) := by omega
              have g4 : ¬ (s : Int) < (mid : Int) := by omega
              have P12 : Hid (PermIn a mid d1 d1) := Lib.hid (permIn_refl _ _ _)
              have Q2 : Hid (SortedIn (ltOf cf) a mid d1) := Lib.hid (by have := T1.out.1; rw [show s = mid from by omega] at this; exact this)
              have S2 := S1
              obtain ⟨d2, E2, P12, Q2, S2⟩ : ∃ d2, Hid (d2 = d1) ∧ Hid (PermIn a mid d1 d2) ∧ Hid (SortedIn (ltOf cf) a mid d2) ∧ Hid (SW enc w0 blk off d2 _) := ⟨_, Lib.hid rfl, P12, Q2, S2⟩
              have P2 := Lib.hid (permIn_trans _ _ _ _ _ P1.out (permIn_mono' (a' := a) (b' := b) (Nat.le_refl _) (by omega) (by rw [D1Z.out]; exact hb) P12.out))
              have T2 : Hid (SortedIn (ltOf cf) mid e d2 ∧ SortedIn (ltOf cf) e b d2) := Lib.hid ⟨fun p q h1 h2 h3 => by rw [P12.out.2.1 p (by omega), P12.out.2.1 q (by omega)]; exact T1.out.2.2.1 p q (by omega) h2 h3, fun p q h1 h2 h3 => by rw [P12.out.2.1 p (by omega), P12.out.2.1 q (by omega)]; exact T1.out.2.2.2 p q h1 h2 h3⟩
              have JOIN : Hid (∀ d3, PermIn mid b d2 d3 → SortedIn (ltOf cf) mid b d3 → SortedIn (ltOf cf) a b d3) := Lib.hid (fun d3 p3 q3 => join_halves (by rw [D1Z.out]; exact hb) P12.out p3 Q2.out q3 X1.out)
              have D2Z : Hid (d2.size = d.size) := Lib.hid (by rw [P12.out.1]; exact D1Z.out)
              clear P12 Q2
              by_cases k1 : mid < e
              · by_cases k2 : e < b
                · have g5 : (mid : Int) < (mid : Int) + (m : Int) - (s : Int) := by omega
                  have g6 : (mid : Int) + (m : Int) - (s : Int) < (b : Int) := by omega
                  go_wp2_with fail
                  rw [← D2Z.out]
                  refine (IH.out _ _ _ mid e b rfl (by omega) rfl d2 _ (by omega) (by rw [D2Z.out]; exact HZ.out) S2.out (by omega) (by omega) (by rw [D2Z.out]; omega) (by rw [D2Z.out]; exact hsz) (T2.out.1) (T2.out.2)).mono ?_
                  rintro e3 w3 ⟨rfl, d3, hS3, hP3, hs3⟩
                  have S3 := Lib.hid hS3
                  have P3 := Lib.hid hP3
                  have Q3 := Lib.hid hs3
                  clear hS3 hP3 hs3
                  go_wp2
                  all_goals go_end0
                  all_goals exact ⟨rfl, d3, S3.out, permIn_trans _ _ _ _ _ P2.out (permIn_mono' (by omega) (Nat.le_refl _) (by rw [D2Z.out]; exact hb) P3.out), JOIN.out d3 P3.out Q3.out⟩
                · have g5 : (mid : Int) < (mid : Int) + (m : Int) - (s : Int) := by omega
                  have g6 : ¬ (mid : Int) + (m : Int) - (s : Int) < (b : Int) := by omega
                  go_wp2
                  all_goals go_end0
                  all_goals exact ⟨rfl, d2, S2.out, P2.out, JOIN.out d2 (permIn_refl _ _ _) (by have := T2.out.1; rw [show e = b from by omega] at this; exact this)⟩
              · have g5 : ¬ (mid : Int) < (mid : Int) + (m : Int) - (s : Int) := by omega
                go_wp2
                all_goals go_end0
                all_goals exact ⟨rfl, d2, S2.out, P2.out, JOIN.out d2 (permIn_refl _ _ _) (by have := T2.out.2; rw [show e = mid from by omega] at this; exact this)⟩
          · have g3 : ¬ (a : Int) < (s : Int) := by omega
            have P12 : Hid (PermIn a mid d1 d1) := Lib.hid (permIn_refl _ _ _)
            have Q2 : Hid (SortedIn (ltOf cf) a mid d1) := Lib.hid (by have := T1.out.2.1; rw [HMID.out, show s = a from by omega] at this; exact this)
            have S2 := S1
            obtain ⟨d2, E2, P12, Q2, S2⟩ : ∃ d2, Hid (d2 = d1) ∧ Hid (PermIn a mid d1 d2) ∧ Hid (SortedIn (ltOf cf) a mid d2) ∧ Hid (SW enc w0 blk off d2 _) := ⟨_, Lib.hid rfl, P12, Q2, S2⟩
            have P2 := Lib.hid (permIn_trans _ _ _ _ _ P1.out (permIn_mono' (a' := a) (b' := b) (Nat.le_refl _) (by omega) (by rw [D1Z.out]; exact hb) P12.out))
            have T2 : Hid (SortedIn (ltOf cf) mid e d2 ∧ SortedIn (ltOf cf) e b d2) := Lib.hid ⟨fun p q h1 h2 h3 => by rw [P12.out.2.1 p (by omega), P12.out.2.1 q (by omega)]; exact T1.out.2.2.1 p q (by omega) h2 h3, fun p q h1 h2 h3 => by rw [P12.out.2.1 p (by omega), P12.out.2.1 q (by omega)]; exact T1.out.2.2.2 p q h1 h2 h3⟩
            have JOIN : Hid (∀ d3, PermIn mid b d2 d3 → SortedIn (ltOf cf) mid b d3 → SortedIn (ltOf cf) a b d3) := Lib.hid (fun d3 p3 q3 => join_halves (by rw [D1Z.out]; exact hb) P12.out p3 Q2.out q3 X1.out)
            have D2Z : Hid (d2.size = d.size) := Lib.hid (by rw [P12.out.1]; exact D1Z.out)
            clear P12 Q2
            by_cases k1 : mid < e
            · by_cases k2 : e < b
              · have g5 : (mid : Int) < (mid : Int) + (m : Int) - (s : Int) := by omega
                have g6 : (mid : Int) + (m : Int) - (s : Int) < (b : Int) := by omega
                go_wp2_with fail
                rw [← D2Z.out]
                refine (IH.out _ _ _ mid e b rfl (by omega) rfl d2 _ (by omega) (by rw [D2Z.out]; exact HZ.out) S2.out (by omega) (by omega) (by rw [D2Z.out]; omega) (by rw [D2Z.out]; exact hsz) (T2.out.1) (T2.out.2)).mono ?_
                rintro e3 w3 ⟨rfl, d3, hS3, hP3, hs3⟩
                have S3 := Lib.hid hS3
                have P3 := Lib.hid hP3
                have Q3 := Lib.hid hs3
                clear hS3 hP3 hs3
                go_wp2
                all_goals go_end0
                all_goals exact ⟨rfl, d3, S3.out, permIn_trans _ _ _ _ _ P2.out (permIn_mono' (by omega) (Nat.le_refl _) (by rw [D2Z.out]; exact hb) P3.out), JOIN.out d3 P3.out Q3.out⟩
              · have g5 : (mid : Int) < (mid : Int) + (m : Int) - (s : Int) := by omega
                have g6 : ¬ (mid : Int) + (m : Int) - (s : Int) < (b : Int) := by omega
                go_wp2
                all_goals go_end0
                all_goals exact ⟨rfl, d2, S2.out, P2.out, JOIN.out d2 (permIn_refl _ _ _) (by have := T2.out.1; rw [show e = b from by omega] at this; exact this)⟩
            · have g5 : ¬ (mid : Int) < (mid : Int) + (m : Int) - (s : Int) := by omega
              go_wp2
              all_goals go_end0
              all_goals exact ⟨rfl, d2, S2.out, P2.out, JOIN.out d2 (permIn_refl _ _ _) (by have := T2.out.2; rw [show e = mid from by omega] at this; exact this)⟩
      · have g1 : ¬ (s : Int) < (m : Int) := by omega
        have P1 : Hid (PermIn a b d d) := Lib.hid (permIn_refl _ _ _)
        have F1 : Hid (∀ x, d[x]! = rotF s m e d x) := Lib.hid (fun x => by rw [rotF_id _ _ _ _ (by omega)])
        obtain ⟨d1, E1, P1, F1, S1⟩ : ∃ d1, Hid (d1 = d) ∧ Hid (PermIn a b d d1) ∧ Hid (∀ x, d1[x]! = rotF s m e d x) ∧ Hid (SW enc w0 blk off d1 _) := ⟨_, Lib.hid rfl, P1, F1, Lib.hid S0.out⟩
        clear S0
        have T1 : Hid _ := Lib.hid (cross_runs CR.out HA.out HBs.out F1.out)
        have X1 : Hid (∀ p q, a ≤ p → p < mid → mid ≤ q → q < b → ltOf cf d1[q]! d1[p]! = false) := Lib.hid (by have := cross_halves hO CR.out HA.out HBs.out F1.out; rw [HMID.out] at this; exact this)
        have T1' := T1.out
        rw [HMID.out] at T1'
        have T1 := Lib.hid (show SortedIn (ltOf cf) a s d1 ∧ SortedIn (ltOf cf) s (s + (e - m)) d1 ∧ SortedIn (ltOf cf) mid e d1 ∧ SortedIn (ltOf cf) e b d1 from ⟨T1'.1, by rw [HMID.out]; exact T1'.2.1, T1'.2.2.1, T1'.2.2.2⟩)
        clear T1' F1
        have D1Z : Hid (d1.size = d.size) := Lib.hid P1.out.1
        by_cases j1 : a < s
        · by_cases j2 : s < mid
          · have g3 : (a : Int) < (s : Int) := by omega
            have g4 : (s : Int) < (mid : Int) := by omega
            go_wp2_with fail
            rw [← D1Z.out]
            refine (IH.out _ _ _ a s mid rfl rfl rfl d1 _ (by omega) (by rw [D1Z.out]; exact HZ.out) S1.out (by omega) (by omega) (by rw [D1Z.out]; omega) (by rw [D1Z.out]; exact hsz) T1.out.1 (by rw [← HMID.out]; exact T1.out.2.1)).mono ?_
            rintro e2 w2 ⟨rfl, d2, hS2, hP2, hs2⟩
            have S2 := Lib.hid hS2
            have P12 := Lib.hid hP2
            have Q2 := Lib.hid hs2
            clear hS2 hP2 hs2
            rw [D1Z.out]
            have P2 := Lib.hid (permIn_trans _ _ _ _ _ P1.out (permIn_mono' (a' := a) (b' := b) (Nat.le_refl _) (by omega) (by rw [D1Z.out]; exact hb) P12.out))
            have T2 : Hid (SortedIn (ltOf cf) mid e d2 ∧ SortedIn (ltOf cf) e b d2) := Lib.hid ⟨fun p q h1 h2 h3 => by rw [P12.out.2.1 p (by omega), P12.out.2.1 q (by omega)]; exact T1.out.2.2.1 p q (by omega) h2 h3, fun p q h1 h2 h3 => by rw [P12.out.2.1 p (by omega), P12.out.2.1 q (by omega)]; exact T1.out.2.2.2 p q h1 h2 h3⟩
            have JOIN : Hid (∀ d3, PermIn mid b d2 d3 → SortedIn (ltOf cf) mid b d3 → SortedIn (ltOf cf) a b d3) := Lib.hid (fun d3 p3 q3 => join_halves (by rw [D1Z.out]; exact hb) P12.out p3 Q2.out q3 X1.out)
            have D2Z : Hid (d2.size = d.size) := Lib.hid (by rw [P12.out.1]; exact D1Z.out)
            clear P12 Q2
            by_cases k1 : mid < e
            · by_cases k2 : e < b
              · have g5 : (mid : Int) < (mid : Int) + (m : Int) - (s : Int) := by omega
                have g6 : (mid : Int) + (m : Int) - (s : Int) < (b : Int) := by omega
                go_wp2_with fail
                rw [← D2Z.out]
                refine (IH.out _ _ _ mid e b rfl (by omega) rfl d2 _ (by omega) (by rw [D2Z.out]; exact HZ.out) S2.out (by omega) (by omega) (by rw [D2Z.out]; omega) (by rw [D2Z.out]; exact hsz) (T2.out.1) (T2.out.2)).mono ?_
                rintro e3 w3 ⟨rfl, d3, hS3, hP3, hs3⟩
                have S3 := Lib.hid hS3
                have P3 := Lib.hid hP3
                have Q3 := Lib.hid hs3
                clear hS3 hP3 hs3
                go_wp2
                all_goals go_end0
                all_goals exact ⟨rfl, d3, S3.out, permIn_trans _ _ _ _ _ P2.out (permIn_mono' (by omega) (Nat.le_refl _) (by rw [D2Z.out]; exact hb) P3.out), JOIN.out d3 P3.out Q3.out⟩
              · have g5 : (mid : Int) < (mid : Int) + (m : Int) - (s : Int) := by omega
                have g6 : ¬ (mid : Int) + (m : Int) - (s : Int) < (b : Int) := by omega
                go_wp2
                all_goals go_end0
                all_goals exact ⟨rfl, d2, S2.out, P2.out, JOIN.out d2 (permIn_refl _ _ _) (by have := T2.out.1; rw [show e = b from by omega] at this; exact this)⟩
            · have g5 : ¬ (mid : Int) < (mid : Int) + (m : Int) - (s : Int) := by omega
              go_wp2
              all_goals go_end0
              all_goals exact ⟨rfl, d2, S2.out, P2.out, JOIN.out d2 (permIn_refl _ _ _) (by have := T2.out.2; rw [show e = mid from by omega] at this; exact this)⟩
          · have g3 : (a : Int) < (s : Int) := by omega
            have g4 : ¬ (s : Int) < (mid : Int) := by omega
            have P12 : Hid (PermIn a mid d1 d1) := Lib.hid (permIn_refl _ _ _)
            have Q2 : Hid (SortedIn (ltOf cf) a mid d1) := Lib.hid (by have := T1.out.1; rw [show s = mid from by omega] at this; exact this)
            have S2 := S1
            obtain ⟨d2, E2, P12, Q2, S2⟩ : ∃ d2, Hid (d2 = d1) ∧ Hid (PermIn a mid d1 d2) ∧ Hid (SortedIn (ltOf cf) a mid d2) ∧ Hid (SW enc w0 blk off d2 _) := ⟨_, Lib.hid rfl, P12, Q2, S2⟩
            have P2 := Lib.hid (permIn_trans _ _ _ _ _ P1.out (permIn_mono' (a' := a) (b' := b) (Nat.le_refl _) (by omega) (by rw [D1Z.out]; exact hb) P12.out))
            have T2 : Hid (SortedIn (ltOf cf) mid e d2 ∧ SortedIn (ltOf cf) e b d2) := Lib.hid ⟨fun p q h1 h2 h3 => by rw [P12.out.2.1 p (by omega), P12.out.2.1 q (by omega)]; exact T1.out.2.2.1 p q (by omega) h2 h3, fun p q h1 h2 h3 => by rw [P12.out.2.1 p (by omega), P12.out.2.1 q (by omega)]; exact T1.out.2.2.2 p q h1 h2 h3⟩
            have JOIN : Hid (∀ d3, PermIn mid b d2 d3 → SortedIn (ltOf cf) mid b d3 → SortedIn (ltOf cf) a b d3) := Lib.hid (fun d3 p3 q3 => join_halves (by rw [D1Z.out]; exact hb) P12.out p3 Q2.out q3 X1.out)
            have D2Z : Hid (d2.size = d.size) := Lib.hid (by rw [P12.out.1]; exact D1Z.out)
            clear P12 Q2
            by_cases k1 : mid < e
            · by_cases k2 : e < b
              · have g5 : (mid : Int) < (mid : Int) + (m : Int) - (s : Int) := by omega
                have g6 : (mid : Int) + (m : Int) - (s : Int) < (b : Int) := by omega
                go_wp2_with fail
                rw [← D2Z.out]
                refine (IH.out _ _ _ mid e b rfl (by omega) rfl d2 _ (by omega) (by rw [D2Z.out]; exact HZ.out) S2.out (by omega) (by omega) (by rw [D2Z.out]; omega) (by rw [D2Z.out]; exact hsz) (T2.out.1) (T2.out.2)).mono ?_
                rintro e3 w3 ⟨rfl, d3, hS3, hP3, hs3⟩
                have S3 := Lib.hid hS3
                have P3 := Lib.hid hP3
                have Q3 := Lib.hid hs3
                clear hS3 hP3 hs3
                go_wp2
                all_goals go_end0
                all_goals exact ⟨rfl, d3, S3.out, permIn_trans _ _ _ _ _ P2.out (permIn_mono' (by omega) (Nat.le_refl _) (by rw [D2Z.out]; exact hb) P3.out), JOIN.out d3 P3.out Q3.out⟩
              · have g5 : (mid : Int) < (mid : Int) + (m : Int) - (s : Int) := by omega
                have g6 : ¬ (mid : Int) + (m : Int) - (s : Int) < (b : Int) := by omega
                go_wp2
                all_goals go_end0
                all_goals exact ⟨rfl, d2, S2.out, P2.out, JOIN.out d2 (permIn_refl _ _ _) (by have := T2.out.1; rw [show e = b from by omega] at this; exact this)⟩
            · have g5 : ¬ (mid : Int) < (mid : Int) + (m : Int) - (s : Int) := by omega
              go_wp2
              all_goals go_end0
              all_goals exact ⟨rfl, d2, S2.out, P2.out, JOIN.out d2 (permIn_refl _ _ _) (by have := T2.out.2; rw [show e = mid from by omega] at this; exact this)⟩
        · have g3 : ¬ (a : Int) < (s : Int) := by omega
          have P12 : Hid (PermIn a mid d1 d1) := Lib.hid (permIn_refl _ _ _)
          have Q2 : Hid (SortedIn (ltOf cf) a mid d1) := Lib.hid (by have := T1.out.2.1; rw [HMID.out, show s = a from by omega] at this; exact this)
          have S2 := S1
          obtain ⟨d2, E2, P12, Q2, S2⟩ : ∃ d2, Hid (d2 = d1) ∧ Hid (PermIn a mid d1 d2) ∧ Hid (SortedIn (ltOf cf) a mid d2) ∧ Hid (SW enc w0 blk off d2 _) := ⟨_, Lib.hid rfl, P12, Q2, S2⟩
          have P2 := Lib.hid (permIn_trans _ _ _ _ _ P1.out (permIn_mono' (a' := a) (b' := b) (Nat.le_refl _) (by omega) (by rw [D1Z.out]; exact hb) P12.out))
          have T2 : Hid (SortedIn (ltOf cf) mid e d2 ∧ SortedIn (ltOf cf) e b d2) := Lib.hid ⟨fun p q h1 h2 h3 => by rw [P12.out.2.1 p (by omega), P12.out.2.1 q (by omega)]; exact T1.out.2.2.1 p q (by omega) h2 h3, fun p q h1 h2 h3 => by rw [P12.out.2.1 p (by omega), P12.out.2.1 q (by omega)]; exact T1.out.2.2.2 p q h1 h2 h3⟩
          have JOIN : Hid (∀ d3, PermIn mid b d2 d3 → SortedIn (ltOf cf) mid b d3 → SortedIn (ltOf cf) a b d3) := Lib.hid (fun d3 p3 q3 => join_halves (by rw [D1Z.out]; exact hb) P12.out p3 Q2.out q3 X1.out)
          have D2Z : Hid (d2.size = d.size) := Lib.hid (by rw [P12.out.1]; exact D1Z.out)
          clear P12 Q2
          by_cases k1 : mid < e
          · by_cases k2 : e < b
            · have g5 : (mid : Int) < (mid : Int) + (m : Int) - (s : Int) := by omega
              have g6 : (mid : Int) + (m : Int) - (s : Int) < (b : Int) := by omega
              go_wp2_with fail
              rw [← D2Z.out]
              refine (IH.out _ _ _ mid e b rfl (by omega) rfl d2 _ (by omega) (by rw [D2Z.out]; exact HZ.out) S2.out (by omega) (by omega) (by rw [D2Z.out]; omega) (by rw [D2Z.out]; exact hsz) (T2.out.1) (T2.out.2)).mono ?_
              rintro e3 w3 ⟨rfl, d3, hS3, hP3, hs3⟩
              have S3 := Lib.hid hS3
              have P3 := Lib.hid hP3
              have Q3 := Lib.hid hs3
              clear hS3 hP3 hs3
              go_wp2
              all_goals go_end0
              all_goals exact ⟨rfl, d3, S3.out, permIn_trans _ _ _ _ _ P2.out (permIn_mono' (by omega) (Nat.le_refl _) (by rw [D2Z.out]; exact hb) P3.out), JOIN.out d3 P3.out Q3.out⟩
            · have g5 : (mid : Int) < (mid : Int) + (m : Int) - (s : Int) := by omega
              have g6 : ¬ (mid : Int) + (m : Int) - (s : Int) < (b : Int) := by omega
              go_wp2
              all_goals go_end0
              all_goals exact ⟨rfl, d2, S2.out, P2.out, JOIN.out d2 (permIn_refl _ _ _) (by have := T2.out.1; rw [show e = b from by omega] at this; exact this)⟩
          · have g5 : ¬ (mid : Int) < (mid : Int) + (m : Int) - (s : Int) := by omega
            go_wp2
            all_goals go_end0
            all_goals exact ⟨rfl, d2, S2.out, P2.out, JOIN.out d2 (permIn_refl _ _ _) (by have := T2.out.2; rw [show e = mid from by omega] at this; exact this)⟩
end Go.Proofs.YtgjbnmobhafajaaGreatDoor
end
section
namespace Go.Proofs.YtgjbnmobhafajaaGreatDoor
open Go.Shelf Go.RowKit Go.Lib Go.Sort
variable {α : Type} [Inhabited α]
set_option linter.unusedVariables false
set_option maxHeartbeats 8000000 in
set_option maxRecDepth 1000000 in
theorem sym_less (enc : α → Value) (cf : α → α → Int) (hO : SWO (ltOf cf)) (g : Nat) (cb : Array Value) (blk off cap : Nat) (za zm zb : Int) (a m b : Nat) (hza : za = a) (hzm : zm = m) (hzb : zb = b) (d0 d : Array α) (w0 w : World)
    (eg : ∀ args w, (callFunc g args).run Tryz.prog w = .ok (.enter g args) w) (hcmp : CmpLays1 Tryz.prog g cb enc cf blk off d0.size w0) (R0 : Row1 enc w0 blk off d0) (hs : d0.size = d.size) (S : SW enc w0 blk off d w) (ham : a < m) (hmb : m < b) (hb : b ≤ d.size) (hsz : d.size < 4611686018427387904)
    (sa : SortedIn (ltOf cf) a m d) (sb : SortedIn (ltOf cf) m b d) (h1 : m ≠ a + 1) (h2 : b ≠ m + 1) (mid : Nat) (hmid : mid = (a + b) / 2) (hside : m ≤ mid)
    (IH0 : SymSaid enc cf g cb blk off cap w0 d0 (b - a)) :
    Calls Tryz.prog 57 #[.slice (some ⟨blk, off, none⟩) d.size cap, .int .i64 za, .int .i64 zm, .int .i64 zb, .func (.func g) #[] cb] w (SymPost enc cf w0 blk off a b d) := by
  subst hza hzm hzb
  have mixed : Tryz.prog.follows .mixedOrders = true := by kernel_rfl
  have hcl0 := R0.hO.cells
  simp only [Value.cells] at hcl0
  have hst := R0.hO.store Tryz.prog
  have R := Lib.hid R0
  have HC := Lib.hid hcmp
  have HS := Lib.hid S
  have HA := Lib.hid sa
  have HBs := Lib.hid sb
  have HZ := Lib.hid hs
  have hzle : d0.size ≤ d.size := by omega
  have hzge : d.size ≤ d0.size := by omega
  clear R0 hcmp S sa sb hs
  have IH := Lib.hid IH0
  clear IH0
  unfold SymSaid at IH
  have q1 : a < mid := by omega
  have q2 : mid < b := by omega
  have q3 : a + b ≤ 2 * mid + 1 := by omega
  have q4 : 2 * mid ≤ a + b := by omega
  have hmz : ((a : Int) + (b : Int)) / 2 = (mid : Int) := by omega
  have HMZ := Lib.hid hmz
  clear hmz hmid
  go_enter Tryz.func57, Tryz.ntmps57
  have hd0 : ((m : Int) - (a : Int) == 1) = false := by rw [beq_eq_false_iff_ne]; omega
  have hd2 : ((b : Int) - (m : Int) == 1) = false := by rw [beq_eq_false_iff_ne]; omega
  go_upto_region 25 with fail
  rw [HMZ.out]
  have gm : ¬ (mid : Int) < (m : Int) := by omega
  go_wp2
  go_loopg [20, 21, 23] (b - a) (fun kx s20 s21 s23 wr => ∃ (s r : Nat), s20 = .int .i64 s ∧ s21 = .int .i64 r ∧ a ≤ s ∧ s ≤ r ∧ r ≤ m ∧ r - s ≤ kx ∧ Hid (s = a ∨ ltOf cf d[mid + m - 1 - (s - 1)]! d[s - 1]! = false) ∧ Hid (r = m ∨ ltOf cf d[mid + m - 1 - r]! d[r]! = true) ∧ Aside (SW enc w0 blk off d wr))
  case atStart => exact ⟨a, m, by first | rfl | (congr 1; omega), rfl, by omega, by omega, by omega, by omega, .inl rfl, .inl rfl, HS.out⟩
  case round =>
    clear HS hd0 hd2 gm
    obtain ⟨s, r, rfl, rfl, h3, h4, h5, hkx, HLO, HHI, S0⟩ := hrel
    by_cases hlt : s < r
    · have hltz : (s : Int) < (r : Int) := by omega
      obtain ⟨c, hc⟩ : ∃ c, c = (s + r) / 2 := ⟨_, rfl⟩
      have hc1 : s ≤ c := by omega
      have hc2 : c < r := by omega
      have hcz : ((s : Int) + (r : Int)) / 2 = (c : Int) := by omega
      have HCC := Lib.hid hcz
      clear hc hcz
      cases hlv0 : ltOf cf d[mid + m - 1 - c]! d[c]! with
      | true =>
        have hlv := Lib.hid hlv0
        clear hlv0
        have pn1 : (c : Int) ≤ (mid : Int) + (m : Int) - 1 := by omega
        go_upto_region 35 with fail
        rw [HCC.out]
        obtain ⟨iN1, hiN1⟩ : ∃ q_, q_ = mid + m - 1 - c := ⟨_, rfl⟩
        obtain ⟨jN1, hjN1⟩ : ∃ q_, q_ = c := ⟨_, rfl⟩
        have ea1 : ((mid : Int) + (m : Int) - 1 - (c : Int)).toNat = iN1 := by omega
        have pa1 : (0 : Int) ≤ (mid : Int) + (m : Int) - 1 - (c : Int) := by omega
        have ba1 : (mid : Int) + (m : Int) - 1 - (c : Int) < (d.size : Int) := by omega
        have ra1 : IntKind.i64.wrap ((mid : Int) + (m : Int) - 1 - (c : Int)) = (mid : Int) + (m : Int) - 1 - (c : Int) := by rw [IntKind.wrap_i64]; omega
        have ec1 : ((c : Int)).toNat = jN1 := by omega
        have pc1 : (0 : Int) ≤ (c : Int) := by omega
        have bc1 : (c : Int) < (d.size : Int) := by omega
        have rc1 : IntKind.i64.wrap ((c : Int)) = (c : Int) := by rw [IntKind.wrap_i64]; omega
        obtain ⟨x1, hx1⟩ : ∃ x, x = d[mid + m - 1 - c]! := ⟨_, rfl⟩
        obtain ⟨y1, hy1⟩ : ∃ x, x = d[c]! := ⟨_, rfl⟩
        have l1a := S0.out.cl R.out (by omega) (mid + m - 1 - c) (by omega)
        have l1b := S0.out.cl R.out (by omega) (c) (by omega)
        rw [← hx1, ← hiN1] at l1a
        rw [← hy1, ← hjN1] at l1b
        have hc1 := S0.out.cmp HC.out (by omega) x1 y1
        have hv1 : cf x1 y1 < 0 := by rw [hx1, hy1]; exact of_decide_eq_true hlv.out
        have hd1 : decide (cf x1 y1 < 0) = true := decide_eq_true hv1
        clear hx1 hy1 hiN1 hjN1
        go_wp2_with fail
        go_quiet_grown (first | (go_at_fn g; refine Calls.grown_of (hc1 _ _)))
        have S0' : Aside (SW enc w0 blk off d (grow (wr.drewN nq) osq)) := S0.out.grown nq osq
        clear l1a l1b hc1 S0
        generalize grow (wr.drewN nq) osq = w2 at S0' ⊢
        clear nq osq
        clear ea1 ec1 pa1 ba1 ra1 pc1 bc1 rc1 hv1 hd1
        go_wp2
        go_roundg (c - s)
        case measure => omega
        case rel => exact ⟨s, c, rfl, rfl, by omega, by omega, by omega, by omega, HLO, .inr hlv.out, S0'⟩
      | false =>
        have hlv := Lib.hid hlv0
        clear hlv0
        have pn1 : (c : Int) ≤ (mid : Int) + (m : Int) - 1 := by omega
        go_upto_region 35 with fail
        rw [HCC.out]
        obtain ⟨iN2, hiN2⟩ : ∃ q_, q_ = mid + m - 1 - c := ⟨_, rfl⟩
        obtain ⟨jN2, hjN2⟩ : ∃ q_, q_ = c := ⟨_, rfl⟩
        have ea2 : ((mid : Int) + (m : Int) - 1 - (c : Int)).toNat = iN2 := by omega
        have pa2 : (0 : Int) ≤ (mid : Int) + (m : Int) - 1 - (c : Int) := by omega
        have ba2 : (mid : Int) + (m : Int) - 1 - (c : Int) < (d.size : Int) := by omega
        have ra2 : IntKind.i64.wrap ((mid : Int) + (m : Int) - 1 - (c : Int)) = (mid : Int) + (m : Int) - 1 - (c : Int) := by rw [IntKind.wrap_i64]; omega
        have ec2 : ((c : Int)).toNat = jN2 := by omega
        have pc2 : (0 : Int) ≤ (c : Int) := by omega
        have bc2 : (c : Int) < (d.size : Int) := by omega
        have rc2 : IntKind.i64.wrap ((c : Int)) = (c : Int) := by rw [IntKind.wrap_i64]; omega
        obtain ⟨x2, hx2⟩ : ∃ x, x = d[mid + m - 1 - c]! := ⟨_, rfl⟩
        obtain ⟨y2, hy2⟩ : ∃ x, x = d[c]! := ⟨_, rfl⟩
        have l2a := S0.out.cl R.out (by omega) (mid + m - 1 - c) (by omega)
        have l2b := S0.out.cl R.out (by omega) (c) (by omega)
        rw [← hx2, ← hiN2] at l2a
        rw [← hy2, ← hjN2] at l2b
        have hc2 := S0.out.cmp HC.out (by omega) x2 y2
        have hv2 : ¬ cf x2 y2 < 0 := by rw [hx2, hy2]; exact of_decide_eq_false hlv.out
        have hd2 : decide (cf x2 y2 < 0) = false := decide_eq_false hv2
        clear hx2 hy2 hiN2 hjN2
        go_wp2_with fail
        go_quiet_grown (first | (go_at_fn g; refine Calls.grown_of (hc2 _ _)))
        have S0' : Aside (SW enc w0 blk off d (grow (wr.drewN nq) osq)) := S0.out.grown nq osq
        clear l2a l2b hc2 S0
        generalize grow (wr.drewN nq) osq = w2 at S0' ⊢
        clear nq osq
        clear ea2 ec2 pa2 ba2 ra2 pc2 bc2 rc2 hv2 hd2
        go_wp2
        go_roundg (r - (c + 1))
        case measure => omega
        case rel => exact ⟨c + 1, r, by go_num, rfl, by omega, by omega, by omega, by omega, .inr (by simpa using hlv.out), HHI, S0'⟩
    · have hltz : ¬ (s : Int) < (r : Int) := by omega
      obtain rfl : s = r := by omega
      obtain ⟨e, he⟩ : ∃ e, e = mid + m - s := ⟨_, rfl⟩
      have e1 : m ≤ e := by omega
      have e2 : e ≤ b := by omega
      have e3 : e + s = mid + m := by omega
      have CR : Hid (Cross (ltOf cf) a m b s e d) := by
        refine ⟨by omega, by omega, e1, e2, ?_, ?_⟩
        · rcases HLO.out with h | h
          · exact .inl h
          · by_cases hs0 : s = 0
            · exact .inl (by omega)
            · exact .inr (.inr (by rw [show mid + m - 1 - (s - 1) = e from by omega] at h; exact h))
        · rcases HHI.out with h | h
          · exact .inl h
          · exact .inr (.inr (by rw [show mid + m - 1 - s = e - 1 from by omega] at h; exact h))
      have HMID : Hid (s + (e - m) = mid) := Lib.hid (by omega)
      clear he HLO HHI
      by_cases i1 : s < m
      · by_cases i2 : m < e
        · have g1 : (s : Int) < (m : Int) := by omega
          have g2 : (m : Int) < (mid : Int) + (m : Int) - (s : Int) := by omega
          go_wp2_with fail
          refine (rotate.calls_f81 enc _ blk off cap _ _ _ s m e rfl rfl (by omega) d0 d w0 _ R.out HZ.out S0.out (by omega) (by omega) (by omega) hsz).mono ?_
          rintro e1 w1 ⟨rfl, d1, hS1, hP1, hF1⟩
          have S1 := Lib.hid hS1
          have P1 := Lib.hid (permIn_mono' (a' := a) (b' := b) (by omega) (by omega) hb hP1)
          have F1 := Lib.hid hF1
          clear hS1 hP1 hF1 S0
          have T1 : Hid _ := Lib.hid (cross_runs CR.out HA.out HBs.out F1.out)
          have X1 : Hid (∀ p q, a ≤ p → p < mid → mid ≤ q → q < b → ltOf cf d1[q]! d1[p]! = false) := Lib.hid (by have := cross_halves hO CR.out HA.out HBs.out F1.out; rw [HMID.out] at this; exact this)
          have T1' := T1.out
          rw [HMID.out] at T1'
          have T1 := Lib.hid (show SortedIn (ltOf cf) a s d1 ∧ SortedIn (ltOf cf) s (s + (e - m)) d1 ∧ SortedIn (ltOf cf) mid e d1 ∧ SortedIn (ltOf cf) e b d1 from ⟨T1'.1, by rw [HMID.out]; exact T1'.2.1, T1'.2.2.1, T1'.2.2.2⟩)
          clear T1' F1
          have D1Z : Hid (d1.size = d.size) := Lib.hid P1.out.1
          by_cases j1 : a < s
          · by_cases j2 : s < mid
            · have g3 : (a : Int) < (s : Int) := by omega
              have g4 : (s : Int) < (mid : Int) := by omega
              go_wp2_with fail
              rw [← D1Z.out]
              refine (IH.out _ _ _ a s mid rfl rfl rfl d1 _ (by omega) (by rw [D1Z.out]; exact HZ.out) S1.out (by omega) (by omega) (by rw [D1Z.out]; omega) (by rw [D1Z.out]; exact hsz) T1.out.1 (by rw [← HMID.out]; exact T1.out.2.1)).mono ?_
              rintro e2 w2 ⟨rfl, d2, hS2, hP2, hs2⟩
              have S2 := Lib.hid hS2
              have P12 := Lib.hid hP2
              have Q2 := Lib.hid hs2
              clear hS2 hP2 hs2
              rw [D1Z.out]
              have P2 := Lib.hid (permIn_trans _ _ _ _ _ P1.out (permIn_mono' (a' := a) (b' := b) (Nat.le_refl _) (by omega) (by rw [D1Z.out]; exact hb) P12.out))
              have T2 : Hid (SortedIn (ltOf cf) mid e d2 ∧ SortedIn (ltOf cf) e b d2) := Lib.hid ⟨fun p q h1 h2 h3 => by rw [P12.out.2.1 p (by omega), P12.out.2.1 q (by omega)]; exact T1.out.2.2.1 p q (by omega) h2 h3, fun p q h1 h2 h3 => by rw [P12.out.2.1 p (by omega), P12.out.2.1 q (by omega)]; exact T1.out.2.2.2 p q h1 h2 h3⟩
              have JOIN : Hid (∀ d3, PermIn mid b d2 d3 → SortedIn (ltOf cf) mid b d3 → SortedIn (ltOf cf) a b d3) := Lib.hid (fun d3 p3 q3 => join_halves (by rw [D1Z.out]; exact hb) P12.out p3 Q2.out q3 X1.out)
              have D2Z : Hid (d2.size = d.size) := Lib.hid (by rw [P12.out.1]; exact D1Z.out)
              clear P12 Q2
              by_cases k1 : mid < e
              · by_cases k2 : e < b
                · have g5 : (mid : Int) < (mid : Int) + (m : Int) - (s : Int) := by omega
                  have g6 : (mid : Int) + (m : Int) - (s : Int) < (b : Int) := by omega
                  go_wp2_with fail
                  rw [← D2Z.out]
                  refine (IH.out _ _ _ mid e b rfl (by omega) rfl d2 _ (by omega) (by rw [D2Z.out]; exact HZ.out) S2.out (by omega) (by omega) (by rw [D2Z.out]; omega) (by rw [D2Z.out]; exact hsz) (T2.out.1) (T2.out.2)).mono ?_
                  rintro e3 w3 ⟨rfl, d3, hS3, hP3, hs3⟩
                  have S3 := Lib.hid hS3
                  have P3 := Lib.hid hP3
                  have Q3 := Lib.hid hs3
                  clear hS3 hP3 hs3
                  go_wp2
                  all_goals go_end0
                  all_goals exact ⟨rfl, d3, S3.out, permIn_trans _ _ _ _ _ P2.out (permIn_mono' (by omega) (Nat.le_refl _) (by rw [D2Z.out]; exact hb) P3.out), JOIN.out d3 P3.out Q3.out⟩
                · have g5 : (mid : Int) < (mid : Int) + (m : Int) - (s : Int) := by omega
                  have g6 : ¬ (mid : Int) + (m : Int) - (s : Int) < (b : Int) := by omega
                  go_wp2
                  all_goals go_end0
                  all_goals exact ⟨rfl, d2, S2.out, P2.out, JOIN.out d2 (permIn_refl _ _ _) (by have := T2.out.1; rw [show e = b from by omega] at this; exact this)⟩
              · have g5 : ¬ (mid : Int) < (mid : Int) + (m : Int) - (s : Int) := by omega
                go_wp2
                all_goals go_end0
                all_goals exact ⟨rfl, d2, S2.out, P2.out, JOIN.out d2 (permIn_refl _ _ _) (by have := T2.out.2; rw [show e = mid from by omega] at this; exact this)⟩
            · have g3 : (a : Int) < (s : Int) := by omega
              have g4 : ¬ (s : Int) < (mid : Int) := by omega
              have P12 : Hid (PermIn a mid d1 d1) := Lib.hid (permIn_refl _ _ _)
              have Q2 : Hid (SortedIn (ltOf cf) a mid d1) := Lib.hid (by have := T1.out.1; rw [show s = mid from by omega] at this; exact this)
              have S2 := S1
              obtain ⟨d2, E2, P12, Q2, S2⟩ : ∃ d2, Hid (d2 = d1) ∧ Hid (PermIn a mid d1 d2) ∧ Hid (SortedIn (ltOf cf) a mid d2) ∧ Hid (SW enc w0 blk off d2 _) := ⟨_, Lib.hid rfl, P12, Q2, S2⟩
              have P2 := Lib.hid (permIn_trans _ _ _ _ _ P1.out (permIn_mono' (a' := a) (b' := b) (Nat.le_refl _) (by omega) (by rw [D1Z.out]; exact hb) P12.out))
              have T2 : Hid (SortedIn (ltOf cf) mid e d2 ∧ SortedIn (ltOf cf) e b d2) := Lib.hid ⟨fun p q h1 h2 h3 => by rw [P12.out.2.1 p (by omega), P12.out.2.1 q (by omega)]; exact T1.out.2.2.1 p q (by omega) h2 h3, fun p q h1 h2 h3 => by rw [P12.out.2.1 p (by omega), P12.out.2.1 q (by omega)]; exact T1.out.2.2.2 p q h1 h2 h3⟩
              have JOIN : Hid (∀ d3, PermIn mid b d2 d3 → SortedIn (ltOf cf) mid b d3 → SortedIn (ltOf cf) a b d3) := Lib.hid (fun d3 p3 q3 => join_halves (by rw [D1Z.out]; exact hb) P12.out p3 Q2.out q3 X1.out)
              have D2Z : Hid (d2.size = d.size) := Lib.hid (by rw [P12.out.1]; exact D1Z.out)
              clear P12 Q2
              by_cases k1 : mid < e
              · by_cases k2 : e < b
                · have g5 : (mid : Int) < (mid : Int) + (m : Int) - (s : Int) := by omega
                  have g6 : (mid : Int) + (m : Int) - (s : Int) < (b : Int) := by omega
                  go_wp2_with fail
                  rw [← D2Z.out]
                  refine (IH.out _ _ _ mid e b rfl (by omega) rfl d2 _ (by omega) (by rw [D2Z.out]; exact HZ.out) S2.out (by omega) (by omega) (by rw [D2Z.out]; omega) (by rw [D2Z.out]; exact hsz) (T2.out.1) (T2.out.2)).mono ?_
                  rintro e3 w3 ⟨rfl, d3, hS3, hP3, hs3⟩
                  have S3 := Lib.hid hS3
                  have P3 := Lib.hid hP3
                  have Q3 := Lib.hid hs3
                  clear hS3 hP3 hs3
                  go_wp2
                  all_goals go_end0
                  all_goals exact ⟨rfl, d3, S3.out, permIn_trans _ _ _ _ _ P2.out (permIn_mono' (by omega) (Nat.le_refl _) (by rw [D2Z.out]; exact hb) P3.out), JOIN.out d3 P3.out Q3.out⟩
                · have g5 : (mid : Int) < (mid : Int) + (m : Int) - (s : Int) := by omega
                  have g6 : ¬ (mid : Int) + (m : Int) - (s : Int) < (b : Int) := by omega
                  go_wp2
                  all_goals go_end0
                  all_goals exact ⟨rfl, d2, S2.out, P2.out, JOIN.out d2 (permIn_refl _ _ _) (by have := T2.out.1; rw [show e = b from by omega] at this; exact this)⟩
              · have g5 : ¬ (mid : Int) < (mid : Int) + (m : Int) - (s : Int) := by omega
                go_wp2
                all_goals go_end0
                all_goals exact ⟨rfl, d2, S2.out, P2.out, JOIN.out d2 (permIn_refl _ _ _) (by have := T2.out.2; rw [show e = mid from by omega] at this; exact this)⟩
          · have g3 : ¬ (a : Int) < (s : Int) := by omega
            have P12 : Hid (PermIn a mid d1 d1) := Lib.hid (permIn_refl _ _ _)
            have Q2 : Hid (SortedIn (ltOf cf) a mid d1) := Lib.hid (by have := T1.out.2.1; rw [HMID.out, show s = a from by omega] at this; exact this)
            have S2 := S1
            obtain ⟨d2, E2, P12, Q2, S2⟩ : ∃ d2, Hid (d2 = d1) ∧ Hid (PermIn a mid d1 d2) ∧ Hid (SortedIn (ltOf cf) a mid d2) ∧ Hid (SW enc w0 blk off d2 _) := ⟨_, Lib.hid rfl, P12, Q2, S2⟩
            have P2 := Lib.hid (permIn_trans _ _ _ _ _ P1.out (permIn_mono' (a' := a) (b' := b) (Nat.le_refl _) (by omega) (by rw [D1Z.out]; exact hb) P12.out))
            have T2 : Hid (SortedIn (ltOf cf) mid e d2 ∧ SortedIn (ltOf cf) e b d2) := Lib.hid ⟨fun p q h1 h2 h3 => by rw [P12.out.2.1 p (by omega), P12.out.2.1 q (by omega)]; exact T1.out.2.2.1 p q (by omega) h2 h3, fun p q h1 h2 h3 => by rw [P12.out.2.1 p (by omega), P12.out.2.1 q (by omega)]; exact T1.out.2.2.2 p q h1 h2 h3⟩
            have JOIN : Hid (∀ d3, PermIn mid b d2 d3 → SortedIn (ltOf cf) mid b d3 → SortedIn (ltOf cf) a b d3) := Lib.hid (fun d3 p3 q3 => join_halves (by rw [D1Z.out]; exact hb) P12.out p3 Q2.out q3 X1.out)
            have D2Z : Hid (d2.size = d.size) := Lib.hid (by rw [P12.out.1]; exact D1Z.out)
            clear P12 Q2
            by_cases k1 : mid < e
            · by_cases k2 : e < b
              · have g5 : (mid : Int) < (mid : Int) + (m : Int) - (s : Int) := by omega
                have g6 : (mid : Int) + (m : Int) - (s : Int) < (b : Int) := by omega
                go_wp2_with fail
                rw [← D2Z.out]
                refine (IH.out _ _ _ mid e b rfl (by omega) rfl d2 _ (by omega) (by rw [D2Z.out]; exact HZ.out) S2.out (by omega) (by omega) (by rw [D2Z.out]; omega) (by rw [D2Z.out]; exact hsz) (T2.out.1) (T2.out.2)).mono ?_
                rintro e3 w3 ⟨rfl, d3, hS3, hP3, hs3⟩
                have S3 := Lib.hid hS3
                have P3 := Lib.hid hP3
                have Q3 := Lib.hid hs3
                clear hS3 hP3 hs3
                go_wp2
                all_goals go_end0
                all_goals exact ⟨rfl, d3, S3.out, permIn_trans _ _ _ _ _ P2.out (permIn_mono' (by omega) (Nat.le_refl _) (by rw [D2Z.out]; exact hb) P3.out), JOIN.out d3 P3.out Q3.out⟩
              · have g5 : (mid : Int) < (mid : Int) + (m : Int) - (s : Int) := by omega
                have g6 : ¬ (mid : Int) + (m : Int) - (s : Int) < (b : Int) := by omega
                go_wp2
                all_goals go_end0
                all_goals exact ⟨rfl, d2, S2.out, P2.out, JOIN.out d2 (permIn_refl _ _ _) (by have := T2.out.1; rw [show e = b from by omega] at this; exact this)⟩
            · have g5 : ¬ (mid : Int) < (mid : Int) + (m : Int) - (s : Int) := by omega
              go_wp2
              all_goals go_end0
              all_goals exact ⟨rfl, d2, S2.out, P2.out, JOIN.out d2 (permIn_refl _ _ _) (by have := T2.out.2; rw [show e = mid from by omega] at this; exact this)⟩
        · have g1 : (s : Int) < (m : Int) := by omega
          have g2 : ¬ (m : Int) < (mid : Int) + (m : Int) - (s : Int) := by omega
          have P1 : Hid (PermIn a b d d) := Lib.hid (permIn_refl _ _ _)
          have F1 : Hid (∀ x, d[x]! = rotF s m e d x) := Lib.hid (fun x => by rw [rotF_id _ _ _ _ (by omega)])
          obtain ⟨d1, E1, P1, F1, S1⟩ : ∃ d1, Hid (d1 = d) ∧ Hid (PermIn a b d d1) ∧ Hid (∀ x, d1[x]! = rotF s m e d x) ∧ Hid (SW enc w0 blk off d1 _) := ⟨_, Lib.hid rfl, P1, F1, Lib.hid S0.out⟩
          clear S0
          have T1 : Hid _ := Lib.hid (cross_runs CR.out HA.out HBs.out F1.out)
          have X1 : Hid (∀ p q, a ≤ p → p < mid → mid ≤ q → q < b → ltOf cf d1[q]! d1[p]! = false) := Lib.hid (by have := cross_halves hO CR.out HA.out HBs.out F1.out; rw [HMID.out] at this; exact this)
          have T1' := T1.out
          rw [HMID.out] at T1'
          have T1 := Lib.hid (show SortedIn (ltOf cf) a s d1 ∧ SortedIn (ltOf cf) s (s + (e - m)) d1 ∧ SortedIn (ltOf cf) mid e d1 ∧ SortedIn (ltOf cf) e b d1 from ⟨T1'.1, by rw [HMID.out]; exact T1'.2.1, T1'.2.2.1, T1'.2.2.2⟩)
          clear T1' F1
          have D1Z : Hid (d1.size = d.size) := Lib.hid P1.out.1
          by_cases j1 : a < s
          · by_cases j2 : s < mid
            · have g3 : (a : Int) < (s : Int) := by omega
              have g4 : (s : Int) < (mid : Int) := by omega
              go_wp2_with fail
              rw [← D1Z.out]
              refine (IH.out _ _ _ a s mid rfl rfl rfl d1 _ (by omega) (by rw [D1Z.out]; exact HZ.out) S1.out (by omega) (by omega) (by rw [D1Z.out]; omega) (by rw [D1Z.out]; exact hsz) T1.out.1 (by rw [← HMID.out]; exact T1.out.2.1)).mono ?_
              rintro e2 w2 ⟨rfl, d2, hS2, hP2, hs2⟩
              have S2 := Lib.hid hS2
              have P12 := Lib.hid hP2
              have Q2 := Lib.hid hs2
              clear hS2 hP2 hs2
              rw [D1Z.out]
              have P2 := Lib.hid (permIn_trans _ _ _ _ _ P1.out (permIn_mono' (a' := a) (b' := b) (Nat.le_refl _) (by omega) (by rw [D1Z.out]; exact hb) P12.out))
              have T2 : Hid (SortedIn (ltOf cf) mid e d2 ∧ SortedIn (ltOf cf) e b d2) := Lib.hid ⟨fun p q h1 h2 h3 => by rw [P12.out.2.1 p (by omega), P12.out.2.1 q (by omega)]; exact T1.out.2.2.1 p q (by omega) h2 h3, fun p q h1 h2 h3 => by rw [P12.out.2.1 p (by omega), P12.out.2.1 q (by omega)]; exact T1.out.2.2.2 p q h1 h2 h3⟩
              have JOIN : Hid (∀ d3, PermIn mid b d2 d3 → SortedIn (ltOf cf) mid b d3 → SortedIn (ltOf cf) a b d3) := Lib.hid (fun d3 p3 q3 => join_halves (by rw [D1Z.out]; exact hb) P12.out p3 Q2.out q3 X1.out)
              have D2Z : Hid (d2.size = d.size) := Lib.hid (by rw [P12.out.1]; exact D1Z.out)
              clear P12 Q2
              by_cases k1 : mid < e
              · by_cases k2 : e < b
                · have g5 : (mid : Int) < (mid : Int) + (m : Int) - (s : Int) := by omega
                  have g6 : (mid : Int) + (m : Int) - (s : Int) < (b : Int) := by omega
                  go_wp2_with fail
                  rw [← D2Z.out]
                  refine (IH.out _ _ _ mid e b rfl (by omega) rfl d2 _ (by omega) (by rw [D2Z.out]; exact HZ.out) S2.out (by omega) (by omega) (by rw [D2Z.out]; omega) (by rw [D2Z.out]; exact hsz) (T2.out.1) (T2.out.2)).mono ?_
                  rintro e3 w3 ⟨rfl, d3, hS3, hP3, hs3⟩
                  have S3 := Lib.hid hS3
                  have P3 := Lib.hid hP3
                  have Q3 := Lib.hid hs3
                  clear hS3 hP3 hs3
                  go_wp2
                  all_goals go_end0
                  all_goals exact ⟨rfl, d3, S3.out, permIn_trans _ _ _ _ _ P2.out (permIn_mono' (by omega) (Nat.le_refl _) (by rw [D2Z.out]; exact hb) P3.out), JOIN.out d3 P3.out Q3.out⟩
                · have g5 : (mid : Int) < (mid : Int) + (m : Int) - (s : Int) := by omega
                  have g6 : ¬ (mid : Int) + (m : Int) - (s : Int) < (b : Int) := by omega
                  go_wp2
                  all_goals go_end0
                  all_goals exact ⟨rfl, d2, S2.out, P2.out, JOIN.out d2 (permIn_refl _ _ _) (by have := T2.out.1; rw [show e = b from by omega] at this; exact this)⟩
              · have g5 : ¬ (mid : Int) < (mid : Int) + (m : Int) - (s : Int) := by omega
                go_wp2
                all_goals go_end0
                all_goals exact ⟨rfl, d2, S2.out, P2.out, JOIN.out d2 (permIn_refl _ _ _) (by have := T2.out.2; rw [show e = mid from by omega] at this; exact this)⟩
            · have g3 : (a : Int) < (s : Int) := by omega
              have g4 : ¬ (s : Int) < (mid : Int) := by omega
              have P12 : Hid (PermIn a mid d1 d1) := Lib.hid (permIn_refl _ _ _)
              have Q2 : Hid (SortedIn (ltOf cf) a mid d1) := Lib.hid (by have := T1.out.1; rw [show s = mid from by omega] at this; exact this)
              have S2 := S1
              obtain ⟨d2, E2, P12, Q2, S2⟩ : ∃ d2, Hid (d2 = d1) ∧ Hid (PermIn a mid d1 d2) ∧ Hid (SortedIn (ltOf cf) a mid d2) ∧ Hid (SW enc w0 blk off d2 _) := ⟨_, Lib.hid rfl, P12, Q2, S2⟩
              have P2 := Lib.hid (permIn_trans _ _ _ _ _ P1.out (permIn_mono' (a' := a) (b' := b) (Nat.le_refl _) (by omega) (by rw [D1Z.out]; exact hb) P12.out))
              have T2 : Hid (SortedIn (ltOf cf) mid e d2 ∧ SortedIn (ltOf cf) e b d2) := Lib.hid ⟨fun p q h1 h2 h3 => by rw [P12.out.2.1 p (by omega), P12.out.2.1 q (by omega)]; exact T1.out.2.2.1 p q (by omega) h2 h3, fun p q h1 h2 h3 => by rw [P12.out.2.1 p (by omega), P12.out.2.1 q (by omega)]; exact T1.out.2.2.2 p q h1 h2 h3⟩
              have JOIN : Hid (∀ d3, PermIn mid b d2 d3 → SortedIn (ltOf cf) mid b d3 → SortedIn (ltOf cf) a b d3) := Lib.hid (fun d3 p3 q3 => join_halves (by rw [D1Z.out]; exact hb) P12.out p3 Q2.out q3 X1.out)
              have D2Z : Hid (d2.size = d.size) := Lib.hid (by rw [P12.out.1]; exact D1Z.out)
              clear P12 Q2
              by_cases k1 : mid < e
              · by_cases k2 : e < b
                · have g5 : (mid : Int) < (mid : Int) + (m : Int) - (s : Int) := by omega
                  have g6 : (mid : Int) + (m : Int) - (s : Int) < (b : Int) := by omega
                  go_wp2_with fail
                  rw [← D2Z.out]
                  refine (IH.out _ _ _ mid e b rfl (by omega) rfl d2 _ (by omega) (by rw [D2Z.out]; exact HZ.out) S2.out (by omega) (by omega) (by rw [D2Z.out]; omega) (by rw [D2Z.out]; exact hsz) (T2.out.1) (T2.out.2)).mono ?_
                  rintro e3 w3 ⟨rfl, d3, hS3, hP3, hs3⟩
                  have S3 := Lib.hid hS3
                  have P3 := Lib.hid hP3
                  have Q3 := Lib.hid hs3
                  clear hS3 hP3 hs3
                  go_wp2
                  all_goals go_end0
                  all_goals exact ⟨rfl, d3, S3.out, permIn_trans _ _ _ _ _ P2.out (permIn_mono' (by omega) (Nat.le_refl _) (by rw [D2Z.out]; exact hb) P3.out), JOIN.out d3 P3.out Q3.out⟩
                · have g5 : (mid : Int) < (mid : Int) + (m : Int) - (s : Int) := by omega
                  have g6 : ¬ (mid : Int) + (m : Int) - (s : Int) < (b : Int) := by omega
                  go_wp2
                  all_goals go_end0
                  all_goals exact ⟨rfl, d2, S2.out, P2.out, JOIN.out d2 (permIn_refl _ _ _) (by have := T2.out.1; rw [show e = b from by omega] at this; exact this)⟩
              · have g5 : ¬ (mid : Int) < (mid : Int) + (m : Int) - (s : Int) := by omega
                go_wp2
                all_goals go_end0
                all_goals exact ⟨rfl, d2, S2.out, P2.out, JOIN.out d2 (permIn_refl _ _ _) (by have := T2.out.2; rw [show e = mid from by omega] at this; exact this)⟩
          · have g3 : ¬ (a : Int) < (s : Int) := by omega
            have P12 : Hid (PermIn a mid d1 d1) := Lib.hid (permIn_refl _ _ _)
            have Q2 : Hid (SortedIn (ltOf cf) a mid d1) := Lib.hid (by have := T1.out.2.1; rw [HMID.out, show s = a from by omega] at this; exact this)
            have S2 := S1
            obtain ⟨d2, E2, P12, Q2, S2⟩ : ∃ d2, Hid (d2 = d1) ∧ Hid (PermIn a mid d1 d2) ∧ Hid (SortedIn (ltOf cf) a mid d2) ∧ Hid (SW enc w0 blk off d2 _) := ⟨_, Lib.hid rfl, P12, Q2, S2⟩
            have P2 := Lib.hid (permIn_trans _ _ _ _ _ P1.out (permIn_mono' (a' := a) (b' := b) (Nat.le_refl _) (by omega) (by rw [D1Z.out]; exact hb) P12.out))
            have T2 : Hid (SortedIn (ltOf cf) mid e d2 ∧ SortedIn (ltOf cf) e b d2) := Lib.hid ⟨fun p q h1 h2 h3 => by rw [P12.out.2.1 p (by omega), P12.out.2.1 q (by omega)]; exact T1.out.2.2.1 p q (by omega) h2 h3, fun p q h1 h2 h3 => by rw [P12.out.2.1 p (by omega), P12.out.2.1 q (by omega)]; exact T1.out.2.2.2 p q h1 h2 h3⟩
            have JOIN : Hid (∀ d3, PermIn mid b d2 d3 → SortedIn (ltOf cf) mid b d3 → SortedIn (ltOf cf) a b d3) := Lib.hid (fun d3 p3 q3 => join_halves (by rw [D1Z.out]; exact hb) P12.out p3 Q2.out q3 X1.out)
            have D2Z : Hid (d2.size = d.size) := Lib.hid (by rw [P12.out.1]; exact D1Z.out)
            clear P12 Q2
            by_cases k1 : mid < e
            · by_cases k2 : e < b
              · have g5 : (mid : Int) < (mid : Int) + (m : Int) - (s : Int) := by omega
                have g6 : (mid : Int) + (m : Int) - (s : Int) < (b : Int) := by omega
                go_wp2_with fail
                rw [← D2Z.out]
                refine (IH.out _ _ _ mid e b rfl (by omega) rfl d2 _ (by omega) (by rw [D2Z.out]; exact HZ.out) S2.out (by omega) (by omega) (by rw [D2Z.out]; omega) (by rw [D2Z.out]; exact hsz) (T2.out.1) (T2.out.2)).mono ?_
                rintro e3 w3 ⟨rfl, d3, hS3, hP3, hs3⟩
                have S3 := Lib.hid hS3
                have P3 := Lib.hid hP3
                have Q3 := Lib.hid hs3
                clear hS3 hP3 hs3
                go_wp2
                all_goals go_end0
                all_goals exact ⟨rfl, d3, S3.out, permIn_trans _ _ _ _ _ P2.out (permIn_mono' (by omega) (Nat.le_refl _) (by rw [D2Z.out]; exact hb) P3.out), JOIN.out d3 P3.out Q3.out⟩
              · have g5 : (mid : Int) < (mid : Int) + (m : Int) - (s : Int) := by omega
                have g6 : ¬ (mid : Int) + (m : Int) - (s : Int) < (b : Int) := by omega
                go_wp2
                all_goals go_end0
                all_goals exact ⟨rfl, d2, S2.out, P2.out, JOIN.out d2 (permIn_refl _ _ _) (by have := T2.out.1; rw [show e = b from by omega] at this; exact this)⟩
            · have g5 : ¬ (mid : Int) < (mid : Int) + (m : Int) - (s : Int) := by omega
              go_wp2
              all_goals go_end0
              all_goals exact ⟨rfl, d2, S2.out, P2.out, JOIN.out d2 (permIn_refl _ _ _) (by have := T2.out.2; rw [show e = mid from by omega] at this; exact this)⟩
      · have g1 : ¬ (s : Int) < (m : Int) := by omega
        have P1 : Hid (PermIn a b d d) := Lib.hid (permIn_refl _ _ _)
        have F1 : Hid (∀ x, d[x]! = rotF s m e d x) := Lib.hid (fun x => by rw [rotF_id _ _ _ _ (by omega)])
        obtain ⟨d1, E1, P1, F1, S1⟩ : ∃ d1, Hid (d1 = d) ∧ Hid (PermIn a b d d1) ∧ Hid (∀ x, d1[x]! = rotF s m e d x) ∧ Hid (SW enc w0 blk off d1 _) := ⟨_, Lib.hid rfl, P1, F1, Lib.hid S0.out⟩
        clear S0
        have T1 : Hid _ := Lib.hid (cross_runs CR.out HA.out HBs.out F1.out)
        have X1 : Hid (∀ p q, a ≤ p → p < mid → mid ≤ q → q < b → ltOf cf d1[q]! d1[p]! = false) := Lib.hid (by have := cross_halves hO CR.out HA.out HBs.out F1.out; rw [HMID.out] at this; exact this)
        have T1' := T1.out
        rw [HMID.out] at T1'
        have T1 := Lib.hid (show SortedIn (ltOf cf) a s d1 ∧ SortedIn (ltOf cf) s (s + (e - m)) d1 ∧ SortedIn (ltOf cf) mid e d1 ∧ SortedIn (ltOf cf) e b d1 from ⟨T1'.1, by rw [HMID.out]; exact T1'.2.1, T1'.2.2.1, T1'.2.2.2⟩)
        clear T1' F1
        have D1Z : Hid (d1.size = d.size) := Lib.hid P1.out.1
        by_cases j1 : a < s
        · by_cases j2 : s < mid
          · have g3 : (a : Int) < (s : Int) := by omega
            have g4 : (s : Int) < (mid : Int) := by omega
            go_wp2_with fail
            rw [← D1Z.out]
            refine (IH.out _ _ _ a s mid rfl rfl rfl d1 _ (by omega) (by rw [D1Z.out]; exact HZ.out) S1.out (by omega) (by omega) (by rw [D1Z.out]; omega) (by rw [D1Z.out]; exact hsz) T1.out.1 (by rw [← HMID.out]; exact T1.out.2.1)).mono ?_
            rintro e2 w2 ⟨rfl, d2, hS2, hP2, hs2⟩
            have S2 := Lib.hid hS2
            have P12 := Lib.hid hP2
            have Q2 := Lib.hid hs2
            clear hS2 hP2 hs2
            rw [D1Z.out]
            have P2 := Lib.hid (permIn_trans _ _ _ _ _ P1.out (permIn_mono' (a' := a) (b' := b) (Nat.le_refl _) (by omega) (by rw [D1Z.out]; exact hb) P12.out))
            have T2 : Hid (SortedIn (ltOf cf) mid e d2 ∧ SortedIn (ltOf cf) e b d2) := Lib.hid ⟨fun p q h1 h2 h3 => by rw [P12.out.2.1 p (by omega), P12.out.2.1 q (by omega)]; exact T1.out.2.2.1 p q (by omega) h2 h3, fun p q h1 h2 h3 => by rw [P12.out.2.1 p (by omega), P12.out.2.1 q (by omega)]; exact T1.out.2.2.2 p q h1 h2 h3⟩
            have JOIN : Hid (∀ d3, PermIn mid b d2 d3 → SortedIn (ltOf cf) mid b d3 → SortedIn (ltOf cf) a b d3) := Lib.hid (fun d3 p3 q3 => join_halves (by rw [D1Z.out]; exact hb) P12.out p3 Q2.out q3 X1.out)
            have D2Z : Hid (d2.size = d.size) := Lib.hid (by rw [P12.out.1]; exact D1Z.out)
            clear P12 Q2
            by_cases k1 : mid < e
            · by_cases k2 : e < b
              · have g5 : (mid : Int) < (mid : Int) + (m : Int) - (s : Int) := by omega
                have g6 : (mid : Int) + (m : Int) - (s : Int) < (b : Int) := by omega
                go_wp2_with fail
                rw [← D2Z.out]
                refine (IH.out _ _ _ mid e b rfl (by omega) rfl d2 _ (by omega) (by rw [D2Z.out]; exact HZ.out) S2.out (by omega) (by omega) (by rw [D2Z.out]; omega) (by rw [D2Z.out]; exact hsz) (T2.out.1) (T2.out.2)).mono ?_
                rintro e3 w3 ⟨rfl, d3, hS3, hP3, hs3⟩
                have S3 := Lib.hid hS3
                have P3 := Lib.hid hP3
                have Q3 := Lib.hid hs3
                clear hS3 hP3 hs3
                go_wp2
                all_goals go_end0
                all_goals exact ⟨rfl, d3, S3.out, permIn_trans _ _ _ _ _ P2.out (permIn_mono' (by omega) (Nat.le_refl _) (by rw [D2Z.out]; exact hb) P3.out), JOIN.out d3 P3.out Q3.out⟩
              · have g5 : (mid : Int) < (mid : Int) + (m : Int) - (s : Int) := by omega
                have g6 : ¬ (mid : Int) + (m : Int) - (s : Int) < (b : Int) := by omega
                go_wp2
                all_goals go_end0
                all_goals exact ⟨rfl, d2, S2.out, P2.out, JOIN.out d2 (permIn_refl _ _ _) (by have := T2.out.1; rw [show e = b from by omega] at this; exact this)⟩
            · have g5 : ¬ (mid : Int) < (mid : Int) + (m : Int) - (s : Int) := by omega
              go_wp2
              all_goals go_end0
              all_goals exact ⟨rfl, d2, S2.out, P2.out, JOIN.out d2 (permIn_refl _ _ _) (by have := T2.out.2; rw [show e = mid from by omega] at this; exact this)⟩
          · have g3 : (a : Int) < (s : Int) := by omega
            have g4 : ¬ (s : Int) < (mid : Int) := by omega
            have P12 : Hid (PermIn a mid d1 d1) := Lib.hid (permIn_refl _ _ _)
            have Q2 : Hid (SortedIn (ltOf cf) a mid d1) := Lib.hid (by have := T1.out.1; rw [show s = mid from by omega] at this; exact this)
            have S2 := S1
            obtain ⟨d2, E2, P12, Q2, S2⟩ : ∃ d2, Hid (d2 = d1) ∧ Hid (PermIn a mid d1 d2) ∧ Hid (SortedIn (ltOf cf) a mid d2) ∧ Hid (SW enc w0 blk off d2 _) := ⟨_, Lib.hid rfl, P12, Q2, S2⟩
            have P2 := Lib.hid (permIn_trans _ _ _ _ _ P1.out (permIn_mono' (a' := a) (b' := b) (Nat.le_refl _) (by omega) (by rw [D1Z.out]; exact hb) P12.out))
            have T2 : Hid (SortedIn (ltOf cf) mid e d2 ∧ SortedIn (ltOf cf) e b d2) := Lib.hid ⟨fun p q h1 h2 h3 => by rw [P12.out.2.1 p (by omega), P12.out.2.1 q (by omega)]; exact T1.out.2.2.1 p q (by omega) h2 h3, fun p q h1 h2 h3 => by rw [P12.out.2.1 p (by omega), P12.out.2.1 q (by omega)]; exact T1.out.2.2.2 p q h1 h2 h3⟩
            have JOIN : Hid (∀ d3, PermIn mid b d2 d3 → SortedIn (ltOf cf) mid b d3 → SortedIn (ltOf cf) a b d3) := Lib.hid (fun d3 p3 q3 => join_halves (by rw [D1Z.out]; exact hb) P12.out p3 Q2.out q3 X1.out)
            have D2Z : Hid (d2.size = d.size) := Lib.hid (by rw [P12.out.1]; exact D1Z.out)
            clear P12 Q2
            by_cases k1 : mid < e
            · by_cases k2 : e < b
              · have g5 : (mid : Int) < (mid : Int) + (m : Int) - (s : Int) := by omega
                have g6 : (mid : Int) + (m : Int) - (s : Int) < (b : Int) := by omega
                go_wp2_with fail
                rw [← D2Z.out]
                refine (IH.out _ _ _ mid e b rfl (by omega) rfl d2 _ (by omega) (by rw [D2Z.out]; exact HZ.out) S2.out (by omega) (by omega) (by rw [D2Z.out]; omega) (by rw [D2Z.out]; exact hsz) (T2.out.1) (T2.out.2)).mono ?_
                rintro e3 w3 ⟨rfl, d3, hS3, hP3, hs3⟩
                have S3 := Lib.hid hS3
                have P3 := Lib.hid hP3
                have Q3 := Lib.hid hs3
                clear hS3 hP3 hs3
                go_wp2
                all_goals go_end0
                all_goals exact ⟨rfl, d3, S3.out, permIn_trans _ _ _ _ _ P2.out (permIn_mono' (by omega) (Nat.le_refl _) (by rw [D2Z.out]; exact hb) P3.out), JOIN.out d3 P3.out Q3.out⟩
              · have g5 : (mid : Int) < (mid : Int) + (m : Int) - (s : Int) := by omega
                have g6 : ¬ (mid : Int) + (m : Int) - (s : Int) < (b : Int) := by omega
                go_wp2
                all_goals go_end0
                all_goals exact ⟨rfl, d2, S2.out, P2.out, JOIN.out d2 (permIn_refl _ _ _) (by have := T2.out.1; rw [show e = b from by omega] at this; exact this)⟩
            · have g5 : ¬ (mid : Int) < (mid : Int) + (m : Int) - (s : Int) := by omega
              go_wp2
              all_goals go_end0
              all_goals exact ⟨rfl, d2, S2.out, P2.out, JOIN.out d2 (permIn_refl _ _ _) (by have := T2.out.2; rw [show e = mid from by omega] at this; exact this)⟩
        · have g3 : ¬ (a : Int) < (s : Int) := by omega
          have P12 : Hid (PermIn a mid d1 d1) := Lib.hid (permIn_refl _ _ _)
          have Q2 : Hid (SortedIn (ltOf cf) a mid d1) := Lib.hid (by have := T1.out.2.1; rw [HMID.out, show s = a from by omega] at this; exact this)
          have S2 := S1
          obtain ⟨d2, E2, P12, Q2, S2⟩ : ∃ d2, Hid (d2 = d1) ∧ Hid (PermIn a mid d1 d2) ∧ Hid (SortedIn (ltOf cf) a mid d2) ∧ Hid (SW enc w0 blk off d2 _) := ⟨_, Lib.hid rfl, P12, Q2, S2⟩
          have P2 := Lib.hid (permIn_trans _ _ _ _ _ P1.out (permIn_mono' (a' := a) (b' := b) (Nat.le_refl _) (by omega) (by rw [D1Z.out]; exact hb) P12.out))
          have T2 : Hid (SortedIn (ltOf cf) mid e d2 ∧ SortedIn (ltOf cf) e b d2) := Lib.hid ⟨fun p q h1 h2 h3 => by rw [P12.out.2.1 p (by omega), P12.out.2.1 q (by omega)]; exact T1.out.2.2.1 p q (by omega) h2 h3, fun p q h1 h2 h3 => by rw [P12.out.2.1 p (by omega), P12.out.2.1 q (by omega)]; exact T1.out.2.2.2 p q h1 h2 h3⟩
          have JOIN : Hid (∀ d3, PermIn mid b d2 d3 → SortedIn (ltOf cf) mid b d3 → SortedIn (ltOf cf) a b d3) := Lib.hid (fun d3 p3 q3 => join_halves (by rw [D1Z.out]; exact hb) P12.out p3 Q2.out q3 X1.out)
          have D2Z : Hid (d2.size = d.size) := Lib.hid (by rw [P12.out.1]; exact D1Z.out)
          clear P12 Q2
          by_cases k1 : mid < e
          · by_cases k2 : e < b
            · have g5 : (mid : Int) < (mid : Int) + (m : Int) - (s : Int) := by omega
              have g6 : (mid : Int) + (m : Int) - (s : Int) < (b : Int) := by omega
              go_wp2_with fail
              rw [← D2Z.out]
              refine (IH.out _ _ _ mid e b rfl (by omega) rfl d2 _ (by omega) (by rw [D2Z.out]; exact HZ.out) S2.out (by omega) (by omega) (by rw [D2Z.out]; omega) (by rw [D2Z.out]; exact hsz) (T2.out.1) (T2.out.2)).mono ?_
              rintro e3 w3 ⟨rfl, d3, hS3, hP3, hs3⟩
              have S3 := Lib.hid hS3
              have P3 := Lib.hid hP3
              have Q3 := Lib.hid hs3
              clear hS3 hP3 hs3
              go_wp2
              all_goals go_end0
              all_goals exact ⟨rfl, d3, S3.out, permIn_trans _ _ _ _ _ P2.out (permIn_mono' (by omega) (Nat.le_refl _) (by rw [D2Z.out]; exact hb) P3.out), JOIN.out d3 P3.out Q3.out⟩
            · have g5 : (mid : Int) < (mid : Int) + (m : Int) - (s : Int) := by omega
              have g6 : ¬ (mid : Int) + (m : Int) - (s : Int) < (b : Int) := by omega
              go_wp2
              all_goals go_end0
              all_goals exact ⟨rfl, d2, S2.out, P2.out, JOIN.out d2 (permIn_refl _ _ _) (by have := T2.out.1; rw [show e = b from by omega] at this; exact this)⟩
          · have g5 : ¬ (mid : Int) < (mid : Int) + (m : Int) - (s : Int) := by omega
            go_wp2
            all_goals go_end0
            all_goals exact ⟨rfl, d2, S2.out, P2.out, JOIN.out d2 (permIn_refl _ _ _) (by have := T2.out.2; rw [show e = mid from by omega] at this; exact this)⟩
end Go.Proofs.YtgjbnmobhafajaaGreatDoor
end
section
namespace Go.Proofs.YtgjbnmobhafajaaGreatDoor
open Go.Sort
variable {α : Type} [Inhabited α]
def RunsIn (lt : α → α → Bool) (bs lo hi : Nat) (d : Array α) : Prop := ∀ i j, lo ≤ i → i < j → j < hi → i / bs = j / bs → lt d[j]! d[i]! = false
theorem runs_none (lt : α → α → Bool) (bs lo hi : Nat) (d : Array α) (h : hi ≤ lo) : RunsIn lt bs lo hi d := fun i j h1 h2 h3 _ => by omega
theorem div_block {bs q i : Nat} (h1 : q * bs ≤ i) (h2 : i < q * bs + bs) : i / bs = q := by
  have hb : 0 < bs := by omega
  refine Nat.div_eq_of_lt_le h1 ?_
  rw [Nat.succ_mul]; exact h2
theorem runs_block {lt : α → α → Bool} {bs lo hi q : Nat} {d : Array α} (h : RunsIn lt bs lo hi d) (hl : lo ≤ q * bs) {e : Nat} (he : e ≤ q * bs + bs) (hh : e ≤ hi) : SortedIn lt (q * bs) e d :=
  fun i j h1 h2 h3 => h i j (by omega) h2 (by omega) (by rw [div_block (bs := bs) (q := q) h1 (by omega), div_block (bs := bs) (q := q) (by omega) (by omega)])
theorem runs_more {lt : α → α → Bool} {bs q e : Nat} {d d' : Array α} (h : RunsIn lt bs 0 (q * bs) d) (hs : SortedIn lt (q * bs) e d') (hp : ∀ i, i < q * bs → d'[i]! = d[i]!) (he : e ≤ q * bs + bs) : RunsIn lt bs 0 e d' := by
  intro i j h1 h2 h3 h4
  by_cases c1 : q * bs ≤ i
  · exact hs i j c1 h2 h3
  · by_cases c2 : j < q * bs
    · rw [hp i (by omega), hp j c2]; exact h i j h1 h2 c2 h4
    · exfalso
      have hb : 0 < bs := by omega
      have e1 := div_block (bs := bs) (q := q) (by omega) (show j < q * bs + bs by omega)
      have e2 : i / bs < q := Nat.div_lt_of_lt_mul (by rw [Nat.mul_comm]; omega)
      omega
theorem runs_keep {lt : α → α → Bool} {bs lo lo' hi hi' : Nat} {d d' : Array α} (h : RunsIn lt bs lo hi d) (hl : lo ≤ lo') (hh : hi' ≤ hi) (hp : ∀ i, lo' ≤ i → i < hi' → d'[i]! = d[i]!) : RunsIn lt bs lo' hi' d' := by
  intro i j h1 h2 h3 h4
  rw [hp i h1 (by omega), hp j (by omega) h3]
  exact h i j (by omega) h2 (by omega) h4
theorem runs_all {lt : α → α → Bool} {bs n : Nat} {d : Array α} (h : RunsIn lt bs 0 n d) (hn : n ≤ bs) : SortedIn lt 0 n d := by
  intro i j h1 h2 h3
  refine h i j h1 h2 h3 ?_
  rw [Nat.div_eq_of_lt (by omega), Nat.div_eq_of_lt (by omega)]
end Go.Proofs.YtgjbnmobhafajaaGreatDoor
end
section
namespace Go.Proofs.YtgjbnmobhafajaaGreatDoor
open Go.Shelf Go.RowKit Go.Lib Go.Sort
variable {α : Type} [Inhabited α]
set_option linter.unusedVariables false
theorem SymSaid.less {enc : α → Value} {cf : α → α → Int} {g : Nat} {cb : Array Value} {blk off cap : Nat} {w0 : World} {d0 : Array α} {N M : Nat} (h : SymSaid enc cf g cb blk off cap w0 d0 N) (hm : M ≤ N) : SymSaid enc cf g cb blk off cap w0 d0 M :=
  fun za zm zb a m b h1 h2 h3 d w hlt => h za zm zb a m b h1 h2 h3 d w (by omega)
theorem sym_said (enc : α → Value) (cf : α → α → Int) (hO : SWO (ltOf cf)) (g : Nat) (cb : Array Value) (blk off cap : Nat) (d0 : Array α) (w0 : World)
    (eg : ∀ args w, (callFunc g args).run Tryz.prog w = .ok (.enter g args) w) (hcmp : CmpLays1 Tryz.prog g cb enc cf blk off d0.size w0) (R0 : Row1 enc w0 blk off d0) (N : Nat) : SymSaid enc cf g cb blk off cap w0 d0 N := by
  induction N with
  | zero => intro za zm zb a m b h1 h2 h3 d w hlt; omega
  | succ N ih =>
    intro za zm zb a m b h1 h2 h3 d w hlt hs S ham hmb hb hsz sa sb
    by_cases c1 : m = a + 1
    · exact sym_one_ahead enc cf hO g cb blk off cap za zm zb a m b h1 h2 h3 d0 d w0 w eg hcmp R0 hs S ham hmb hb hsz sa sb c1
    · by_cases c2 : b = m + 1
      · exact sym_one_behind enc cf hO g cb blk off cap za zm zb a m b h1 h2 h3 d0 d w0 w eg hcmp R0 hs S ham hmb hb hsz sa sb c2 c1
      · have ih' := ih.less (M := b - a) (by omega)
        by_cases c3 : (a + b) / 2 < m
        · exact sym_more enc cf hO g cb blk off cap za zm zb a m b h1 h2 h3 d0 d w0 w eg hcmp R0 hs S ham hmb hb hsz sa sb c1 c2 _ rfl c3 ih'
        · exact sym_less enc cf hO g cb blk off cap za zm zb a m b h1 h2 h3 d0 d w0 w eg hcmp R0 hs S ham hmb hb hsz sa sb c1 c2 _ rfl (by omega) ih'
def Sofar (enc : α → Value) (cf : α → α → Int) (w0 : World) (blk off bs A : Nat) (d : Array α) (W : World) : Prop :=
  ∃ dk, SW enc w0 blk off dk W ∧ PermIn 0 d.size d dk ∧ RunsIn (ltOf cf) bs 0 A dk
def Sofar2 (enc : α → Value) (cf : α → α → Int) (w0 : World) (blk off bs A : Nat) (d : Array α) (W : World) : Prop :=
  ∃ dk, SW enc w0 blk off dk W ∧ PermIn 0 d.size d dk ∧ RunsIn (ltOf cf) (2 * bs) 0 A dk ∧ RunsIn (ltOf cf) bs A d.size dk
set_option maxHeartbeats 8000000 in
set_option maxRecDepth 1000000 in
theorem stable.calls_f45 (enc : α → Value) (cf : α → α → Int) (hO : SWO (ltOf cf)) (g : Nat) (cb : Array Value) (blk off cap : Nat) (d : Array α) (w : World)
    (eg : ∀ args w, (callFunc g args).run Tryz.prog w = .ok (.enter g args) w) (hcmp : CmpLays1 Tryz.prog g cb enc cf blk off d.size w) (R0 : Row1 enc w blk off d) (hsz : d.size < 1152921504606846976) :
    Calls Tryz.prog 45 #[.slice (some ⟨blk, off, none⟩) d.size cap, .int .i64 d.size, .func (.func g) #[] cb] w (SymPost enc cf w blk off 0 d.size d) := by
  obtain ⟨w0, hw0⟩ : ∃ w0, w0 = w := ⟨_, rfl⟩
  rw [← hw0] at hcmp R0
  have hpost : SymPost enc cf w blk off 0 d.size d = SymPost enc cf w0 blk off 0 d.size d := by rw [hw0]
  rw [hpost]
  have S0 : Hid (Sofar enc cf w0 blk off 20 0 d w) := Lib.hid ⟨d, by rw [hw0]; exact ⟨0, #[], by rw [sortWorld_none]; exact (putRow_self _ _ _ _ _ (by rw [← hw0]; exact R0.hH)).symm⟩, permIn_refl _ _ _, runs_none _ _ _ _ _ (Nat.le_refl _)⟩
  clear hpost hw0
  have R := Lib.hid R0
  have HC := Lib.hid hcmp
  have SYM := Lib.hid (fun N => sym_said enc cf hO g cb blk off cap d w0 eg hcmp R0 N)
  have INS := Lib.hid (fun (dk : Array α) (a b : Nat) (h1 : a ≤ b) (h2 : b ≤ dk.size) => insertionSort_holds hO dk a b h1 h2)
  clear R0 hcmp
  go_enter Tryz.func45, Tryz.ntmps45
  go_wp2
  go_loopg [7, 8] d.size (fun kx s7 s8 wr => ∃ q A : Nat, Hid (A = q * 20) ∧ s7 = .int .i64 A ∧ s8 = .int .i64 ((A : Int) + 20) ∧ A ≤ d.size ∧ d.size - A ≤ kx ∧ Hid (Sofar enc cf w0 blk off 20 A d wr))
  case atStart => exact ⟨0, 0, Lib.hid rfl, rfl, rfl, by omega, by omega, S0⟩
  case round =>
    clear S0
    obtain ⟨q, A, HQ, rfl, rfl, hA, hkx, S1⟩ := hrel
    obtain ⟨dk, hS, hP, hR⟩ := S1.out
    have HS := Lib.hid hS
    have HP := Lib.hid hP
    have HR := Lib.hid hR
    have HZ := Lib.hid hP.1
    clear hS hP hR S1
    by_cases hlt : A + 20 ≤ d.size
    · have hltz : (A : Int) + 20 ≤ (d.size : Int) := by omega
      go_wp2_with fail
      rw [← HZ.out, show (A : Int) + 20 = ((A + 20 : Nat) : Int) from by omega]
      refine (Tryz.insertionSortCmpFunc_s enc cf g cb blk off cap A (A + 20) d dk w0 _ eg HC.out R.out HZ.out.symm HS.out (by omega) (by rw [HZ.out]; exact hlt) (by rw [HZ.out]; omega)).mono ?_
      rintro e w1 ⟨rfl, hS2⟩
      have HS2 := Lib.hid hS2
      clear hS2
      have HI := Lib.hid (INS.out dk A (A + 20) (by omega) (by rw [HZ.out]; exact hlt))
      rw [HZ.out]
      go_wp2
      go_roundg (d.size - (A + 20))
      case measure => omega
      case rel =>
        refine ⟨q + 1, A + 20, Lib.hid (by have := HQ.out; omega), by go_num, by first | rfl | (congr 1; omega), hlt, Nat.le_refl _, Lib.hid ⟨_, HS2.out, permIn_trans _ _ _ _ _ HP.out (permIn_mono' (Nat.zero_le _) hlt (by rw [HZ.out]; omega) HI.out.1), ?_⟩⟩
        have hq := HQ.out
        have hr := HR.out
        have hi := HI.out
        rw [hq] at hr hi ⊢
        exact runs_more hr hi.2 (fun i h => hi.1.2.1 i (by omega)) (Nat.le_refl _)
    · have hltz : ¬ (A : Int) + 20 ≤ (d.size : Int) := by omega
      go_wp2_with fail
      rw [← HZ.out]
      refine (Tryz.insertionSortCmpFunc_s enc cf g cb blk off cap A dk.size d dk w0 _ eg HC.out R.out HZ.out.symm HS.out (by rw [HZ.out]; omega) (Nat.le_refl _) (by rw [HZ.out]; omega)).mono ?_
      rintro e w1 ⟨rfl, hS2⟩
      have HI := Lib.hid (INS.out dk A d.size (by omega) (by rw [HZ.out]; exact Nat.le_refl _))
      rw [HZ.out] at hS2
      have S2 : Hid (Sofar enc cf w0 blk off 20 d.size d w1) := Lib.hid ⟨_, hS2, permIn_trans _ _ _ _ _ HP.out (permIn_mono' (Nat.zero_le _) (Nat.le_refl _) (by rw [HZ.out]; omega) HI.out.1), by
        have hq := HQ.out
        have hr := HR.out
        have hi := HI.out
        rw [hq] at hr hi ⊢
        exact runs_more hr hi.2 (fun i h => hi.1.2.1 i (by omega)) (by omega)⟩
      clear hS2 HI HS HP HR HQ
      rw [HZ.out]
      clear HZ
      go_wp2
      go_loopg [6, 7, 8, 9] (d.size + 20) (fun kx s6 s7 s8 s9 wr => ∃ bs : Nat, s6 = .int .i64 bs ∧ 20 ≤ bs ∧ bs < 2 * d.size + 21 ∧ d.size + 20 - bs ≤ kx ∧ Hid (Sofar enc cf w0 blk off bs d.size d wr))
      case atStart => exact ⟨20, rfl, by omega, by omega, by omega, S2⟩
      case round =>
        clear S2 hltz hlt
        obtain ⟨bs, rfl, hb1, hb2, hkx2, S3⟩ := hrel
        by_cases hbn : bs < d.size
        · have hbz : (bs : Int) < (d.size : Int) := by omega
          have S4 : Hid (Sofar2 enc cf w0 blk off bs 0 d wr) := by
            obtain ⟨dk2, h1, h2, h3⟩ := S3.out
            exact Lib.hid ⟨dk2, h1, h2, runs_none _ _ _ _ _ (Nat.le_refl _), h3⟩
          clear S3
          go_wp2
          go_loopg [7, 8] d.size (fun kx s7 s8 wr => ∃ q A : Nat, Hid (A = q * (2 * bs)) ∧ s7 = .int .i64 A ∧ s8 = .int .i64 ((A : Int) + 2 * (bs : Int)) ∧ A ≤ d.size ∧ d.size - A ≤ kx ∧ Hid (Sofar2 enc cf w0 blk off bs A d wr))
          case atStart => exact ⟨0, 0, Lib.hid (by omega), rfl, by first | rfl | (congr 1; omega), by omega, by omega, S4⟩
          case round =>
            clear S4
            obtain ⟨q, A2, HQ, rfl, rfl, hA2, hkx3, S5⟩ := hrel
            obtain ⟨dk, hS, hP, hR, hR1⟩ := S5.out
            have HS := Lib.hid hS
            have HP := Lib.hid hP
            have HR := Lib.hid hR
            have HR1 := Lib.hid hR1
            have HZ := Lib.hid hP.1
            clear hS hP hR hR1 S5
            have HQ2 : Hid (A2 = (2 * q) * bs) := Lib.hid (by rw [HQ.out, Nat.mul_comm 2 q, Nat.mul_assoc])
            have HQ3 : Hid (A2 + bs = (2 * q + 1) * bs) := Lib.hid (by rw [HQ2.out, Nat.add_mul, Nat.one_mul])
            by_cases hl2 : A2 + 2 * bs ≤ d.size
            · have hl2z : (A2 : Int) + 2 * (bs : Int) ≤ (d.size : Int) := by omega
              have sA : Hid (SortedIn (ltOf cf) A2 (A2 + bs) dk) := Lib.hid (by
                have h := HR1.out
                rw [HQ2.out] at h ⊢
                exact runs_block h (Nat.le_refl _) (Nat.le_refl _) (by rw [← HQ2.out]; omega))
              have sB : Hid (SortedIn (ltOf cf) (A2 + bs) (A2 + 2 * bs) dk) := Lib.hid (by
                have h := HR1.out
                have h3 := HQ3.out
                have e2 : A2 + 2 * bs = A2 + bs + bs := by omega
                rw [e2, h3]
                exact runs_block h (by rw [← h3]; omega) (Nat.le_refl _) (by rw [← h3]; omega))
              go_wp2_with fail
              rw [← HZ.out]
              refine (SYM.out (2 * bs + 1) _ _ _ A2 (A2 + bs) (A2 + 2 * bs) rfl (by omega) (by omega) dk _ (by omega) HZ.out.symm HS.out (by omega) (by omega) (by rw [HZ.out]; exact hl2) (by rw [HZ.out]; omega) sA.out sB.out).mono ?_
              rintro e w2 ⟨rfl, d2, hS2, hP2, hs2⟩
              have S6 : Hid (Sofar2 enc cf w0 blk off bs (A2 + 2 * bs) d w2) := Lib.hid ⟨d2, hS2, permIn_trans _ _ _ _ _ HP.out (permIn_mono' (Nat.zero_le _) hl2 (by rw [HZ.out]; omega) hP2), by
                have hr := HR.out
                have hq := HQ.out
                rw [hq] at hr hs2 hP2 ⊢
                exact runs_more hr hs2 (fun i h => hP2.2.1 i (by omega)) (Nat.le_refl _),
                runs_keep HR1.out (by omega) (Nat.le_refl _) (fun i h1 h2 => hP2.2.1 i (by omega))⟩
              clear hS2 hP2 hs2 sA sB HS HP HR HR1
              rw [HZ.out]
              clear HZ
              go_wp2
              go_roundg (d.size - (A2 + 2 * bs))
              case measure => omega
              case rel => exact ⟨q + 1, A2 + 2 * bs, Lib.hid (by rw [HQ.out, Nat.add_mul q 1, Nat.one_mul]), by first | rfl | go_num | (congr 1; omega), by first | rfl | (congr 1; omega), hl2, Nat.le_refl _, S6⟩
            · have hl2z : ¬ (A2 : Int) + 2 * (bs : Int) ≤ (d.size : Int) := by omega
              by_cases hm : A2 + bs < d.size
              · have hmz : (A2 : Int) + (bs : Int) < (d.size : Int) := by omega
                have sA : Hid (SortedIn (ltOf cf) A2 (A2 + bs) dk) := Lib.hid (by
                  have h := HR1.out
                  rw [HQ2.out] at h ⊢
                  exact runs_block h (Nat.le_refl _) (Nat.le_refl _) (by rw [← HQ2.out]; omega))
                have sB : Hid (SortedIn (ltOf cf) (A2 + bs) d.size dk) := Lib.hid (by
                  have h := HR1.out
                  have h3 := HQ3.out
                  rw [h3]
                  exact runs_block h (by rw [← h3]; omega) (by rw [← h3]; omega) (Nat.le_refl _))
                go_wp2_with fail
                rw [← HZ.out]
                refine (SYM.out (dk.size - A2 + 1) _ _ _ A2 (A2 + bs) dk.size rfl (by omega) rfl dk _ (by omega) HZ.out.symm HS.out (by omega) (by rw [HZ.out]; omega) (Nat.le_refl _) (by rw [HZ.out]; omega) sA.out (by rw [HZ.out]; exact sB.out)).mono ?_
                rintro e w2 ⟨rfl, d2, hS2, hP2, hs2⟩
                rw [HZ.out] at hP2 hs2
                have S6 : Hid (Sofar enc cf w0 blk off (2 * bs) d.size d w2) := Lib.hid ⟨d2, hS2, permIn_trans _ _ _ _ _ HP.out (permIn_mono' (Nat.zero_le _) (Nat.le_refl _) (by rw [HZ.out]; omega) hP2), by
                  have hr := HR.out
                  have hq := HQ.out
                  rw [hq] at hr hs2 hP2
                  exact runs_more hr hs2 (fun i h => hP2.2.1 i (by omega)) (by rw [← hq]; omega)⟩
                clear hS2 hP2 hs2 sA sB HS HP HR HR1
                rw [HZ.out]
                clear HZ
                go_wp2
                go_roundg (d.size + 20 - 2 * bs)
                case measure => omega
                case rel => exact ⟨2 * bs, by first | rfl | go_num | (congr 1; omega), by omega, by omega, by omega, S6⟩
              · have hmz : ¬ (A2 : Int) + (bs : Int) < (d.size : Int) := by omega
                have S6 : Hid (Sofar enc cf w0 blk off (2 * bs) d.size d wr) := Lib.hid ⟨dk, HS.out, HP.out, by
                  have hr := HR.out
                  have hq := HQ.out
                  have sA : SortedIn (ltOf cf) A2 d.size dk := by
                    have h := HR1.out
                    rw [HQ2.out] at h ⊢
                    exact runs_block h (Nat.le_refl _) (by rw [← HQ2.out]; omega) (Nat.le_refl _)
                  rw [hq] at hr sA
                  exact runs_more hr sA (fun i h => rfl) (by rw [← hq]; omega)⟩
                clear HS HP HR HR1
                go_wp2
                go_roundg (d.size + 20 - 2 * bs)
                case measure => omega
                case rel => exact ⟨2 * bs, by first | rfl | go_num | (congr 1; omega), by omega, by omega, by omega, S6⟩
        · have hbz : ¬ (bs : Int) < (d.size : Int) := by omega
          go_wp2
          go_end0
          obtain ⟨dk2, h1, h2, h3⟩ := S3.out
          exact ⟨rfl, dk2, h1, h2, runs_all h3 (by omega)⟩
end Go.Proofs.YtgjbnmobhafajaaGreatDoor
end
end
