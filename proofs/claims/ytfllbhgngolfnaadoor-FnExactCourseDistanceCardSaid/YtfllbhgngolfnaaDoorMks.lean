/- Marks in memory; the index of a name. -/
import Derived.Test.YtfllbhgngolfnaaDoorMk
import Derived.Test.YtfllbhgngolfnaaDoorMid
import Derived.Shelf.Abstract
set_option linter.unusedSimpArgs false
set_option linter.unusedVariables false
namespace Go.Proofs.YtfllbhgngolfnaaDoor
open Go.RowKit Go.Shelf

structure MkV where
  S : ByteArray
  x : Int
  y : Int
  s : Int
  z : Int
/-- The n marks M lie in a row that begins at A (nothing is said of A where n is 0), below block B. -/
def Mks (w : World) (B : Nat) (A : Option Addr) (n : Nat) (M : Nat → MkV) : Prop :=
  0 < n → ∃ b o, A = some ⟨b, o, none⟩ ∧ b < B ∧ ∀ j, j < n → w.cell? ⟨b, o + j * 5, none⟩ = some (.string (M j).S) ∧ w.cell? ⟨b, o + j * 5 + 1, none⟩ = some (.int .i64 (M j).x) ∧ w.cell? ⟨b, o + j * 5 + 2, none⟩ = some (.int .i64 (M j).y) ∧ w.cell? ⟨b, o + j * 5 + 3, none⟩ = some (.int .i64 (M j).s) ∧ w.cell? ⟨b, o + j * 5 + 4, none⟩ = some (.int .i64 (M j).z)
section
variable {w w' : World} {B n : Nat} {A : Option Addr} {M : Nat → MkV}
theorem Mks.keep (h : Mks w B A n M) (hk : ∀ p : Addr, p.block < B → w'.cell? p = w.cell? p) : Mks w' B A n M := fun hn => by
  obtain ⟨b, o, e, hb, hc⟩ := h hn
  refine ⟨b, o, e, hb, fun j hj => ?_⟩
  rw [hk _ hb, hk _ hb, hk _ hb, hk _ hb, hk _ hb]
  exact hc j hj
theorem Mks.below (h : Mks w B A n M) (hb : Below B w w') : Mks w' B A n M := h.keep fun _ hp => hb.cell hp
theorem Mks.more {B' : Nat} (h : Mks w B A n M) (hB : B ≤ B') : Mks w B' A n M := fun hn => by
  obtain ⟨b, o, e, hb, hc⟩ := h hn
  exact ⟨b, o, e, by omega, hc⟩
theorem Mks.fewer {m : Nat} (h : Mks w B A n M) (hm : m ≤ n) : Mks w B A m M := fun hn => by
  obtain ⟨b, o, e, hb, hc⟩ := h (by omega)
  exact ⟨b, o, e, hb, fun j hj => hc j (by omega)⟩
end
/-- Has one of the first k marks this name? -/
def hasN (M : Nat → MkV) (S : ByteArray) : Nat → Bool
  | 0 => false
  | k + 1 => hasN M S k || decide ((M k).S = S)
theorem hasN_of {M : Nat → MkV} {S : ByteArray} {i : Nat} (h : (M i).S = S) : ∀ k, i < k → hasN M S k = true := by
  intro k
  induction k with
  | zero => intro h; omega
  | succ k ih =>
    intro h1
    unfold hasN
    by_cases e : i = k
    · subst e; simp [h]
    · rw [ih (by omega)]; rfl
/-- i is the first of the n marks with the name (n if none has it), r what the search returns. -/
def Fst (M : Nat → MkV) (S : ByteArray) (n i : Nat) (r : Int) : Prop := i ≤ n ∧ hasN M S i = false ∧ ((i < n ∧ (M i).S = S ∧ r = (i : Int)) ∨ (i = n ∧ r = -1))
theorem fst_ex (M : Nat → MkV) (S : ByteArray) : ∀ n, ∃ i r, Fst M S n i r
  | 0 => ⟨0, -1, Nat.le_refl _, rfl, .inr ⟨rfl, rfl⟩⟩
  | n + 1 => by
    obtain ⟨i, r, h1, h2, h3⟩ := fst_ex M S n
    rcases h3 with ⟨a, b, c⟩ | ⟨a, b⟩
    · exact ⟨i, r, by omega, h2, .inl ⟨by omega, b, c⟩⟩
    · subst a
      by_cases h : (M i).S = S
      · exact ⟨i, i, by omega, h2, .inl ⟨by omega, h, rfl⟩⟩
      · exact ⟨i + 1, -1, by omega, by unfold hasN; rw [h2]; simpa using h, .inr ⟨rfl, rfl⟩⟩
theorem fst_ge {M : Nat → MkV} {S : ByteArray} {n i : Nat} {r : Int} (h : Fst M S n i r) : decide (0 ≤ r) = hasN M S n := by
  obtain ⟨h1, h2, ⟨a, b, rfl⟩ | ⟨rfl, rfl⟩⟩ := h
  · rw [hasN_of b n a]; simp
  · rw [h2]; rfl
theorem fst_ne {M : Nat → MkV} {n f i : Nat} {r : Int} (h : Fst M (M i).S n f r) (hi : i < n) : (r != (i : Int)) = hasN M (M i).S i := by
  obtain ⟨h1, h2, ⟨a, b, rfl⟩ | ⟨rfl, rfl⟩⟩ := h
  · by_cases e : f = i
    · subst e; rw [h2]; simp
    · have : ¬ i < f := fun h3 => by rw [hasN_of (M := M) (S := (M i).S) (i := i) rfl f h3] at h2; cases h2
      rw [hasN_of b i (by omega)]
      simp; omega
  · rw [hasN_of (M := M) (S := (M i).S) (i := i) rfl f hi] at h2; cases h2
theorem fst_off {M : Nat → MkV} {S : ByteArray} {n i k : Nat} {r : Int} (h : Fst M S n i r) (hk : k < i) : ¬ (M k).S = S := fun e => by
  have h2 := h.2.1
  rw [hasN_of e i hk] at h2; cases h2
theorem fst_on {M : Nat → MkV} {S : ByteArray} {n i : Nat} {r : Int} (h : Fst M S n i r) (hi : i < n) : (M i).S = S ∧ r = (i : Int) := by
  obtain ⟨h1, h2, ⟨a, b, c⟩ | ⟨rfl, rfl⟩⟩ := h
  · exact ⟨b, c⟩
  · omega
theorem fst_end {M : Nat → MkV} {S : ByteArray} {n : Nat} {r : Int} (h : Fst M S n n r) : r = -1 := by
  obtain ⟨h1, h2, ⟨a, b, c⟩ | ⟨_, rfl⟩⟩ := h
  · omega
  · rfl
theorem beqS (X S : ByteArray) : (X.toList == S.toList) = decide (X = S) := by
  rw [← beq_toListBytes]
  rcases X with ⟨a⟩
  rcases S with ⟨b⟩
  show (a == b) = _
  by_cases h : a = b
  · subst h; simp
  · rw [beq_eq_false_iff_ne.2 h, decide_eq_false (fun e => h (by injection e))]
set_option maxHeartbeats 4000000 in
theorem l04Named_any (a b c d e f g h : Int) (A : Option Addr) (n cp B : Nat) (M : Nat → MkV) (S : ByteArray) (i : Nat) (r : Int) (hF : Fst M S n i r) (w : World) (hx : Mks w B A n M) (hB : B ≤ w.heap.size) (hn : n ≤ 9223372036854775807) :
    Calls Tryd.prog 31 #[.agg #[.int .i64 a, .int .i64 b, .int .i64 c, .int .i64 d, .int .i64 e, .int .i64 f, .int .i64 g, .int .i64 h, .slice A n cp], .string S] w fun e w' => e = .returned (.int .i64 r) ∧ Below w.heap.size w w' := by
  have hb0 := (Below.refl w.heap.size w).alloc (Nat.le_refl _) (.cells #[.int .i64 a, .int .i64 b, .int .i64 c, .int .i64 d, .int .i64 e, .int .i64 f, .int .i64 g, .int .i64 h, .slice A n cp] 37)
  have hin := hF.1
  replace hx := Lib.hid hx
  replace hb0 := Lib.hid hb0
  replace hF := Lib.hid hF
  go_enter Tryd.func31, Tryd.ntmps31
  go_wp2_with fail
  go_loopw [5] (fun v5 wr => ∃ k : Nat, k ≤ i ∧ v5 = .int .i64 k ∧ w.alloc (.cells #[.int .i64 a, .int .i64 b, .int .i64 c, .int .i64 d, .int .i64 e, .int .i64 f, .int .i64 g, .int .i64 h, .slice A n cp] 37) = wr) (fun v5 _ => (i - intOf v5).toNat)
  case atStart => exact ⟨0, by omega, rfl, rfl⟩
  case round =>
    obtain ⟨k, hk, rfl, rfl⟩ := hrel
    by_cases hlt : k < n
    · obtain ⟨b', o, rfl, hbB, hcode⟩ := hx.out (by omega)
      have g0 : (w.alloc (.cells #[.int .i64 a, .int .i64 b, .int .i64 c, .int .i64 d, .int .i64 e, .int .i64 f, .int .i64 g, .int .i64 h, .slice (some ⟨b', o, none⟩) n cp] 37)).cell? ⟨b', o + k * 5, none⟩ = some (.string (M k).S) := by
        rw [hb0.out.cell (by simp; omega)]; exact (hcode k hlt).1
      clear hcode
      by_cases hki : k = i
      · subst hki
        obtain ⟨hX, hr⟩ := fst_on hF.out hlt
        rw [hX] at g0
        replace hr := Lib.hid hr
        clear hX
        go_wp2
        go_ret
        exact ⟨by rw [hr.out]; rfl, hb0.out⟩
      · have hXS := fst_off hF.out (show k < i by omega)
        obtain ⟨X, hX⟩ : ∃ X, (M k).S = X := ⟨_, rfl⟩
        rw [hX] at g0 hXS
        have hXS' : (X.toList == S.toList) = false := by rw [beqS]; simpa using hXS
        clear hX
        go_wp2
        go_roundw
        case rel => exact ⟨k + 1, by omega, by go_num, trivial⟩
        case measure => simp [intOf]; omega
    · obtain rfl : k = n := by omega
      obtain rfl : k = i := by omega
      have hr := fst_end hF.out
      replace hr := Lib.hid hr
      go_wp2
      go_ret
      exact ⟨by rw [hr.out]; rfl, hb0.out⟩
set_option maxHeartbeats 2000000 in
theorem isNamedF_any (T S : ByteArray) (x y s z : Int) (g : Nat) (v : Bool) (hv : decide (T = S) = v) (W : World) (hg : g < W.heap.size) (hc : W.cell? ⟨g, 0, none⟩ = some (.string S)) :
    Calls Tryd.prog 50 #[.agg #[.string T, .int .i64 x, .int .i64 y, .int .i64 s, .int .i64 z], .pointer (some ⟨g, 0, none⟩)] W fun e w' => e = .returned (.bool v) ∧ Below W.heap.size W w' := by
  have hv2 : (T.toList == S.toList) = v := by rw [beqS]; exact hv
  clear hv
  go_enter Tryd.func50, Tryd.ntmps50
  go_wp2
  go_ret
  exact ⟨rfl, (Below.refl _ _).alloc (Nat.le_refl _) _⟩
set_option maxHeartbeats 4000000 in
theorem indexFunc_any (A : Option Addr) (n c B : Nat) (M : Nat → MkV) (S : ByteArray) (g i : Nat) (r : Int) (hF : Fst M S n i r) (w : World) (hx : Mks w B A n M) (hB : B ≤ w.heap.size) (hn : n ≤ 9223372036854775807) (hg : g < w.heap.size) (hc : w.cell? ⟨g, 0, none⟩ = some (.string S)) :
    Calls Tryd.prog 49 #[.slice A n c, .func (.func 50) #[] #[.pointer (some ⟨g, 0, none⟩)]] w fun e w' => e = .returned (.int .i64 r) ∧ Below w.heap.size w w' := by
  have eg : ∀ args w, (callFunc 50 args).run Tryd.prog w = .ok (.enter 50 args) w := enters_of Tryd.func50 (by kernel_rfl) rfl
  have hin := hF.1
  replace hx := Lib.hid hx
  replace hF := Lib.hid hF
  go_enter Tryd.func49, Tryd.ntmps49
  go_wp2_with fail
  go_loopw [5, 8] (fun v5 v8 wr => ∃ k : Nat, k ≤ i ∧ v8 = .int .i64 k ∧ Below w.heap.size w wr) (fun v5 v8 _ => (n - intOf v8).toNat)
  case atStart => exact ⟨0, by omega, rfl, Below.refl _ _⟩
  case round =>
    obtain ⟨k, hk, rfl, hbel⟩ := hrel
    have hsz := hbel.size
    by_cases hlt : k < n
    · obtain ⟨b, o, rfl, hadB, hcode⟩ := hx.out (by omega)
      obtain ⟨g0, g1, g2, g3, g4⟩ := hcode k hlt
      rw [← hbel.cell (by simp; omega)] at g0 g1 g2 g3 g4
      clear hcode
      by_cases hki : k = i
      · subst hki
        obtain ⟨hX, hr⟩ := fst_on hF.out hlt
        have hcall := isNamedF_any (M k).S S (M k).x (M k).y (M k).s (M k).z g true (by simpa using hX) wr (by omega) ((hbel.cell (p := ⟨g, 0, none⟩) hg).trans hc)
        generalize (M k).S = T at *
        generalize (M k).x = x at *
        generalize (M k).y = y at *
        generalize (M k).s = s at *
        generalize (M k).z = z at *
        replace hr := Lib.hid hr
        clear hX
        go_wp2_with (go_at_fn 50; refine hcall.mono ?_; rintro e w' ⟨rfl, hb'⟩)
        go_ret
        exact ⟨by rw [hr.out]; rfl, hbel.trans (hb'.mono hsz)⟩
      · have hX := fst_off hF.out (show k < i by omega)
        have hcall := isNamedF_any (M k).S S (M k).x (M k).y (M k).s (M k).z g false (by simpa using hX) wr (by omega) ((hbel.cell (p := ⟨g, 0, none⟩) hg).trans hc)
        generalize (M k).S = T at *
        generalize (M k).x = x at *
        generalize (M k).y = y at *
        generalize (M k).s = s at *
        generalize (M k).z = z at *
        clear hX
        go_wp2_with (go_at_fn 50; refine hcall.mono ?_; rintro e w' ⟨rfl, hb'⟩)
        go_roundw
        case rel => exact ⟨k + 1, by omega, by go_num, hbel.trans (hb'.mono hsz)⟩
        case measure => simp [intOf]; omega
    · obtain rfl : k = n := by omega
      obtain rfl : k = i := by omega
      have hr := fst_end hF.out
      replace hr := Lib.hid hr
      go_wp2
      go_ret
      exact ⟨by rw [hr.out]; rfl, hbel⟩
set_option maxHeartbeats 4000000 in
theorem markNamed_any (A : Option Addr) (n c B : Nat) (M : Nat → MkV) (S : ByteArray) (i : Nat) (r : Int) (hF : Fst M S n i r) (w : World) (hx : Mks w B A n M) (hB : B ≤ w.heap.size) (hn : n ≤ 9223372036854775807) :
    Calls Tryd.prog 37 #[.slice A n c, .string S] w fun e w' => e = .returned (.int .i64 r) ∧ Below w.heap.size w w' := by
  have hb0 := (Below.refl w.heap.size w).alloc (Nat.le_refl _) (.cells #[.string S] 9)
  have hcall := indexFunc_any A n c B M S w.heap.size i r hF (w.alloc (.cells #[.string S] 9)) (hx.below (hb0.mono hB)) (by simp; omega) hn (by simp) (by simp)
  replace hcall := Lib.hid hcall
  clear hx hF
  go_enter Tryd.func37, Tryd.ntmps37
  go_wp2_with fail
  refine hcall.out.mono ?_
  rintro e w' ⟨rfl, hb⟩
  go_wp2
  go_ret
  exact ⟨rfl, hb0.trans (hb.mono (by simp))⟩
end Go.Proofs.YtfllbhgngolfnaaDoor
