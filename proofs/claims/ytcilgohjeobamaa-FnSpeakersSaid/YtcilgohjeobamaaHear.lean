/- Statements of a hearing: which lists are valid: the program's and the reference's. -/
import Derived.Test.YtcilgohjeobamaaBase
import Derived.Test.YtcilgohjeobamaaMem
import Derived.Test.YtcilgohjeobamaaSStatement
import Derived.Test.YtcilgohjeobamaaOwn
import Derived.Shelf.Abstract
import Derived.RegionTactic
import Derived.BigRegion
import Derived.Handy
set_option linter.unusedSimpArgs false
set_option linter.unusedVariables false
namespace Go.Proofs.Ytcilgohjeobamaa
open Go.RowKit Go.Shelf

/-- Is one of the first m statements of a speaker about a fact? -/
def dupV (xs : Nat → Int) (sp f : Int) : Nat → Bool
  | 0 => false
  | k + 1 => dupV xs sp f k || ((xs (k * 3) == sp) && (xs (k * 3 + 1) == f))
theorem dupV_of {xs : Nat → Int} {sp f : Int} {i : Nat} (h1 : xs (i * 3) = sp) (h2 : xs (i * 3 + 1) = f) : ∀ k, i < k → dupV xs sp f k = true := by
  intro k
  induction k with
  | zero => intro h; omega
  | succ k ih =>
    intro h
    unfold dupV
    by_cases e : i = k
    · subst e; simp [h1, h2]
    · rw [ih (by omega)]; rfl
def okT (pb pa : Int) (xs : Nat → Int) (i : Nat) : Bool :=
  ((xs (i * 3) == pb) || (xs (i * 3) == pa) || inB (xs (i * 3)) 100 199) && inB (xs (i * 3 + 1)) 0 7 && ((xs (i * 3 + 2) == 1) || (xs (i * 3 + 2) == -1)) && !dupV xs (xs (i * 3)) (xs (i * 3 + 1)) i
def stB (pb pa : Int) (n : Nat) (xs : Nat → Int) : Bool := decide (n ≤ 60) && (List.range n).all (okT pb pa xs)
theorem stB_all {pb pa : Int} {n : Nat} {xs : Nat → Int} (h : ∀ i, i < n → okT pb pa xs i = true) : stB pb pa n xs = decide (n ≤ 60) := by
  unfold stB
  rw [List.all_eq_true.2 (fun i hi => h i (List.mem_range.1 hi)), Bool.and_true]
theorem stB_no {pb pa : Int} {n : Nat} {xs : Nat → Int} {i : Nat} (hi : i < n) (h : okT pb pa xs i = false) : stB pb pa n xs = false := by
  unfold stB
  rw [List.all_eq_false.2 ⟨i, List.mem_range.2 hi, by rw [h]; simp⟩, Bool.and_false]
theorem stB_t {pb pa : Int} {n : Nat} {xs : Nat → Int} (h : stB pb pa n xs = true) : n ≤ 60 ∧ ∀ i, i < n → okT pb pa xs i = true := by
  unfold stB at h
  simp only [Bool.and_eq_true, decide_eq_true_eq, List.all_eq_true, List.mem_range] at h
  exact h
set_option maxHeartbeats 2000000 in
theorem sameF_any (a b c sp f sy : Int) (g : Nat) (W : World) (hg : Whole W g 59 #[.int .i64 sp, .int .i64 f, .int .i64 sy]) :
    Calls Try.prog 82 #[.agg #[.int .i64 a, .int .i64 b, .int .i64 c], .pointer (some ⟨g, 0, none⟩)] W fun e w' => e = .returned (.bool ((a == sp) && (b == f))) ∧ Below W.heap.size W w' := by
  have y0 := hg.cell 0
  have y1 := hg.cell 1
  simp at y0 y1
  have hl := hg.lt
  by_cases h1 : a = sp
  · subst h1
    by_cases h2 : b = f
    · subst h2
      rw [show ((a == a) && (b == b)) = true by simp]
      go_enter Try.func82, Try.ntmps82
      go_wp2
      all_goals (go_ret; exact ⟨rfl, (Below.refl _ _).alloc (Nat.le_refl _) _⟩)
    · have n2 : (b == f) = false := by rw [beq_eq_false_iff_ne]; exact h2
      rw [show ((a == a) && (b == f)) = false by rw [n2]; simp]
      go_enter Try.func82, Try.ntmps82
      go_wp2
      all_goals (go_ret; exact ⟨rfl, (Below.refl _ _).alloc (Nat.le_refl _) _⟩)
  · have n1 : (a == sp) = false := by rw [beq_eq_false_iff_ne]; exact h1
    rw [show ((a == sp) && (b == f)) = false by rw [n1]; rfl]
    go_enter Try.func82, Try.ntmps82
    go_wp2
    all_goals (go_ret; exact ⟨rfl, (Below.refl _ _).alloc (Nat.le_refl _) _⟩)
set_option maxHeartbeats 2000000 in
theorem indexS_any (A : Option Addr) (n c B : Nat) (xs : Nat → Int) (sp f sy : Int) (g : Nat) (w : World) (hx : Ints w B A (n * 3) xs) (hB : B ≤ w.heap.size) (hn : n ≤ 9223372036854775807) (hg : Whole w g 59 #[.int .i64 sp, .int .i64 f, .int .i64 sy]) :
    Calls Try.prog 86 #[.slice A n c, .func (.func 82) #[] #[.pointer (some ⟨g, 0, none⟩)]] w fun e w' => ∃ r : Int, e = .returned (.int .i64 r) ∧ decide (0 ≤ r) = dupV xs sp f n ∧ Below w.heap.size w w' := by
  have eg : ∀ args w, (callFunc 82 args).run Try.prog w = .ok (.enter 82 args) w := enters_of Try.func82 (by kernel_rfl) rfl
  have hgl := hg.lt
  go_enter Try.func86, Try.ntmps86
  go_wp2_with fail
  go_loopw [5, 8] (fun v5 v8 wr => ∃ k : Nat, k ≤ n ∧ v8 = .int .i64 k ∧ Hid (dupV xs sp f k = false) ∧ Below w.heap.size w wr) (fun v5 v8 _ => (n - intOf v8).toNat)
  case atStart => exact ⟨0, by omega, rfl, Lib.hid rfl, Below.refl _ _⟩
  case round =>
    obtain ⟨k, hk, rfl, hno, hbel⟩ := hrel
    have hsz := hbel.size
    by_cases hlt : k < n
    · obtain ⟨b, o, rfl, hadB, hcode⟩ := hx (by omega)
      have g0 : wr.cell? ⟨b, o + k * 3, none⟩ = some (.int .i64 (xs (k * 3))) := by rw [hbel.cell (by simp; omega)]; exact hcode (k * 3) (by omega)
      have g1 : wr.cell? ⟨b, o + k * 3 + 1, none⟩ = some (.int .i64 (xs (k * 3 + 1))) := by rw [hbel.cell (by simp; omega)]; exact hcode (k * 3 + 1) (by omega)
      have g2 : wr.cell? ⟨b, o + k * 3 + 2, none⟩ = some (.int .i64 (xs (k * 3 + 2))) := by rw [hbel.cell (by simp; omega)]; exact hcode (k * 3 + 2) (by omega)
      have hcall := sameF_any (xs (k * 3)) (xs (k * 3 + 1)) (xs (k * 3 + 2)) sp f sy g wr (hg.below hbel hgl)
      have hop : dupV xs sp f (k + 1) = (dupV xs sp f k || ((xs (k * 3) == sp) && (xs (k * 3 + 1) == f))) := rfl
      rw [hno.out, Bool.false_or] at hop
      have hyes := fun h1 h2 => dupV_of (xs := xs) (sp := sp) (f := f) (i := k) h1 h2 n hlt
      clear hcode
      generalize hv : ((xs (k * 3) == sp) && (xs (k * 3 + 1) == f)) = v at hcall hop
      replace hv := Lib.hid hv
      replace hop := Lib.hid hop
      replace hyes := Lib.hid hyes
      cases v with
      | true =>
        go_wp2_with (go_at_fn 82; refine hcall.mono ?_; rintro e w' ⟨rfl, hb'⟩)
        go_ret
        have := hv.out
        simp at this
        exact ⟨_, rfl, by rw [hyes.out this.1 this.2]; simp, hbel.trans (hb'.mono hsz)⟩
      | false =>
        go_wp2_with (go_at_fn 82; refine hcall.mono ?_; rintro e w' ⟨rfl, hb'⟩)
        go_roundw
        case rel => exact ⟨k + 1, by omega, by go_num, hop, hbel.trans (hb'.mono hsz)⟩
        case measure => simp [intOf]; omega
    · obtain rfl : k = n := by omega
      go_wp2
      go_ret
      exact ⟨_, rfl, by rw [hno.out]; rfl, hbel⟩
set_option maxHeartbeats 2000000 in
theorem containsS_any (A : Option Addr) (n c B : Nat) (xs : Nat → Int) (sp f sy : Int) (g : Nat) (w : World) (hx : Ints w B A (n * 3) xs) (hB : B ≤ w.heap.size) (hn : n ≤ 9223372036854775807) (hg : Whole w g 59 #[.int .i64 sp, .int .i64 f, .int .i64 sy]) :
    Calls Try.prog 81 #[.slice A n c, .func (.func 82) #[] #[.pointer (some ⟨g, 0, none⟩)]] w fun e w' => e = .returned (.bool (dupV xs sp f n)) ∧ Below w.heap.size w w' := by
  go_enter Try.func81, Try.ntmps81
  go_wp2_with fail
  refine (indexS_any _ _ _ _ _ _ _ _ _ _ hx hB hn hg).mono ?_
  rintro e w' ⟨r, rfl, hr, hb⟩
  go_wp2
  go_ret
  exact ⟨by rw [← hr]; rfl, hb⟩
end Go.Proofs.Ytcilgohjeobamaa
