/- Open time, openings, deadlines: the program's and the reference's return one value. -/
import Derived.Test.YtghpaegabppeaaaWin
set_option linter.unusedSimpArgs false
set_option linter.unusedVariables false
namespace Go.Proofs.Ytghpaegabppeaaa
open Go.RowKit

theorem isTime_any' (n : Int) (w : World) :
    Calls Try.prog 45 #[.int .i64 n] w fun e w' => e = .returned (.bool (inB n 0 1000000000)) ∧ w = w' := isTime_any n w
/-- The open time in one window. -/
def pieceV (xs : Nat → Int) (f t : Int) (i : Nat) : Int := max 0 (min t (xs (i * 2 + 1)) - max f (xs (i * 2)))
/-- The open time in the first k windows. -/
def openV (xs : Nat → Int) (f t : Int) : Nat → Int
  | 0 => 0
  | k + 1 => openV xs f t k + pieceV xs f t k
theorem openV_bd {n : Nat} {xs : Nat → Int} {f t : Int} (h : isL n xs = true) (h0 : 0 ≤ f) (h1 : t ≤ 1000000001) : ∀ k, k ≤ n → 0 ≤ openV xs f t k ∧ openV xs f t k ≤ k * 1000000001 := by
  intro k
  induction k with
  | zero => intro _; simp [openV]
  | succ k ih =>
    intro hk
    have := ih (by omega)
    unfold openV pieceV
    omega
def otV (n : Nat) (xs : Nat → Int) (f t : Int) : Int × Int := if isL n xs then (if 0 ≤ f ∧ f ≤ t ∧ t ≤ 1000000000 then (openV xs f t n, 0) else (0, 2)) else (0, 1)

def nxF (n : Nat) (xs : Nat → Int) (t : Int) : Option Nat := (List.range n).find? (fun i => decide (t < xs (i * 2 + 1)))
theorem nxF_none {n : Nat} {xs : Nat → Int} {t : Int} (h : ∀ i, i < n → xs (i * 2 + 1) ≤ t) : nxF n xs t = none := by
  unfold nxF; rw [List.find?_eq_none]; intro i hi; have := h i (List.mem_range.1 hi); simp; omega
theorem nxF_some {n i : Nat} {xs : Nat → Int} {t : Int} (hi : i < n) (h : t < xs (i * 2 + 1)) (hb : ∀ j, j < i → xs (j * 2 + 1) ≤ t) : nxF n xs t = some i := by
  unfold nxF; rw [List.find?_range_eq_some]
  exact ⟨by simpa using h, List.mem_range.2 hi, fun j hj => by have := hb j hj; simp; omega⟩
def noV (n : Nat) (xs : Nat → Int) (t : Int) : Int × Int := if isL n xs then (if inB t 0 1000000000 then (match nxF n xs t with | some i => (max t (xs (i * 2)), 0) | none => (0, 4)) else (0, 2)) else (0, 1)

/-- The deadline in k windows from window i on. -/
def dlF (xs : Nat → Int) (f : Int) : Nat → Nat → Int → Option Int
  | 0, _, _ => none
  | k + 1, i, len => if len ≤ max 0 (xs (i * 2 + 1) - max f (xs (i * 2))) then some (max f (xs (i * 2)) + len) else dlF xs f k (i + 1) (len - max 0 (xs (i * 2 + 1) - max f (xs (i * 2))))
def dlV (n : Nat) (xs : Nat → Int) (f len : Int) : Option Int := if len = 0 then some f else dlF xs f n 0 len
theorem dlF_bd {n : Nat} {xs : Nat → Int} {f : Int} (h : isL n xs = true) (h0 : 0 ≤ f) (h1 : f ≤ 1000000000) : ∀ k i len r, i + k ≤ n → 0 < len → dlF xs f k i len = some r → 0 ≤ r ∧ r ≤ 1000000000 ∧ f ≤ r := by
  intro k
  induction k with
  | zero => intro i len r _ _ hr; cases hr
  | succ k ih =>
    intro i len r hi hl hr
    have hb := okL_t ((isL_t h).2 i (by omega))
    unfold dlF at hr
    split at hr
    · injection hr with hr; omega
    · exact ih (i + 1) _ r (by omega) (by omega) hr
theorem dlV_bd {n : Nat} {xs : Nat → Int} {f len r : Int} (h : isL n xs = true) (h0 : 0 ≤ f) (h1 : f ≤ 1000000000) (hl : 0 ≤ len) (hr : dlV n xs f len = some r) : 0 ≤ r ∧ r ≤ 1000000000 ∧ f ≤ r := by
  unfold dlV at hr
  split at hr
  · injection hr with hr; omega
  · exact dlF_bd h h0 h1 n 0 len r (by omega) (by omega) hr
def daV (n : Nat) (xs : Nat → Int) (f len : Int) : Int × Int := if isL n xs then (if inB f 0 1000000000 && decide (0 ≤ len) then (match dlV n xs f len with | some r => (r, 0) | none => (0, 4)) else (0, 2)) else (0, 1)
def itV (n : Nat) (xs : Nat → Int) (f len at' : Int) : Bool × Int := if isL n xs then (if inB f 0 1000000000 && decide (0 ≤ len) && inB at' 0 1000000000 then (match dlV n xs f len with | some r => (decide (at' ≤ r), 0) | none => (false, 4)) else (false, 2)) else (false, 1)

set_option maxHeartbeats 4000000 in
theorem l20Open_any (A : Option Addr) (n c B : Nat) (f t : Int) (xs : Nat → Int) (w : World) (hx : Ints w B A (n * 2) xs) (hB : B ≤ w.heap.size) (hL : isL n xs = true) (h0 : 0 ≤ f) (h0' : f ≤ 1000000000) (h1 : t ≤ 1000000001) (h1' : 0 ≤ t) :
    Calls Try.prog 43 #[.slice A n c, .int .i64 f, .int .i64 t] w fun e w' => e = .returned (.int .i64 (openV xs f t n)) ∧ Below w.heap.size w w' := by
  have hn := (isL_t hL).1
  have hbd := Lib.hid (openV_bd hL h0 h1)
  replace hL := Lib.hid hL
  replace hx := Lib.hid hx
  go_enter Try.func43, Try.ntmps43
  go_wp2
  go_loopw [7, 8] (fun v7 v8 wr => ∃ k : Nat, k ≤ n ∧ v8 = .int .i64 k ∧ v7 = .int .i64 (openV xs f t k) ∧ Below w.heap.size w wr) (fun v7 v8 _ => (n - intOf v8).toNat)
  case atStart => exact ⟨0, by omega, rfl, rfl, Below.refl _ _⟩
  case round =>
    obtain ⟨k, hk1, rfl, rfl, hbel⟩ := hrel
    have hsz := hbel.size
    by_cases h2 : k < n
    · obtain ⟨b, o, rfl, hadB, hcode⟩ := hx.out (by omega)
      have g0 : wr.cell? ⟨b, o + k * 2, none⟩ = some (.int .i64 (xs (k * 2))) := by rw [hbel.cell (by simp; omega)]; exact hcode (k * 2) (by omega)
      have g1 : wr.cell? ⟨b, o + k * 2 + 1, none⟩ = some (.int .i64 (xs (k * 2 + 1))) := by rw [hbel.cell (by simp; omega)]; exact hcode (k * 2 + 1) (by omega)
      have hb := okL_t ((isL_t hL.out).2 k h2)
      obtain ⟨b1, b2, b3, _⟩ := hb
      have c0 := hbd.out k (by omega)
      have hnx := Lib.hid (show openV xs f t (k + 1) = openV xs f t k + pieceV xs f t k from rfl)
      obtain ⟨c1, c2⟩ := c0
      generalize openV xs f t k = s at *
      clear hcode
      by_cases q1 : xs (k * 2 + 1) < t
      · by_cases q2 : f < xs (k * 2)
        · have q3 : 0 < xs (k * 2 + 1) - xs (k * 2) := by omega
          · have hp : pieceV xs f t k = xs (k * 2 + 1) - xs (k * 2) := by unfold pieceV; omega
            have hnx : Hid (openV xs f t (k + 1) = s + (xs (k * 2 + 1) - xs (k * 2))) := Lib.hid (by rw [hnx.out, hp])
            clear hp
            go_wp2
            go_quiet (fail)
            go_wp2
            go_roundw
            case rel => exact ⟨k + 1, by omega, by go_num, by first | (rw [hnx.out]; done) | (rw [hnx.out]; simp), below_dN hbel _⟩
            case measure => simp [intOf]; omega
        · by_cases q3 : 0 < xs (k * 2 + 1) - f
          · have hp : pieceV xs f t k = xs (k * 2 + 1) - f := by unfold pieceV; omega
            have hnx : Hid (openV xs f t (k + 1) = s + (xs (k * 2 + 1) - f)) := Lib.hid (by rw [hnx.out, hp])
            clear hp
            go_wp2
            go_quiet (fail)
            go_wp2
            go_roundw
            case rel => exact ⟨k + 1, by omega, by go_num, by first | (rw [hnx.out]; done) | (rw [hnx.out]; simp), below_dN hbel _⟩
            case measure => simp [intOf]; omega
          · have hp : pieceV xs f t k = 0 := by unfold pieceV; omega
            have hnx : Hid (openV xs f t (k + 1) = s + (0)) := Lib.hid (by rw [hnx.out, hp])
            clear hp
            go_wp2
            go_quiet (fail)
            go_wp2
            go_roundw
            case rel => exact ⟨k + 1, by omega, by go_num, by first | (rw [hnx.out]; done) | (rw [hnx.out]; simp), below_dN hbel _⟩
            case measure => simp [intOf]; omega
      · by_cases q2 : f < xs (k * 2)
        · by_cases q3 : 0 < t - xs (k * 2)
          · have hp : pieceV xs f t k = t - xs (k * 2) := by unfold pieceV; omega
            have hnx : Hid (openV xs f t (k + 1) = s + (t - xs (k * 2))) := Lib.hid (by rw [hnx.out, hp])
            clear hp
            go_wp2
            go_quiet (fail)
            go_wp2
            go_roundw
            case rel => exact ⟨k + 1, by omega, by go_num, by first | (rw [hnx.out]; done) | (rw [hnx.out]; simp), below_dN hbel _⟩
            case measure => simp [intOf]; omega
          · have hp : pieceV xs f t k = 0 := by unfold pieceV; omega
            have hnx : Hid (openV xs f t (k + 1) = s + (0)) := Lib.hid (by rw [hnx.out, hp])
            clear hp
            go_wp2
            go_quiet (fail)
            go_wp2
            go_roundw
            case rel => exact ⟨k + 1, by omega, by go_num, by first | (rw [hnx.out]; done) | (rw [hnx.out]; simp), below_dN hbel _⟩
            case measure => simp [intOf]; omega
        · by_cases q3 : 0 < t - f
          · have hp : pieceV xs f t k = t - f := by unfold pieceV; omega
            have hnx : Hid (openV xs f t (k + 1) = s + (t - f)) := Lib.hid (by rw [hnx.out, hp])
            clear hp
            go_wp2
            go_quiet (fail)
            go_wp2
            go_roundw
            case rel => exact ⟨k + 1, by omega, by go_num, by first | (rw [hnx.out]; done) | (rw [hnx.out]; simp), below_dN hbel _⟩
            case measure => simp [intOf]; omega
          · have hp : pieceV xs f t k = 0 := by unfold pieceV; omega
            have hnx : Hid (openV xs f t (k + 1) = s + (0)) := Lib.hid (by rw [hnx.out, hp])
            clear hp
            go_wp2
            go_quiet (fail)
            go_wp2
            go_roundw
            case rel => exact ⟨k + 1, by omega, by go_num, by first | (rw [hnx.out]; done) | (rw [hnx.out]; simp), below_dN hbel _⟩
            case measure => simp [intOf]; omega
    · obtain rfl : k = n := by omega
      go_wp2
      go_ret
      exact ⟨rfl, hbel⟩

set_option maxHeartbeats 4000000 in
theorem sOpenTime_any (A : Option Addr) (n c B : Nat) (f t : Int) (xs : Nat → Int) (w : World) (hx : Ints w B A (n * 2) xs) (hB : B ≤ w.heap.size) (hn : n ≤ 1048576) :
    Calls Try.prog 18 #[.slice A n c, .int .i64 f, .int .i64 t] w fun e w' => e = .returned (.tuple #[.int .i64 (otV n xs f t).1, .int .i64 (otV n xs f t).2]) ∧ Below w.heap.size w w' := by
  replace hx := Lib.hid hx
  cases h0 : isL n xs with
  | false =>
    have e1 : otV n xs f t = (0, 1) := by simp [otV, h0]
    rw [e1]
    clear e1
    go_enter Try.func18, Try.ntmps18
    go_wp2_with fail
    refine (sIsWindows_any _ _ _ _ _ _ hx.out hB (by omega)).mono ?_
    rintro e w1 ⟨rfl, hb1⟩
    go_wp2
    go_ret2
    exact ⟨rfl, hb1⟩
  | true =>
  by_cases h1 : 0 ≤ f
  · by_cases h2 : f ≤ t
    · by_cases h3 : t ≤ 1000000000
      · have e1 : otV n xs f t = (openV xs f t n, 0) := by simp [otV, h0, h1, h2, h3]
        rw [e1]
        clear e1
        have hL := Lib.hid h0
        have hn30 := (isL_t h0).1
        go_enter Try.func18, Try.ntmps18
        go_wp2_with fail
        refine (sIsWindows_any _ _ _ _ _ _ hx.out hB (by omega)).mono ?_
        rintro e w1 ⟨rfl, hb1⟩
        have hx1 := Lib.hid (hx.out.below (hb1.mono hB))
        have hs1 := hb1.size
        go_wp2_with fail
        refine (l20Open_any _ _ _ _ _ _ _ _ hx1.out (by omega) hL.out h1 (by omega) (by omega) (by omega)).mono ?_
        rintro e w2 ⟨rfl, hb2⟩
        go_wp2
        go_ret2
        exact ⟨rfl, hb1.trans (hb2.mono hs1)⟩
      · have e1 : otV n xs f t = (0, 2) := by simp [otV, h0]; omega
        rw [e1]
        clear e1
        go_enter Try.func18, Try.ntmps18
        go_wp2_with fail
        refine (sIsWindows_any _ _ _ _ _ _ hx.out hB (by omega)).mono ?_
        rintro e w1 ⟨rfl, hb1⟩
        go_wp2
        go_ret2
        exact ⟨rfl, hb1⟩
    · have e1 : otV n xs f t = (0, 2) := by simp [otV, h0]; omega
      rw [e1]
      clear e1
      go_enter Try.func18, Try.ntmps18
      go_wp2_with fail
      refine (sIsWindows_any _ _ _ _ _ _ hx.out hB (by omega)).mono ?_
      rintro e w1 ⟨rfl, hb1⟩
      go_wp2
      go_ret2
      exact ⟨rfl, hb1⟩
  · have e1 : otV n xs f t = (0, 2) := by simp [otV, h0]; omega
    rw [e1]
    clear e1
    go_enter Try.func18, Try.ntmps18
    go_wp2_with fail
    refine (sIsWindows_any _ _ _ _ _ _ hx.out hB (by omega)).mono ?_
    rintro e w1 ⟨rfl, hb1⟩
    go_wp2
    go_ret2
    exact ⟨rfl, hb1⟩

set_option maxHeartbeats 4000000 in
theorem openTime_any (A : Option Addr) (n c B : Nat) (f t : Int) (xs : Nat → Int) (w : World) (hx : Ints w B A (n * 2) xs) (hB : B ≤ w.heap.size) (hn : n ≤ 1048576) :
    Calls Try.prog 19 #[.slice A n c, .int .i64 f, .int .i64 t] w fun e w' => e = .returned (.tuple #[.int .i64 (otV n xs f t).1, .int .i64 (otV n xs f t).2]) ∧ Below w.heap.size w w' := by
  replace hx := Lib.hid hx
  cases h0 : isL n xs with
  | false =>
    have e1 : otV n xs f t = (0, 1) := by simp [otV, h0]
    rw [e1]
    clear e1
    go_enter Try.func19, Try.ntmps19
    go_wp2_with fail
    refine (isWindows_any _ _ _ _ _ _ hx.out hB (by omega)).mono ?_
    rintro e w1 ⟨rfl, hb1⟩
    go_wp2
    go_ret2
    exact ⟨rfl, hb1⟩
  | true =>
  by_cases h1 : 0 ≤ f
  · by_cases h2 : f ≤ t
    · by_cases h3 : t ≤ 1000000000
      · have e1 : otV n xs f t = (openV xs f t n, 0) := by simp [otV, h0, h1, h2, h3]
        rw [e1]
        clear e1
        have hL := Lib.hid h0
        have hn30 := (isL_t h0).1
        have hbd := Lib.hid (openV_bd hL.out h1 (show t ≤ 1000000001 by omega))
        go_enter Try.func19, Try.ntmps19
        go_wp2_with fail
        refine (isWindows_any _ _ _ _ _ _ hx.out hB (by omega)).mono ?_
        rintro e w1 ⟨rfl, hb1⟩
        have hx1 := Lib.hid (hx.out.below (hb1.mono hB))
        have hs1 := hb1.size
        go_wp2_with fail
        go_loopw [27, 8] (fun v27 v8 wr => ∃ k : Nat, k ≤ n ∧ v27 = .int .i64 k ∧ v8 = .int .i64 (openV xs f t k) ∧ Below w.heap.size w wr) (fun v27 v8 _ => (n - intOf v27).toNat)
        case atStart => exact ⟨0, by omega, rfl, rfl, hb1⟩
        case round =>
          clear hx1 hb1
          obtain ⟨k, hk1, rfl, rfl, hbel⟩ := hrel
          have hsz := hbel.size
          by_cases h4 : k < n
          · obtain ⟨b, o, rfl, hadB, hcode⟩ := hx.out (by omega)
            have g0 : wr.cell? ⟨b, o + k * 2, none⟩ = some (.int .i64 (xs (k * 2))) := by rw [hbel.cell (by simp; omega)]; exact hcode (k * 2) (by omega)
            have g1 : wr.cell? ⟨b, o + k * 2 + 1, none⟩ = some (.int .i64 (xs (k * 2 + 1))) := by rw [hbel.cell (by simp; omega)]; exact hcode (k * 2 + 1) (by omega)
            obtain ⟨b1, b2, b3, _⟩ := okL_t ((isL_t hL.out).2 k h4)
            have c0 := hbd.out k (by omega)
            have hnx := Lib.hid (show openV xs f t (k + 1) = openV xs f t k + pieceV xs f t k from rfl)
            obtain ⟨c1, c2⟩ := c0
            generalize openV xs f t k = s at *
            clear hcode
            by_cases q1 : xs (k * 2 + 1) < t
            · by_cases q2 : f < xs (k * 2)
              · have q3 : 0 < xs (k * 2 + 1) - xs (k * 2) := by omega
                · have hp : pieceV xs f t k = xs (k * 2 + 1) - xs (k * 2) := by unfold pieceV; omega
                  have hnx : Hid (openV xs f t (k + 1) = s + (xs (k * 2 + 1) - xs (k * 2))) := Lib.hid (by rw [hnx.out, hp])
                  clear hp
                  go_wp2
                  go_roundw
                  case rel => exact ⟨k + 1, by omega, by go_num, by first | (rw [hnx.out]; done) | (rw [hnx.out]; simp), hbel.alloc hsz _⟩
                  case measure => simp [intOf]; omega
              · by_cases q3 : 0 < xs (k * 2 + 1) - f
                · have hp : pieceV xs f t k = xs (k * 2 + 1) - f := by unfold pieceV; omega
                  have hnx : Hid (openV xs f t (k + 1) = s + (xs (k * 2 + 1) - f)) := Lib.hid (by rw [hnx.out, hp])
                  clear hp
                  go_wp2
                  go_roundw
                  case rel => exact ⟨k + 1, by omega, by go_num, by first | (rw [hnx.out]; done) | (rw [hnx.out]; simp), hbel.alloc hsz _⟩
                  case measure => simp [intOf]; omega
                · have hp : pieceV xs f t k = 0 := by unfold pieceV; omega
                  have hnx : Hid (openV xs f t (k + 1) = s + (0)) := Lib.hid (by rw [hnx.out, hp])
                  clear hp
                  go_wp2
                  go_roundw
                  case rel => exact ⟨k + 1, by omega, by go_num, by first | (rw [hnx.out]; done) | (rw [hnx.out]; simp), hbel.alloc hsz _⟩
                  case measure => simp [intOf]; omega
            · by_cases q2 : f < xs (k * 2)
              · by_cases q3 : 0 < t - xs (k * 2)
                · have hp : pieceV xs f t k = t - xs (k * 2) := by unfold pieceV; omega
                  have hnx : Hid (openV xs f t (k + 1) = s + (t - xs (k * 2))) := Lib.hid (by rw [hnx.out, hp])
                  clear hp
                  go_wp2
                  go_roundw
                  case rel => exact ⟨k + 1, by omega, by go_num, by first | (rw [hnx.out]; done) | (rw [hnx.out]; simp), hbel.alloc hsz _⟩
                  case measure => simp [intOf]; omega
                · have hp : pieceV xs f t k = 0 := by unfold pieceV; omega
                  have hnx : Hid (openV xs f t (k + 1) = s + (0)) := Lib.hid (by rw [hnx.out, hp])
                  clear hp
                  go_wp2
                  go_roundw
                  case rel => exact ⟨k + 1, by omega, by go_num, by first | (rw [hnx.out]; done) | (rw [hnx.out]; simp), hbel.alloc hsz _⟩
                  case measure => simp [intOf]; omega
              · by_cases q3 : 0 < t - f
                · have hp : pieceV xs f t k = t - f := by unfold pieceV; omega
                  have hnx : Hid (openV xs f t (k + 1) = s + (t - f)) := Lib.hid (by rw [hnx.out, hp])
                  clear hp
                  go_wp2
                  go_roundw
                  case rel => exact ⟨k + 1, by omega, by go_num, by first | (rw [hnx.out]; done) | (rw [hnx.out]; simp), hbel.alloc hsz _⟩
                  case measure => simp [intOf]; omega
                · have hp : pieceV xs f t k = 0 := by unfold pieceV; omega
                  have hnx : Hid (openV xs f t (k + 1) = s + (0)) := Lib.hid (by rw [hnx.out, hp])
                  clear hp
                  go_wp2
                  go_roundw
                  case rel => exact ⟨k + 1, by omega, by go_num, by first | (rw [hnx.out]; done) | (rw [hnx.out]; simp), hbel.alloc hsz _⟩
                  case measure => simp [intOf]; omega
          · obtain rfl : k = n := by omega
            go_wp2
            go_ret2
            exact ⟨rfl, hbel⟩
      · have e1 : otV n xs f t = (0, 2) := by simp [otV, h0]; omega
        rw [e1]
        clear e1
        go_enter Try.func19, Try.ntmps19
        go_wp2_with fail
        refine (isWindows_any _ _ _ _ _ _ hx.out hB (by omega)).mono ?_
        rintro e w1 ⟨rfl, hb1⟩
        go_wp2
        go_ret2
        exact ⟨rfl, hb1⟩
    · have e1 : otV n xs f t = (0, 2) := by simp [otV, h0]; omega
      rw [e1]
      clear e1
      go_enter Try.func19, Try.ntmps19
      go_wp2_with fail
      refine (isWindows_any _ _ _ _ _ _ hx.out hB (by omega)).mono ?_
      rintro e w1 ⟨rfl, hb1⟩
      go_wp2
      go_ret2
      exact ⟨rfl, hb1⟩
  · have e1 : otV n xs f t = (0, 2) := by simp [otV, h0]; omega
    rw [e1]
    clear e1
    go_enter Try.func19, Try.ntmps19
    go_wp2_with fail
    refine (isWindows_any _ _ _ _ _ _ hx.out hB (by omega)).mono ?_
    rintro e w1 ⟨rfl, hb1⟩
    go_wp2
    go_ret2
    exact ⟨rfl, hb1⟩

end Go.Proofs.Ytghpaegabppeaaa
