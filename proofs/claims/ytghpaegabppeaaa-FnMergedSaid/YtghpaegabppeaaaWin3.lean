/- Openings and deadlines: the program's and the reference's return one value. -/
import Derived.Test.YtghpaegabppeaaaWin2
set_option linter.unusedSimpArgs false
set_option linter.unusedVariables false
namespace Go.Proofs.Ytghpaegabppeaaa
open Go.RowKit

set_option maxHeartbeats 4000000 in
theorem nextOpening_any (A : Option Addr) (n c B : Nat) (t : Int) (xs : Nat → Int) (w : World) (hx : Ints w B A (n * 2) xs) (hB : B ≤ w.heap.size) (hn : n ≤ 1048576) :
    Calls Try.prog 21 #[.slice A n c, .int .i64 t] w fun e w' => e = .returned (.tuple #[.int .i64 (noV n xs t).1, .int .i64 (noV n xs t).2]) ∧ Below w.heap.size w w' := by
  replace hx := Lib.hid hx
  cases h0 : isL n xs with
  | false =>
    have e1 : noV n xs t = (0, 1) := by simp [noV, h0]
    rw [e1]
    clear e1
    go_enter Try.func21, Try.ntmps21
    go_wp2_with fail
    refine (isWindows_any _ _ _ _ _ _ hx.out hB (by omega)).mono ?_
    rintro e w1 ⟨rfl, hb1⟩
    go_wp2_with (go_at_call 45; refine (isTime_any _ _).mono ?_; rintro e w' ⟨rfl, rfl⟩)
    go_ret2
    exact ⟨rfl, hb1⟩
  | true =>
  cases h1 : inB t 0 1000000000 with
  | false =>
    have e1 : noV n xs t = (0, 2) := by simp [noV, h0, h1]
    rw [e1]
    clear e1
    go_enter Try.func21, Try.ntmps21
    go_wp2_with fail
    refine (isWindows_any _ _ _ _ _ _ hx.out hB (by omega)).mono ?_
    rintro e w1 ⟨rfl, hb1⟩
    go_wp2_with (go_at_call 45; refine (isTime_any _ _).mono ?_; rintro e w' ⟨rfl, rfl⟩)
    go_ret2
    exact ⟨rfl, hb1⟩
  | true =>
    obtain ⟨l1, u1⟩ := inB_t h1
    generalize hv : noV n xs t = v
    replace hv := Lib.hid hv
    have hv1 : Hid (∀ i, nxF n xs t = some i → v = (max t (xs (i * 2)), 0)) := Lib.hid (fun i hi => by rw [← hv.out]; simp [noV, h0, h1, hi])
    have hv2 : Hid (nxF n xs t = none → v = (0, 4)) := Lib.hid (fun hi => by rw [← hv.out]; simp [noV, h0, h1, hi])
    clear hv
    have hL := Lib.hid h0
    have hn30 := (isL_t h0).1
    go_enter Try.func21, Try.ntmps21
    go_wp2_with fail
    refine (isWindows_any _ _ _ _ _ _ hx.out hB (by omega)).mono ?_
    rintro e w1 ⟨rfl, hb1⟩
    have hs1 := hb1.size
    go_wp2_with (first | (go_at_call 45; refine (isTime_any _ _).mono ?_; rintro e w' ⟨rfl, rfl⟩) | fail)
    go_loopw [16] (fun u wr => ∃ k : Nat, k ≤ n ∧ u = .int .i64 k ∧ Hid (∀ i, i < k → xs (i * 2 + 1) ≤ t) ∧ Below w.heap.size w wr) (fun u _ => (n - intOf u).toNat)
    case atStart => exact ⟨0, by omega, rfl, Lib.hid (fun i hi => by omega), hb1⟩
    case round =>
      clear hb1
      obtain ⟨k, hk1, rfl, hok, hbel⟩ := hrel
      have hsz := hbel.size
      by_cases h4 : k < n
      · obtain ⟨b, o, rfl, hadB, hcode⟩ := hx.out (by omega)
        have g0 : wr.cell? ⟨b, o + k * 2, none⟩ = some (.int .i64 (xs (k * 2))) := by rw [hbel.cell (by simp; omega)]; exact hcode (k * 2) (by omega)
        have g1 : wr.cell? ⟨b, o + k * 2 + 1, none⟩ = some (.int .i64 (xs (k * 2 + 1))) := by rw [hbel.cell (by simp; omega)]; exact hcode (k * 2 + 1) (by omega)
        clear hcode
        by_cases h5 : t < xs (k * 2 + 1)
        · have hr := hv1.out k (nxF_some h4 h5 hok.out)
          by_cases h6 : t < xs (k * 2)
          · have hr2 : v = (xs (k * 2), 0) := by rw [hr]; congr 1; omega
            subst hr2
            clear hr
            go_wp2
            go_ret2
            exact ⟨rfl, hbel.alloc hsz _⟩
          · have hr2 : v = (t, 0) := by rw [hr]; congr 1; omega
            subst hr2
            clear hr
            go_wp2
            go_ret2
            exact ⟨rfl, hbel.alloc hsz _⟩
        · go_wp2
          go_roundw
          case rel =>
            refine ⟨k + 1, by omega, by go_num, Lib.hid (fun i hi => ?_), hbel.alloc hsz _⟩
            by_cases e : i = k
            · subst e; omega
            · exact hok.out i (by omega)
          case measure => simp [intOf]; omega
      · obtain rfl : k = n := by omega
        have hr := hv2.out (nxF_none hok.out)
        subst hr
        go_wp2
        go_ret2
        exact ⟨rfl, hbel⟩

set_option maxHeartbeats 4000000 in
theorem sNextOpening_any (A : Option Addr) (n c B : Nat) (t : Int) (xs : Nat → Int) (w : World) (hx : Ints w B A (n * 2) xs) (hB : B ≤ w.heap.size) (hn : n ≤ 1048576) :
    Calls Try.prog 20 #[.slice A n c, .int .i64 t] w fun e w' => e = .returned (.tuple #[.int .i64 (noV n xs t).1, .int .i64 (noV n xs t).2]) ∧ Below w.heap.size w w' := by
  replace hx := Lib.hid hx
  cases h0 : isL n xs with
  | false =>
    have e1 : noV n xs t = (0, 1) := by simp [noV, h0]
    rw [e1]
    clear e1
    go_enter Try.func20, Try.ntmps20
    go_wp2_with fail
    refine (sIsWindows_any _ _ _ _ _ _ hx.out hB (by omega)).mono ?_
    rintro e w1 ⟨rfl, hb1⟩
    go_wp2_with (go_at_call 44; refine (l01In_any _ _ _ _).mono ?_; rintro e w' ⟨rfl, rfl⟩)
    go_ret2
    exact ⟨rfl, hb1⟩
  | true =>
  cases h1 : inB t 0 1000000000 with
  | false =>
    have e1 : noV n xs t = (0, 2) := by simp [noV, h0, h1]
    rw [e1]
    clear e1
    go_enter Try.func20, Try.ntmps20
    go_wp2_with fail
    refine (sIsWindows_any _ _ _ _ _ _ hx.out hB (by omega)).mono ?_
    rintro e w1 ⟨rfl, hb1⟩
    go_wp2_with (go_at_call 44; refine (l01In_any _ _ _ _).mono ?_; rintro e w' ⟨rfl, rfl⟩)
    go_ret2
    exact ⟨rfl, hb1⟩
  | true =>
    obtain ⟨l1, u1⟩ := inB_t h1
    generalize hv : noV n xs t = v
    replace hv := Lib.hid hv
    have hv1 : Hid (∀ i, nxF n xs t = some i → v = (max t (xs (i * 2)), 0)) := Lib.hid (fun i hi => by rw [← hv.out]; simp [noV, h0, h1, hi])
    have hv2 : Hid (nxF n xs t = none → v = (0, 4)) := Lib.hid (fun hi => by rw [← hv.out]; simp [noV, h0, h1, hi])
    clear hv
    have hL := Lib.hid h0
    have hn30 := (isL_t h0).1
    go_enter Try.func20, Try.ntmps20
    go_wp2_with fail
    refine (sIsWindows_any _ _ _ _ _ _ hx.out hB (by omega)).mono ?_
    rintro e w1 ⟨rfl, hb1⟩
    have hs1 := hb1.size
    go_wp2_with (first | (go_at_call 44; refine (l01In_any _ _ _ _).mono ?_; rintro e w' ⟨rfl, rfl⟩) | fail)
    go_loopw [6] (fun u wr => ∃ k : Nat, k ≤ n ∧ u = .int .i64 k ∧ Hid (∀ i, i < k → xs (i * 2 + 1) ≤ t) ∧ Below w.heap.size w wr) (fun u _ => (n - intOf u).toNat)
    case atStart => exact ⟨0, by omega, rfl, Lib.hid (fun i hi => by omega), hb1⟩
    case round =>
      clear hb1
      obtain ⟨k, hk1, rfl, hok, hbel⟩ := hrel
      have hsz := hbel.size
      by_cases h4 : k < n
      · obtain ⟨b, o, rfl, hadB, hcode⟩ := hx.out (by omega)
        have g0 : wr.cell? ⟨b, o + k * 2, none⟩ = some (.int .i64 (xs (k * 2))) := by rw [hbel.cell (by simp; omega)]; exact hcode (k * 2) (by omega)
        have g1 : wr.cell? ⟨b, o + k * 2 + 1, none⟩ = some (.int .i64 (xs (k * 2 + 1))) := by rw [hbel.cell (by simp; omega)]; exact hcode (k * 2 + 1) (by omega)
        clear hcode
        by_cases h5 : t < xs (k * 2 + 1)
        · have hr := hv1.out k (nxF_some h4 h5 hok.out)
          by_cases h6 : t < xs (k * 2)
          · have hr2 : v = (xs (k * 2), 0) := by rw [hr]; congr 1; omega
            subst hr2
            clear hr
            go_wp2
            go_ret2
            exact ⟨rfl, hbel⟩
          · have hr2 : v = (t, 0) := by rw [hr]; congr 1; omega
            subst hr2
            clear hr
            go_wp2
            go_ret2
            exact ⟨rfl, hbel⟩
        · go_wp2
          go_roundw
          case rel =>
            refine ⟨k + 1, by omega, by go_num, Lib.hid (fun i hi => ?_), hbel⟩
            by_cases e : i = k
            · subst e; omega
            · exact hok.out i (by omega)
          case measure => simp [intOf]; omega
      · obtain rfl : k = n := by omega
        have hr := hv2.out (nxF_none hok.out)
        subst hr
        go_wp2
        go_ret2
        exact ⟨rfl, hbel⟩

theorem dlF_yes {xs : Nat → Int} {f len m : Int} {k i : Nat} (hm : max f (xs (i * 2)) = m) (h : len ≤ xs (i * 2 + 1) - m) (hl : 0 < len) : dlF xs f (k + 1) i len = some (m + len) := by
  unfold dlF; rw [hm, if_pos (by omega)]
theorem dlF_less {xs : Nat → Int} {f len m : Int} {k i : Nat} (hm : max f (xs (i * 2)) = m) (h : xs (i * 2 + 1) - m < len) (h2 : 0 < xs (i * 2 + 1) - m) : dlF xs f (k + 1) i len = dlF xs f k (i + 1) (len - (xs (i * 2 + 1) - m)) := by
  rw [dlF, hm, if_neg (by omega)]; congr 1; omega
theorem dlF_none {xs : Nat → Int} {f len m : Int} {k i : Nat} (hm : max f (xs (i * 2)) = m) (hl : 0 < len) (h2 : xs (i * 2 + 1) - m ≤ 0) : dlF xs f (k + 1) i len = dlF xs f k (i + 1) len := by
  rw [dlF, hm, if_neg (by omega)]; congr 1; omega
/-- A deadline as the program hands it on: -1 where there is none. -/
def dlN (o : Option Int) : Int := match o with | some r => r | none => -1
def dlB (o : Option Int) : Int × Bool := match o with | some r => (r, true) | none => (0, false)

set_option maxHeartbeats 4000000 in
theorem deadlineAfter_any (A : Option Addr) (n c B : Nat) (f len : Int) (xs : Nat → Int) (w : World) (hx : Ints w B A (n * 2) xs) (hB : B ≤ w.heap.size) (hL : isL n xs = true) (h0 : 0 ≤ f) (h1 : f ≤ 1000000000) (hl : 0 ≤ len) (hl2 : len ≤ 9223372036854775807) :
    Calls Try.prog 49 #[.slice A n c, .int .i64 f, .int .i64 len] w fun e w' => e = .returned (.int .i64 (dlN (dlV n xs f len))) ∧ Below w.heap.size w w' := by
  have hn30 := (isL_t hL).1
  replace hx := Lib.hid hx
  replace hL := Lib.hid hL
  by_cases hz : len = 0
  · have e1 : dlV n xs f len = some f := by simp [dlV, hz]
    rw [e1]
    have hz' : (len == 0) = true := by simp [hz]
    clear e1 hz
    go_enter Try.func49, Try.ntmps49
    go_wp2
    go_ret
    exact ⟨rfl, Below.refl _ _⟩
  have hr0 : dlV n xs f len = dlF xs f n 0 len := by simp [dlV, hz]
  generalize dlV n xs f len = v at hr0 ⊢
  have hz' : (len == 0) = false := by rw [beq_eq_false_iff_ne]; exact hz
  have hzp : 0 < len := by omega
  have hr0' := Lib.hid hr0
  clear hz hr0
  go_enter Try.func49, Try.ntmps49
  go_wp2
  go_loopw [2, 16] (fun v2 v16 wr => ∃ (k : Nat) (len' : Int), k ≤ n ∧ v16 = .int .i64 k ∧ v2 = .int .i64 len' ∧ 0 < len' ∧ len' ≤ 9223372036854775807 ∧ Hid (v = dlF xs f (n - k) k len') ∧ Below w.heap.size w wr) (fun v2 v16 _ => (n - intOf v16).toNat)
  case atStart => exact ⟨0, len, by omega, rfl, rfl, hzp, hl2, hr0', Below.refl _ _⟩
  case round =>
    obtain ⟨k, len', hk1, rfl, rfl, hl0, hl3, hr, hbel⟩ := hrel
    have hsz := hbel.size
    by_cases h4 : k < n
    · obtain ⟨b, o, rfl, hadB, hcode⟩ := hx.out (by omega)
      have g0 : wr.cell? ⟨b, o + k * 2, none⟩ = some (.int .i64 (xs (k * 2))) := by rw [hbel.cell (by simp; omega)]; exact hcode (k * 2) (by omega)
      have g1 : wr.cell? ⟨b, o + k * 2 + 1, none⟩ = some (.int .i64 (xs (k * 2 + 1))) := by rw [hbel.cell (by simp; omega)]; exact hcode (k * 2 + 1) (by omega)
      obtain ⟨b1, b2, b3, _⟩ := okL_t ((isL_t hL.out).2 k h4)
      have hnk := Lib.hid (show dlF xs f (n - k) k len' = dlF xs f (n - (k + 1) + 1) k len' by rw [show n - (k + 1) + 1 = n - k by omega])
      clear hcode
      by_cases q1 : f < xs (k * 2)
      · have hm := Lib.hid (show max f (xs (k * 2)) = xs (k * 2) by omega)
        by_cases q2 : len' ≤ xs (k * 2 + 1) - xs (k * 2)
        · have hr2 : v = some (xs (k * 2) + len') := by rw [hr.out, hnk.out]; exact dlF_yes hm.out q2 hl0
          subst hr2
          clear hm hr hnk
          go_wp2
          go_ret
          exact ⟨rfl, hbel.alloc hsz _⟩
        · have q3 : 0 < xs (k * 2 + 1) - xs (k * 2) := by omega
          have hrec := Lib.hid (dlF_less (len := len') (k := n - (k + 1)) hm.out (by omega) q3)
          go_wp2
          go_roundw
          case rel => exact ⟨k + 1, len' - (xs (k * 2 + 1) - xs (k * 2)), by omega, by go_num, rfl, by omega, by omega, Lib.hid (by rw [hr.out, hnk.out, hrec.out]), hbel.alloc hsz _⟩
          case measure => simp [intOf]; omega

      · have hm := Lib.hid (show max f (xs (k * 2)) = f by omega)
        by_cases q2 : len' ≤ xs (k * 2 + 1) - f
        · have hr2 : v = some (f + len') := by rw [hr.out, hnk.out]; exact dlF_yes hm.out q2 hl0
          subst hr2
          clear hm hr hnk
          go_wp2
          go_ret
          exact ⟨rfl, hbel.alloc hsz _⟩
        · by_cases q3 : 0 < xs (k * 2 + 1) - f
          · have hrec := Lib.hid (dlF_less (len := len') (k := n - (k + 1)) hm.out (by omega) q3)
            go_wp2
            go_roundw
            case rel => exact ⟨k + 1, len' - (xs (k * 2 + 1) - f), by omega, by go_num, rfl, by omega, by omega, Lib.hid (by rw [hr.out, hnk.out, hrec.out]), hbel.alloc hsz _⟩
            case measure => simp [intOf]; omega
          · have hrec := Lib.hid (dlF_none (len := len') (k := n - (k + 1)) hm.out hl0 (by omega))
            go_wp2
            go_roundw
            case rel => exact ⟨k + 1, len', by omega, by go_num, rfl, by omega, by omega, Lib.hid (by rw [hr.out, hnk.out, hrec.out]), hbel.alloc hsz _⟩
            case measure => simp [intOf]; omega

    · obtain rfl : k = n := by omega
      have hr2 : v = none := by rw [hr.out, Nat.sub_self]; rfl
      subst hr2
      clear hr
      go_wp2
      go_ret
      exact ⟨rfl, hbel⟩

set_option maxHeartbeats 4000000 in
theorem l20Deadline_any (A : Option Addr) (n c B : Nat) (f len : Int) (xs : Nat → Int) (w : World) (hx : Ints w B A (n * 2) xs) (hB : B ≤ w.heap.size) (hL : isL n xs = true) (h0 : 0 ≤ f) (h1 : f ≤ 1000000000) (hl : 0 ≤ len) (hl2 : len ≤ 9223372036854775807) :
    Calls Try.prog 48 #[.slice A n c, .int .i64 f, .int .i64 len] w fun e w' => e = .returned (.tuple #[.int .i64 (dlB (dlV n xs f len)).1, .bool (dlB (dlV n xs f len)).2]) ∧ Below w.heap.size w w' := by
  have hn30 := (isL_t hL).1
  replace hx := Lib.hid hx
  replace hL := Lib.hid hL
  by_cases hz : len = 0
  · have e1 : dlV n xs f len = some f := by simp [dlV, hz]
    rw [e1]
    have hz' : (len == 0) = true := by simp [hz]
    clear e1 hz
    go_enter Try.func48, Try.ntmps48
    go_wp2
    go_ret2
    exact ⟨rfl, Below.refl _ _⟩
  have hr0 : dlV n xs f len = dlF xs f n 0 len := by simp [dlV, hz]
  generalize dlV n xs f len = v at hr0 ⊢
  have hz' : (len == 0) = false := by rw [beq_eq_false_iff_ne]; exact hz
  have hzp : 0 < len := by omega
  have hr0' := Lib.hid hr0
  clear hz hr0
  go_enter Try.func48, Try.ntmps48
  go_wp2
  go_loopw [2, 8] (fun v2 v8 wr => ∃ (k : Nat) (len' : Int), k ≤ n ∧ v8 = .int .i64 k ∧ v2 = .int .i64 len' ∧ 0 < len' ∧ len' ≤ 9223372036854775807 ∧ Hid (v = dlF xs f (n - k) k len') ∧ Below w.heap.size w wr) (fun v2 v8 _ => (n - intOf v8).toNat)
  case atStart => exact ⟨0, len, by omega, rfl, rfl, hzp, hl2, hr0', Below.refl _ _⟩
  case round =>
    obtain ⟨k, len', hk1, rfl, rfl, hl0, hl3, hr, hbel⟩ := hrel
    have hsz := hbel.size
    by_cases h4 : k < n
    · obtain ⟨b, o, rfl, hadB, hcode⟩ := hx.out (by omega)
      have g0 : wr.cell? ⟨b, o + k * 2, none⟩ = some (.int .i64 (xs (k * 2))) := by rw [hbel.cell (by simp; omega)]; exact hcode (k * 2) (by omega)
      have g1 : wr.cell? ⟨b, o + k * 2 + 1, none⟩ = some (.int .i64 (xs (k * 2 + 1))) := by rw [hbel.cell (by simp; omega)]; exact hcode (k * 2 + 1) (by omega)
      obtain ⟨b1, b2, b3, _⟩ := okL_t ((isL_t hL.out).2 k h4)
      have hnk := Lib.hid (show dlF xs f (n - k) k len' = dlF xs f (n - (k + 1) + 1) k len' by rw [show n - (k + 1) + 1 = n - k by omega])
      clear hcode
      by_cases q1 : f < xs (k * 2)
      · have hm := Lib.hid (show max f (xs (k * 2)) = xs (k * 2) by omega)
        by_cases q2 : len' ≤ xs (k * 2 + 1) - xs (k * 2)
        · have hr2 : v = some (xs (k * 2) + len') := by rw [hr.out, hnk.out]; exact dlF_yes hm.out q2 hl0
          subst hr2
          clear hm hr hnk
          go_wp2
          go_ret2
          exact ⟨rfl, hbel⟩
        · have q3 : 0 < xs (k * 2 + 1) - xs (k * 2) := by omega
          have hrec := Lib.hid (dlF_less (len := len') (k := n - (k + 1)) hm.out (by omega) q3)
          go_wp2
          go_roundw
          case rel => exact ⟨k + 1, len' - (xs (k * 2 + 1) - xs (k * 2)), by omega, by go_num, rfl, by omega, by omega, Lib.hid (by rw [hr.out, hnk.out, hrec.out]), hbel⟩
          case measure => simp [intOf]; omega

      · have hm := Lib.hid (show max f (xs (k * 2)) = f by omega)
        by_cases q2 : len' ≤ xs (k * 2 + 1) - f
        · have hr2 : v = some (f + len') := by rw [hr.out, hnk.out]; exact dlF_yes hm.out q2 hl0
          subst hr2
          clear hm hr hnk
          go_wp2
          go_ret2
          exact ⟨rfl, hbel⟩
        · by_cases q3 : 0 < xs (k * 2 + 1) - f
          · have hrec := Lib.hid (dlF_less (len := len') (k := n - (k + 1)) hm.out (by omega) q3)
            go_wp2
            go_roundw
            case rel => exact ⟨k + 1, len' - (xs (k * 2 + 1) - f), by omega, by go_num, rfl, by omega, by omega, Lib.hid (by rw [hr.out, hnk.out, hrec.out]), hbel⟩
            case measure => simp [intOf]; omega
          · have hrec := Lib.hid (dlF_none (len := len') (k := n - (k + 1)) hm.out hl0 (by omega))
            go_wp2
            go_roundw
            case rel => exact ⟨k + 1, len', by omega, by go_num, rfl, by omega, by omega, Lib.hid (by rw [hr.out, hnk.out, hrec.out]), hbel⟩
            case measure => simp [intOf]; omega

    · obtain rfl : k = n := by omega
      have hr2 : v = none := by rw [hr.out, Nat.sub_self]; rfl
      subst hr2
      clear hr
      go_wp2
      go_ret2
      exact ⟨rfl, hbel⟩

end Go.Proofs.Ytghpaegabppeaaa
