/- IsOpenAt: the program's and the reference's; laws on open times. -/
import Derived.Test.YtghpaegabppeaaaWin4
import Derived.Shelf.Abstract
set_option linter.unusedSimpArgs false
set_option linter.unusedVariables false
namespace Go.Proofs.Ytghpaegabppeaaa
open Go.RowKit Go.Shelf

/-- Is one of the first k windows open at t? -/
def opB (xs : Nat → Int) (t : Int) : Nat → Bool
  | 0 => false
  | k + 1 => opB xs t k || (decide (xs (k * 2) ≤ t) && decide (t < xs (k * 2 + 1)))
theorem opB_eq {n : Nat} {xs : Nat → Int} {t : Int} (h : isL n xs = true) : ∀ k, k ≤ n → openV xs t (t + 1) k = (if opB xs t k = true then 1 else 0) ∧ (opB xs t k = true → 0 < k ∧ t < xs ((k - 1) * 2 + 1)) := by
  intro k
  induction k with
  | zero => intro _; simp [openV, opB]
  | succ k ih =>
    intro hk
    obtain ⟨ih1, ih2⟩ := ih (by omega)
    obtain ⟨c1, c2, c3, c4⟩ := okL_t ((isL_t h).2 k (by omega))
    have hp : pieceV xs t (t + 1) k = if xs (k * 2) ≤ t ∧ t < xs (k * 2 + 1) then 1 else 0 := by unfold pieceV; split <;> omega
    unfold openV opB
    rw [ih1, hp]
    cases ho : opB xs t k with
    | false =>
      by_cases h1 : xs (k * 2) ≤ t <;> by_cases h2 : t < xs (k * 2 + 1) <;> simp [h1, h2]
    | true =>
      obtain ⟨d1, d2⟩ := ih2 ho
      have h1 : ¬ (xs (k * 2) ≤ t) := by omega
      have h2 : t < xs (k * 2 + 1) := by omega
      simp [h1, h2]
theorem opB_of {xs : Nat → Int} {t : Int} {i : Nat} (h1 : xs (i * 2) ≤ t) (h2 : t < xs (i * 2 + 1)) : ∀ k, i < k → opB xs t k = true := by
  intro k
  induction k with
  | zero => intro h; omega
  | succ k ih =>
    intro h
    unfold opB
    by_cases e : i = k
    · subst e; simp [h1, h2]
    · rw [ih (by omega)]; rfl
def ioV (n : Nat) (xs : Nat → Int) (t : Int) : Bool × Int := if isL n xs then (if inB t 0 1000000000 then (opB xs t n, 0) else (false, 2)) else (false, 1)
set_option maxHeartbeats 2000000 in
theorem isOpenF_any (a b t : Int) (g : Nat) (W : World) (hg : g < W.heap.size) (hc : W.cell? ⟨g, 0, none⟩ = some (.int .i64 t)) :
    Calls Try.prog 47 #[.agg #[.int .i64 a, .int .i64 b], .pointer (some ⟨g, 0, none⟩)] W fun e w' => e = .returned (.bool (decide (a ≤ t) && decide (t < b))) ∧ Below W.heap.size W w' := by
  by_cases h1 : a ≤ t
  · by_cases h2 : t < b
    · rw [show (decide (a ≤ t) && decide (t < b)) = true by simp; omega]
      go_enter Try.func47, Try.ntmps47
      go_wp2
      all_goals (go_ret; exact ⟨rfl, (Below.refl _ _).alloc (Nat.le_refl _) _⟩)
    · rw [show (decide (a ≤ t) && decide (t < b)) = false by simp; omega]
      go_enter Try.func47, Try.ntmps47
      go_wp2
      all_goals (go_ret; exact ⟨rfl, (Below.refl _ _).alloc (Nat.le_refl _) _⟩)
  · rw [show (decide (a ≤ t) && decide (t < b)) = false by simp; omega]
    go_enter Try.func47, Try.ntmps47
    go_wp2
    all_goals (go_ret; exact ⟨rfl, (Below.refl _ _).alloc (Nat.le_refl _) _⟩)
set_option maxHeartbeats 2000000 in
theorem indexF_any (A : Option Addr) (n c B : Nat) (xs : Nat → Int) (t : Int) (g : Nat) (w : World) (hx : Ints w B A (n * 2) xs) (hB : B ≤ w.heap.size) (hn : n ≤ 9223372036854775807) (hg : g < w.heap.size) (hc : w.cell? ⟨g, 0, none⟩ = some (.int .i64 t)) :
    Calls Try.prog 59 #[.slice A n c, .func (.func 47) #[] #[.pointer (some ⟨g, 0, none⟩)]] w fun e w' => ∃ r : Int, e = .returned (.int .i64 r) ∧ decide (0 ≤ r) = opB xs t n ∧ Below w.heap.size w w' := by
  have eg : ∀ args w, (callFunc 47 args).run Try.prog w = .ok (.enter 47 args) w := enters_of Try.func47 (by kernel_rfl) rfl
  go_enter Try.func59, Try.ntmps59
  go_wp2_with fail
  go_loopw [5, 8] (fun v5 v8 wr => ∃ k : Nat, k ≤ n ∧ v8 = .int .i64 k ∧ Hid (opB xs t k = false) ∧ Below w.heap.size w wr) (fun v5 v8 _ => (n - intOf v8).toNat)
  case atStart => exact ⟨0, by omega, rfl, Lib.hid rfl, Below.refl _ _⟩
  case round =>
    obtain ⟨k, hk, rfl, hno, hbel⟩ := hrel
    have hsz := hbel.size
    by_cases hlt : k < n
    · obtain ⟨b, o, rfl, hadB, hcode⟩ := hx (by omega)
      have g0 : wr.cell? ⟨b, o + k * 2, none⟩ = some (.int .i64 (xs (k * 2))) := by rw [hbel.cell (by simp; omega)]; exact hcode (k * 2) (by omega)
      have g1 : wr.cell? ⟨b, o + k * 2 + 1, none⟩ = some (.int .i64 (xs (k * 2 + 1))) := by rw [hbel.cell (by simp; omega)]; exact hcode (k * 2 + 1) (by omega)
      have hcall := isOpenF_any (xs (k * 2)) (xs (k * 2 + 1)) t g wr (by omega) ((hbel.cell (p := ⟨g, 0, none⟩) hg).trans hc)
      have hop : opB xs t (k + 1) = (opB xs t k || (decide (xs (k * 2) ≤ t) && decide (t < xs (k * 2 + 1)))) := rfl
      rw [hno.out, Bool.false_or] at hop
      have hyes := fun h1 h2 => opB_of (xs := xs) (t := t) (i := k) h1 h2 n hlt
      clear hcode
      generalize hv : (decide (xs (k * 2) ≤ t) && decide (t < xs (k * 2 + 1))) = v at hcall hop
      replace hv := Lib.hid hv
      replace hop := Lib.hid hop
      replace hyes := Lib.hid hyes
      cases v with
      | true =>
        go_wp2_with (go_at_fn 47; refine hcall.mono ?_; rintro e w' ⟨rfl, hb'⟩)
        go_ret
        have := hv.out
        simp at this
        exact ⟨_, rfl, by rw [hyes.out this.1 this.2]; simp, hbel.trans (hb'.mono hsz)⟩
      | false =>
        go_wp2_with (go_at_fn 47; refine hcall.mono ?_; rintro e w' ⟨rfl, hb'⟩)
        go_roundw
        case rel => exact ⟨k + 1, by omega, by go_num, hop, hbel.trans (hb'.mono hsz)⟩
        case measure => simp [intOf]; omega
    · obtain rfl : k = n := by omega
      go_wp2
      go_ret
      exact ⟨_, rfl, by rw [hno.out]; rfl, hbel⟩
set_option maxHeartbeats 2000000 in
theorem containsF_any (A : Option Addr) (n c B : Nat) (xs : Nat → Int) (t : Int) (g : Nat) (w : World) (hx : Ints w B A (n * 2) xs) (hB : B ≤ w.heap.size) (hn : n ≤ 9223372036854775807) (hg : g < w.heap.size) (hc : w.cell? ⟨g, 0, none⟩ = some (.int .i64 t)) :
    Calls Try.prog 46 #[.slice A n c, .func (.func 47) #[] #[.pointer (some ⟨g, 0, none⟩)]] w fun e w' => e = .returned (.bool (opB xs t n)) ∧ Below w.heap.size w w' := by
  go_enter Try.func46, Try.ntmps46
  go_wp2_with fail
  refine (indexF_any _ _ _ _ _ _ _ _ hx hB hn hg hc).mono ?_
  rintro e w' ⟨r, rfl, hr, hb⟩
  go_wp2
  go_ret
  exact ⟨by rw [← hr]; rfl, hb⟩
set_option maxHeartbeats 2000000 in
theorem isOpenAt_any (A : Option Addr) (n c B : Nat) (xs : Nat → Int) (t : Int) (w : World) (hx : Ints w B A (n * 2) xs) (hB : B ≤ w.heap.size) (hn : n ≤ 1048576) :
    Calls Try.prog 23 #[.slice A n c, .int .i64 t] w fun e w' => e = .returned (.tuple #[.bool (ioV n xs t).1, .int .i64 (ioV n xs t).2]) ∧ Below w.heap.size w w' := by
  have hx1 := hx.below (((Below.refl w.heap.size w).alloc (Nat.le_refl _) (.cells #[.int .i64 t] 2)).mono hB)
  replace hx := Lib.hid hx1
  clear hx1
  cases h0 : isL n xs with
  | false =>
    have e1 : ioV n xs t = (false, 1) := by simp [ioV, h0]
    rw [e1]
    clear e1
    go_enter Try.func23, Try.ntmps23
    go_wp2_with fail
    refine (isWindows_any _ _ _ _ _ _ hx.out (by simp; omega) (by omega)).mono ?_
    rintro e w1 ⟨rfl, hb1⟩
    go_wp2
    go_ret2
    exact ⟨rfl, ((Below.refl _ _).alloc (Nat.le_refl _) _).trans (hb1.mono (by simp))⟩
  | true =>
  cases h1 : inB t 0 1000000000 with
  | false =>
    have e1 : ioV n xs t = (false, 2) := by simp [ioV, h0, h1]
    rw [e1]
    clear e1
    go_enter Try.func23, Try.ntmps23
    go_wp2_with fail
    refine (isWindows_any _ _ _ _ _ _ hx.out (by simp; omega) (by omega)).mono ?_
    rintro e w1 ⟨rfl, hb1⟩
    have c0 : w1.cell? ⟨w.heap.size, 0, none⟩ = some (.int .i64 t) := by rw [hb1.cell (by simp)]; simp
    have hsz := hb1.size
    simp at hsz
    go_wp2_with (go_at_call 45; refine (isTime_any' _ _).mono ?_; rintro e w' ⟨rfl, rfl⟩)
    go_ret2
    exact ⟨rfl, ((Below.refl _ _).alloc (Nat.le_refl _) _).trans (hb1.mono (by simp))⟩
  | true =>
    have e1 : ioV n xs t = (opB xs t n, 0) := by simp [ioV, h0, h1]
    rw [e1]
    clear e1
    generalize hv : opB xs t n = v
    replace hv := Lib.hid hv
    go_enter Try.func23, Try.ntmps23
    go_wp2_with fail
    refine (isWindows_any _ _ _ _ _ _ hx.out (by simp; omega) (by omega)).mono ?_
    rintro e w1 ⟨rfl, hb1⟩
    have c0 : w1.cell? ⟨w.heap.size, 0, none⟩ = some (.int .i64 t) := by rw [hb1.cell (by simp)]; simp
    have hsz := hb1.size
    simp at hsz
    have hx2 := Lib.hid (hx.out.below (hb1.mono (by simp; omega)))
    go_wp2_with (first | (go_at_call 45; refine (isTime_any' _ _).mono ?_; rintro e w' ⟨rfl, rfl⟩) | fail)
    refine (containsF_any _ _ _ _ _ _ _ _ hx2.out (by omega) (by omega) (by omega) c0).mono ?_
    rintro e w2 ⟨rfl, hb2⟩
    rw [hv.out]
    go_wp2
    go_ret2
    exact ⟨rfl, (((Below.refl _ _).alloc (Nat.le_refl _) _).trans (hb1.mono (by simp))).trans (hb2.mono (by omega))⟩
set_option maxHeartbeats 2000000 in
theorem sIsOpenAt_any (A : Option Addr) (n c B : Nat) (xs : Nat → Int) (t : Int) (w : World) (hx : Ints w B A (n * 2) xs) (hB : B ≤ w.heap.size) (hn : n ≤ 1048576) :
    Calls Try.prog 22 #[.slice A n c, .int .i64 t] w fun e w' => e = .returned (.tuple #[.bool (ioV n xs t).1, .int .i64 (ioV n xs t).2]) ∧ Below w.heap.size w w' := by
  replace hx := Lib.hid hx
  cases h0 : isL n xs with
  | false =>
    have e1 : ioV n xs t = (false, 1) := by simp [ioV, h0]
    rw [e1]
    clear e1
    go_enter Try.func22, Try.ntmps22
    go_wp2_with fail
    refine (sIsWindows_any _ _ _ _ _ _ hx.out hB (by omega)).mono ?_
    rintro e w1 ⟨rfl, hb1⟩
    go_wp2
    go_ret2
    exact ⟨rfl, hb1⟩
  | true =>
  cases h1 : inB t 0 1000000000 with
  | false =>
    have e1 : ioV n xs t = (false, 2) := by simp [ioV, h0, h1]
    rw [e1]
    clear e1
    go_enter Try.func22, Try.ntmps22
    go_wp2_with fail
    refine (sIsWindows_any _ _ _ _ _ _ hx.out hB (by omega)).mono ?_
    rintro e w1 ⟨rfl, hb1⟩
    go_wp2_with (go_at_call 44; refine (l01In_any _ _ _ _).mono ?_; rintro e w' ⟨rfl, rfl⟩)
    go_ret2
    exact ⟨rfl, hb1⟩
  | true =>
    have hL := Lib.hid h0
    have hn30 := (isL_t h0).1
    obtain ⟨t0, t1⟩ := inB_t h1
    have e1 : ioV n xs t = (opB xs t n, 0) := by simp [ioV, h0, h1]
    rw [e1]
    clear e1
    have ho := (opB_eq (t := t) hL.out n (Nat.le_refl _)).1
    have hbd := openV_bd hL.out t0 (show t + 1 ≤ 1000000001 by omega) n (Nat.le_refl _)
    have hcall := fun W hW hb => l20Open_any A n c B t (t + 1) xs W hW hb hL.out t0 t1 (by omega) (by omega)
    generalize openV xs t (t + 1) n = s at ho hbd hcall
    replace hcall := Lib.hid hcall
    cases hv : opB xs t n with
    | false =>
      rw [hv] at ho
      simp at ho
      subst ho
      go_enter Try.func22, Try.ntmps22
      go_wp2_with fail
      refine (sIsWindows_any _ _ _ _ _ _ hx.out hB (by omega)).mono ?_
      rintro e w1 ⟨rfl, hb1⟩
      have hx2 := Lib.hid (hx.out.below (hb1.mono hB))
      have hsz := hb1.size
      go_wp2_with (first | (go_at_call 44; refine (l01In_any _ _ _ _).mono ?_; rintro e w' ⟨rfl, rfl⟩) | fail)
      refine (hcall.out _ hx2.out (by omega)).mono ?_
      rintro e w2 ⟨rfl, hb2⟩
      go_wp2
      go_ret2
      exact ⟨rfl, hb1.trans (hb2.mono hsz)⟩
    | true =>
      rw [hv] at ho
      simp at ho
      subst ho
      go_enter Try.func22, Try.ntmps22
      go_wp2_with fail
      refine (sIsWindows_any _ _ _ _ _ _ hx.out hB (by omega)).mono ?_
      rintro e w1 ⟨rfl, hb1⟩
      have hx2 := Lib.hid (hx.out.below (hb1.mono hB))
      have hsz := hb1.size
      go_wp2_with (first | (go_at_call 44; refine (l01In_any _ _ _ _).mono ?_; rintro e w' ⟨rfl, rfl⟩) | fail)
      refine (hcall.out _ hx2.out (by omega)).mono ?_
      rintro e w2 ⟨rfl, hb2⟩
      go_wp2
      go_ret2
      exact ⟨rfl, hb1.trans (hb2.mono hsz)⟩
end Go.Proofs.Ytghpaegabppeaaa
