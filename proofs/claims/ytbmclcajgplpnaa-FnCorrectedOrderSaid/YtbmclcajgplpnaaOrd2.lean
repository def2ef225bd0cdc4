/- The order of boats: the library's stable sorting, its comparison, and the indices sorted. -/
import Derived.Test.YtbmclcajgplpnaaOrd
import Derived.Test.YtbmclcajgplpnaaNum
set_option linter.unusedSimpArgs false
set_option linter.unusedVariables false
namespace Go.Proofs.Ytbmclcajgplpnaa
open Go.RowKit Go.Shelf

theorem rngL_mem {n : Nat} {x : Int} : x ∈ rngL n ↔ 0 ≤ x ∧ x < n := by
  induction n with
  | zero => simp [rngL]; try omega
  | succ n ih =>
    unfold rngL
    rw [List.mem_append, List.mem_singleton, ih]
    omega
theorem rngL_pw : ∀ n, (rngL n).Pairwise (fun x y : Int => x < y)
  | 0 => List.Pairwise.nil
  | n + 1 => by
    unfold rngL
    rw [List.pairwise_append]
    refine ⟨rngL_pw n, List.pairwise_singleton .., fun a ha b hb => ?_⟩
    rw [List.mem_singleton] at hb
    have := (rngL_mem.1 ha).2
    omega
def ordF (v : Int → Int) (p : Int → Bool) (n : Nat) : List Int := ((rngL n).filter p).mergeSort (fun x y => decide (v x < v y ∨ (v x = v y ∧ x ≤ y)))
theorem ordF_mem {v : Int → Int} {p : Int → Bool} {n : Nat} {x : Int} : x ∈ ordF v p n ↔ (0 ≤ x ∧ x < n) ∧ p x = true := by
  unfold ordF
  rw [(List.mergeSort_perm _ _).mem_iff, List.mem_filter, rngL_mem]
theorem ordF_pw (v : Int → Int) (p : Int → Bool) (n : Nat) : (ordF v p n).Pairwise (lexL v) := by
  have h1 := List.pairwise_mergeSort (le := fun x y : Int => decide (v x < v y ∨ (v x = v y ∧ x ≤ y))) (fun a b c h1 h2 => by simp at *; omega) (fun a b => by simp; omega) ((rngL n).filter p)
  have h2 : (ordF v p n).Nodup := by
    unfold ordF
    rw [(List.mergeSort_perm _ _).nodup_iff]
    exact ((rngL_pw n).filter p).imp (fun h e => by omega)
  refine (h1.and h2).imp ?_
  rintro a b ⟨h, hne⟩
  simp only [decide_eq_true_eq] at h
  unfold lexL
  omega
theorem ord_law {v : Int → Int} {p : Int → Bool} {n : Nat} {zs : List Int} (h : Ordd v n zs) : zs.filter p = ordF v p n :=
  lex_ext _ _ (h.2.1.filter p) (ordF_pw v p n) (fun x => by rw [List.mem_filter, h.2.2, ordF_mem])
set_option maxRecDepth 100000 in
set_option maxHeartbeats 8000000 in
theorem stable_any (v : Int → Int) (base : Nat) (w0 : World) (p g n c : Nat) (w : World) (hn : n ≤ 16) (hC : CmpOK base w0 n v p) (hb : Below base w0 w) (hbz : base ≤ w0.heap.size) (hown : w.ownsRow base 2 1 (.slice (some ⟨g, 0, none⟩) n c) n ((rngL n).map (Value.int .i64))) :
    Calls Try.prog 83 #[.slice (some ⟨g, 0, none⟩) n c, .int .i64 n, .func (.func 81) #[] #[.pointer (some ⟨p, 0, none⟩)]] w fun e w' => e = .returned (.tuple #[]) ∧ ∃ zs, Ordd v n zs ∧ w'.ownsRow base 2 1 (.slice (some ⟨g, 0, none⟩) n c) n (zs.map (Value.int .i64)) ∧ Below base w0 w' := by
  have hcall := insSort_any v base w0 p g n c w hn hC hb hbz hown
  replace hcall := Lib.hid hcall
  have h20 : ¬ ((20 : Int) ≤ n) := by omega
  have h20' : ¬ ((20 : Int) < n) := by omega
  clear hC hb hown
  go_enter Try.func83, Try.ntmps83
  go_wp2_with fail
  go_loopw [7, 8] (fun v7 v8 wr => v7 = .int .i64 0 ∧ v8 = .int .i64 20 ∧ wr = w) (fun _ _ _ => 0)
  case atStart => exact ⟨rfl, rfl, rfl⟩
  case round =>
    obtain ⟨rfl, rfl, rfl⟩ := hrel
    go_wp2_with fail
    refine hcall.out.mono ?_
    rintro e w2 ⟨rfl, zs, hord, hown, hb⟩
    clear hcall
    go_wp2_with fail
    go_loopw [6, 7, 8, 9] (fun v6 _ _ _ wr => v6 = .int .i64 20 ∧ wr = w2) (fun _ _ _ _ _ => 0)
    case atStart => exact ⟨rfl, rfl⟩
    case round =>
      obtain ⟨rfl, rfl⟩ := hrel
      go_wp2
      go_end0
      exact ⟨rfl, zs, hord, hown, hb⟩
set_option maxRecDepth 100000 in
set_option maxHeartbeats 8000000 in
theorem sortStable_any (v : Int → Int) (base : Nat) (w0 : World) (p g n c : Nat) (w : World) (hn : n ≤ 16) (hC : CmpOK base w0 n v p) (hb : Below base w0 w) (hbz : base ≤ w0.heap.size) (hown : w.ownsRow base 2 1 (.slice (some ⟨g, 0, none⟩) n c) n ((rngL n).map (Value.int .i64))) :
    Calls Try.prog 80 #[.slice (some ⟨g, 0, none⟩) n c, .func (.func 81) #[] #[.pointer (some ⟨p, 0, none⟩)]] w fun e w' => e = .returned (.tuple #[]) ∧ ∃ zs, Ordd v n zs ∧ w'.ownsRow base 2 1 (.slice (some ⟨g, 0, none⟩) n c) n (zs.map (Value.int .i64)) ∧ Below base w0 w' := by
  have hcall := stable_any v base w0 p g n c w hn hC hb hbz hown
  replace hcall := Lib.hid hcall
  clear hC hb hown
  go_enter Try.func80, Try.ntmps80
  go_wp2_with fail
  refine hcall.out.mono ?_
  rintro e w2 ⟨rfl, zs, hord, hown, hb⟩
  go_wp2
  go_end0
  exact ⟨rfl, zs, hord, hown, hb⟩
/-- What the order asks of the number of a boat. -/
def Fn1OK (w : World) (n : Nat) (v : Int → Int) (pl pr : Nat) : Prop :=
  ∀ x : Int, 0 ≤ x → x < n → ∀ W, Below w.heap.size w W → Calls Try.prog 67 #[.int .i64 x, .pointer (some ⟨pl, 0, none⟩), .pointer (some ⟨pr, 0, none⟩)] W fun e w' => e = .returned (.int .i64 (v x)) ∧ Below W.heap.size W w'
def Fn2OK (w : World) (n : Nat) (v : Int → Int) (q : Nat) : Prop :=
  ∀ x y : Int, 0 ≤ x → x < n → 0 ≤ y → y < n → ∀ W, Below w.heap.size w W → Calls Try.prog 77 #[.int .i64 x, .int .i64 y, .pointer (some ⟨q, 0, none⟩)] W fun e w' => e = .returned (.int .i64 (v x - v y)) ∧ Below W.heap.size W w'
set_option maxRecDepth 100000 in
set_option maxHeartbeats 8000000 in
theorem fn2_any (w : World) (n : Nat) (v : Int → Int) (pl pr : Nat) (hv : ∀ x : Int, 0 ≤ x → x < n → 0 ≤ v x ∧ v x ≤ 3000000000000) (h : Fn1OK w n v pl pr) : Fn2OK (w.alloc (.cells #[.func (.func 67) #[] #[.pointer (some ⟨pl, 0, none⟩), .pointer (some ⟨pr, 0, none⟩)]] 81)) n v w.heap.size := by
  intro x y x0 x1 y0 y1 W hb
  have hW := (Whole.new w 81 #[.func (.func 67) #[] #[.pointer (some ⟨pl, 0, none⟩), .pointer (some ⟨pr, 0, none⟩)]]).below hb (by simp)
  have c0 : W.cell? ⟨w.heap.size, 0, none⟩ = some (.func (.func 67) #[] #[.pointer (some ⟨pl, 0, none⟩), .pointer (some ⟨pr, 0, none⟩)]) := by simpa using hW.cell 0
  have hbw : Below w.heap.size w W := ((Below.refl w.heap.size w).alloc (Nat.le_refl _) _).trans (hb.mono (by simp))
  have hzz := hbw.size
  have hl := hW.lt
  have hX : ∀ u : Over W, Calls Try.prog 67 #[.int .i64 x, .pointer (some ⟨pl, 0, none⟩), .pointer (some ⟨pr, 0, none⟩)] u.w fun e w' => e = .returned (.int .i64 (v x)) ∧ Below u.w.heap.size u.w w' := fun u => h x x0 x1 u.w (hbw.trans (u.ok.mono hzz))
  have hY : ∀ u : Over W, Calls Try.prog 67 #[.int .i64 y, .pointer (some ⟨pl, 0, none⟩), .pointer (some ⟨pr, 0, none⟩)] u.w fun e w' => e = .returned (.int .i64 (v y)) ∧ Below u.w.heap.size u.w w' := fun u => h y y0 y1 u.w (hbw.trans (u.ok.mono hzz))
  have C0 : ∀ u : Over W, u.w.cell? ⟨w.heap.size, 0, none⟩ = some (.func (.func 67) #[] #[.pointer (some ⟨pl, 0, none⟩), .pointer (some ⟨pr, 0, none⟩)]) := fun u => u.cell hl c0
  obtain ⟨a0, a1⟩ := hv x x0 x1
  obtain ⟨b0, b1⟩ := hv y y0 y1
  generalize v x = a at *
  generalize v y = b at *
  have hwr : IntKind.i64.wrap (a - b) = a - b := by rw [IntKind.wrap_i64]; omega
  replace hX := Lib.hid hX
  replace hY := Lib.hid hY
  generalize w.heap.size = q at *
  clear h hb hW hbw hv
  go_enter Try.func77, Try.ntmps77
  go_wp2_with fail
  refine wp_region_over (by kernel_rfl) (by kernel_rfl) ?_
  repeat (go_big_quiet_step ((go_at_call 67; first | with_reducible exact over_call (hX.out _) | with_reducible exact over_call (hY.out _))))
  refine wpQuiet_nil ?_
  rintro _ ⟨u, rfl⟩
  go_wp2
  go_ret
  exact ⟨rfl, u.ok⟩
set_option maxRecDepth 100000 in
set_option maxHeartbeats 8000000 in
theorem cmp_any (w : World) (n : Nat) (v : Int → Int) (q : Nat) (hv : ∀ x : Int, 0 ≤ x → x < n → 0 ≤ v x ∧ v x ≤ 3000000000000) (h : Fn2OK w n v q) : CmpOK (w.heap.size + 1) (w.alloc (.cells #[.func (.func 77) #[] #[.pointer (some ⟨q, 0, none⟩)]] 67)) n v w.heap.size := by
  intro x y x0 x1 y0 y1 W hb hz
  have hW := (Whole.new w 67 #[.func (.func 77) #[] #[.pointer (some ⟨q, 0, none⟩)]]).below hb (by simp)
  have c0 : W.cell? ⟨w.heap.size, 0, none⟩ = some (.func (.func 77) #[] #[.pointer (some ⟨q, 0, none⟩)]) := by simpa using hW.cell 0
  have hbw : Below w.heap.size w W := ((Below.refl w.heap.size w).alloc (Nat.le_refl _) _).trans (hb.mono (by omega))
  have hX := h x y x0 x1 y0 y1 W hbw
  obtain ⟨a0, a1⟩ := hv x x0 x1
  obtain ⟨b0, b1⟩ := hv y y0 y1
  generalize v x = a at *
  generalize v y = b at *
  obtain ⟨d, hd⟩ : ∃ d, a - b = d := ⟨_, rfl⟩
  rw [hd] at hX ⊢
  have hsv : sgn d = sgV d := by unfold sgn sgV; split <;> (try split) <;> (try split) <;> omega
  rw [← hsv]
  clear hsv
  replace hX := Lib.hid hX
  clear h hb hW
  go_enter Try.func81, Try.ntmps81
  go_wp2_with fail
  refine hX.out.mono ?_
  rintro e w2 ⟨rfl, hb2⟩
  go_wp2_with (first | (go_at_call 70; refine (sign_any _ _).mono ?_; rintro e w' ⟨rfl, rfl⟩) | fail)
  go_ret
  exact ⟨rfl, hb2⟩
end Go.Proofs.Ytbmclcajgplpnaa
