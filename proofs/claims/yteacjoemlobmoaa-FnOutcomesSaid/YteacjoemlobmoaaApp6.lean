/- OutcomeOf: the program's (a range over slices.Backward) and the reference's. -/
import Derived.Test.YteacjoemlobmoaaApp5
import Derived.RangeFuncNested
import Derived.RangeFuncBound
import Derived.RangeFuncCalls
import Derived.RangeFuncLeaves
import Derived.Shelf.Abstract
import Derived.Shelf.RegionOpen
import Derived.WalkKit
import Derived.OwnWalkIn
import Derived.TacticsInMore
import Derived.LoopNIn
import Derived.LoopIn
set_option linter.unusedSimpArgs false
set_option linter.unusedVariables false
namespace Go.Proofs.Yteacjoemlobmoaa
open Go.RowKit Go.Shelf
attribute [local go_sem] Oper.semAt_some

/-- What has come when k rounds are over: n - 1, n - 2, .. -/
def downTo (n k : Nat) : List Nat := (List.range k).map (fun j => n - 1 - j)
theorem downTo_succ (n k : Nat) : downTo n (k + 1) = downTo n k ++ [n - 1 - k] := by simp [downTo, List.range_succ]
theorem downTo_len (n k : Nat) : (downTo n k).length = k := by simp [downTo]
def rulA (xs : Nat → Int) (k : Nat) : Array Value := #[.int .i64 k, .agg #[.int .i64 (xs (k * 3)), .int .i64 (xs (k * 3 + 1)), .int .i64 (xs (k * 3 + 2))]]

set_option maxRecDepth 100000 in
set_option maxHeartbeats 4000000 in
theorem back1_in (F : Fence) (N : Nat) (h : F.fn 48) (hro : F.round = none) (hN : 1 ≤ N) (l Bs n₀ n c : Nat) (A : Option Addr) (xs : Nat → Int) (hn : n ≤ 1048576) (J Jx : List Nat → World → Prop)
    (hY : ∀ pre x W, J pre W → pre.length < n → YieldAt F (N - 1) Try.prog l (rulA xs x) W fun e W' =>
      (e = .returned (.bool true) ∧ J (pre ++ [x]) W' ∧ Below n₀ W W') ∨ (e = .returned (.bool false) ∧ Jx (pre ++ [x]) W'))
    (W : World) (hBs : W.cell? ⟨Bs, 0, none⟩ = some (.slice A n c)) (hBl : Bs < n₀) (hx : Ints W n₀ A (n * 3) xs) (h0 : J [] W) :
    CallsIn F N Try.prog 48 #[.func (.yield l) #[] #[], .pointer (some ⟨Bs, 0, none⟩)] W fun e W' => (∃ v, e = .returned v) ∧
      ((∃ ys, ys = downTo n n ∧ J ys W') ∨ (∃ pre, (∃ k, k ≤ n ∧ pre = downTo n k) ∧ Jx pre W')) := by
  refine callsIn_of_wp Try.func48 rfl h ?_ hro
  simp only [Try.ntmps48, List.size_toArray, List.length_cons, List.length_nil, Nat.reduceAdd, Nat.reduceSub, Array.replicate_succ, Array.replicate_zero, List.push_toArray, List.append_toArray, List.nil_append, List.cons_append]
  gi_wp2
  gi_loopw [3] (fun v wr => ∃ (k : Nat) (p : Int), k ≤ n ∧ v = .int .i64 p ∧ p + 1 + k = n ∧ J (downTo n k) wr ∧ Below n₀ W wr) (fun v _ => (intOf v + 1).toNat)
  case atStart => exact ⟨0, (n : Int) - 1, by omega, rfl, by omega, h0, Below.refl _ _⟩
  case round =>
    obtain ⟨k, p, hk, rfl, hp, hJs, hnx⟩ := hrel
    have hBs' := (hnx.cell (p := ⟨Bs, 0, none⟩) hBl).trans hBs
    by_cases hlt : k < n
    · obtain ⟨q, rfl⟩ : ∃ q : Nat, p = q := ⟨p.toNat, by omega⟩
      have hqe : q = n - 1 - k := by omega
      have hqn : q < n := by omega
      obtain ⟨b, o, rfl, hadB, hcode⟩ := hx (by omega)
      have g0 : wr.cell? ⟨b, o + q * 3, none⟩ = some (.int .i64 (xs (q * 3))) := (hnx.cell (p := ⟨b, o + q * 3, none⟩) hadB).trans (hcode (q * 3) (by omega))
      have g1 : wr.cell? ⟨b, o + q * 3 + 1, none⟩ = some (.int .i64 (xs (q * 3 + 1))) := (hnx.cell (p := ⟨b, o + q * 3 + 1, none⟩) hadB).trans (hcode (q * 3 + 1) (by omega))
      have g2 : wr.cell? ⟨b, o + q * 3 + 2, none⟩ = some (.int .i64 (xs (q * 3 + 2))) := (hnx.cell (p := ⟨b, o + q * 3 + 2, none⟩) hadB).trans (hcode (q * 3 + 2) (by omega))
      obtain ⟨fn, tmps, assign, body, hy, hR⟩ := hY _ q wr hJs (by rw [downTo_len]; exact hlt)
      dsimp only [rulA] at hy
      replace hqe := Lib.hid hqe
      clear hcode
      gi_wp2
      refine hR.mono ?_
      rintro e W3 (⟨rfl, hJ3, hk3⟩ | ⟨rfl, hJx3⟩)
      · gi_wp2
        go_roundw
        case rel => exact ⟨k + 1, (q : Int) - 1, by omega, by go_num, by omega, by rw [downTo_succ, ← hqe.out]; exact hJ3, hnx.trans hk3⟩
        case measure => simp [intOf]; try omega
      · gi_wp2
        refine bodyPost_ret (results_none rfl _ _ _) rfl ?_
        exact ⟨⟨_, rfl⟩, .inr ⟨_, ⟨k + 1, by omega, by rw [downTo_succ, ← hqe.out]⟩, hJx3⟩⟩
    · obtain rfl : k = n := by omega
      obtain rfl : p = -1 := by omega
      gi_wp2
      go_end0
      exact ⟨⟨_, rfl⟩, .inl ⟨_, rfl, hJs⟩⟩
set_option maxHeartbeats 1000000 in
theorem back_in (F : Fence) (N : Nat) (h : F.fn 36) (hro : F.round = none) (a : Option Addr) (len cap : Nat) (w : World) :
    CallsIn F N Try.prog 36 #[.slice a len cap] w fun e w' => e = .returned (.func (.func 48) #[] #[.pointer (some ⟨w.heap.size, 0, none⟩)]) ∧ w' = w.alloc (.cells #[.slice a len cap] 25) := by
  refine callsIn_of_wp Try.func36 rfl h ?_ hro
  simp only [Try.ntmps36, List.size_toArray, List.length_cons, List.length_nil, Nat.reduceAdd, Nat.reduceSub, Array.replicate_succ, Array.replicate_zero, List.push_toArray, List.append_toArray, List.nil_append, List.cons_append]
  gi_wp2
  go_ret
  exact ⟨rfl, rfl⟩
theorem back_stops (F : Fence) (N : Nat) (h : F.fn 48) (hro : F.round = none) (hN : 1 ≤ N) (Bs n₀ n c : Nat) (A : Option Addr) (xs : Nat → Int) (hn : n ≤ 1048576) (w : World) (hBl : Bs < n₀) (hn₀ : n₀ ≤ w.heap.size) (hBs : w.cell? ⟨Bs, 0, none⟩ = some (.slice A n c)) (hx : Ints w n₀ A (n * 3) xs) :
    SeqStopsK F N Try.prog 48 #[.pointer (some ⟨Bs, 0, none⟩)] (rulA xs) (Below n₀) (fun ys => ys = downTo n n) (fun pre => ∃ k, k ≤ n ∧ pre = downTo n k) n w := fun l J Jx W hW _ _ hY h0 =>
  back1_in F N h hro hN l Bs n₀ n c A xs hn J Jx hY W ((hW.cell (p := ⟨Bs, 0, none⟩) (show Bs < w.heap.size by omega)).trans hBs) hBl (hx.below (hW.mono hn₀)) h0

theorem whole_kept {W W' : World} {g : Nat} {t : TypeId} {cs : Array Value} {row : Option Nat} (h : Whole W g t cs) (hg : W.grownBy W' row) (hr : ∀ r, row = some r → ∃ o : Obj, W.heap[r]? = some o ∧ o.isCells = false) : Whole W' g t cs :=
  h.grown hg (fun e => by obtain ⟨o, ho, hc⟩ := hr g e; rw [show W.heap[g]? = _ from h] at ho; cases ho; cases hc)
/-- Is a ruling one that has an outcome? -/
def hitB (xs : Nat → Int) (k : Nat) : Bool := (xs (k * 3 + 1) == 1) || (xs (k * 3 + 1) == 3)
def ocF (xs : Nat → Int) : Nat → Option Int
  | 0 => none
  | k + 1 => if hitB xs k = true then some (xs (k * 3 + 2)) else ocF xs k
def ocV (n : Nat) (xs : Nat → Int) : Int × Int := if hisB n xs = true then (match ocF xs n with | some r => (r, 0) | none => (0, 4)) else (0, 1)
theorem ocF_skip {xs : Nat → Int} {k : Nat} : ∀ n, k ≤ n → (∀ j, k ≤ j → j < n → hitB xs j = false) → ocF xs n = ocF xs k := by
  intro n
  induction n with
  | zero =>
    intro h _
    have : k = 0 := by omega
    subst this
    rfl
  | succ n ih =>
    intro h hj
    by_cases e : k = n + 1
    · subst e; rfl
    · rw [ocF, hj n (by omega) (by omega), if_neg (by simp)]
      exact ih (by omega) (fun j h1 h2 => hj j h1 (by omega))
set_option maxRecDepth 100000 in
set_option maxHeartbeats 8000000 in
theorem outcomeOf_any (A : Option Addr) (n c B : Nat) (xs : Nat → Int) (w : World) (hx : Ints w B A (n * 3) xs) (hB : B ≤ w.heap.size) (hn : n ≤ 1048576) :
    Calls Try.prog 18 #[.slice A n c] w fun e w' => e = .returned (.tuple #[.int .i64 (ocV n xs).1, .int .i64 (ocV n xs).2]) ∧ Below w.heap.size w w' := by
  have hro : Fence.wide.round = none := rfl
  have h1 : 1 ≤ 3 := by omega
  have hB0 : Below w.heap.size w ((w.alloc (.cells #[.int .i64 0] 2)).alloc (.cells #[.int .i64 0] 2)) := ((Below.refl _ w).alloc (Nat.le_refl _) _).alloc (by simp) _
  have hx0 := hx.below (hB0.mono hB)
  have hcall := fun v (hv : Hid (hisB n xs = v)) => isHistory_v A n c B xs _ v hv hx0 (by simp; omega) (by omega)
  replace hx := Lib.hid hx
  refine (callsIn_wide (n := 3)).1 ?_
  cases hh : hisB n xs with
  | false =>
    have e1 : ocV n xs = (0, 1) := by simp [ocV, hh]
    rw [e1]
    replace hcall := Lib.hid (hcall false (Lib.hid hh))
    clear e1
    refine callsIn_of_wp_marks Try.func18 rfl trivial ?_ rfl
    simp only [Try.ntmps18, List.size_toArray, List.length_cons, List.length_nil, Nat.reduceAdd, Nat.reduceSub, Array.replicate_succ, Array.replicate_zero, List.push_toArray, List.append_toArray, List.nil_append, List.cons_append]
    gi_wp2
    refine ⟨trivial, ?_⟩
    refine (callsIn_wide.2 hcall.out).mono ?_
    rintro e w1 ⟨rfl, hb1⟩
    have hz1 := hb1.size
    simp at hz1
    have bx0 : Whole w1 w.heap.size 2 #[.int .i64 0] := ((Whole.new w 2 #[.int .i64 0]).alloc _).below hb1 (by simp; omega)
    have bx1 : Whole w1 (w.heap.size + 1) 2 #[.int .i64 0] := by
      have h := (Whole.new (w.alloc (.cells #[.int .i64 0] 2)) 2 #[.int .i64 0]).below hb1 (by simp)
      simpa using h
    have hB1 : Below w.heap.size w w1 := hB0.trans (hb1.mono (by simp; omega))
    have c0 := bx0.cell 0
    have c1 := bx1.cell 0
    have f0 := bx0.frz 0
    have f1 := bx1.frz 0
    simp at c0 c1
    gi_wp2
    refine ⟨.tuple #[.int .i64 0, .int .i64 1], ?_, rfl, (hB1.setCell (p := ⟨w.heap.size, 0, none⟩) (Nat.le_refl _) _).setCell (p := ⟨w.heap.size + 1, 0, none⟩) (by simp) _⟩
    simp [results, Try.f18, go_sem, c0, c1]
  | true =>
    replace hcall := Lib.hid (hcall true (Lib.hid hh))
    refine callsIn_of_wp_marks Try.func18 rfl trivial ?_ rfl
    simp only [Try.ntmps18, List.size_toArray, List.length_cons, List.length_nil, Nat.reduceAdd, Nat.reduceSub, Array.replicate_succ, Array.replicate_zero, List.push_toArray, List.append_toArray, List.nil_append, List.cons_append]
    gi_wp2
    refine ⟨trivial, ?_⟩
    refine (callsIn_wide.2 hcall.out).mono ?_
    rintro e w1 ⟨rfl, hb1⟩
    have hz1 := hb1.size
    simp at hz1
    have bx0 : Whole w1 w.heap.size 2 #[.int .i64 0] := ((Whole.new w 2 #[.int .i64 0]).alloc _).below hb1 (by simp; omega)
    have bx1 : Whole w1 (w.heap.size + 1) 2 #[.int .i64 0] := by
      have h := (Whole.new (w.alloc (.cells #[.int .i64 0] 2)) 2 #[.int .i64 0]).below hb1 (by simp)
      simpa using h
    have hB1 : Below w.heap.size w w1 := hB0.trans (hb1.mono (by simp; omega))
    have c0 := bx0.cell 0
    have c1 := bx1.cell 0
    have f0 := bx0.frz 0
    have f1 := bx1.frz 0
    simp at c0 c1
    have hx1 := hx0.below (hb1.mono (by simp; omega))
    gi_wp2
    refine ⟨trivial, ?_⟩
    refine (back_in Fence.wide _ trivial rfl _ _ _ _).mono ?_
    rintro e w' ⟨rfl, rfl⟩
    gi_wp2
    have bN := Whole.new w1 25 #[.slice A n c]
    have cN : (w1.alloc (.cells #[.slice A n c] 25)).cell? ⟨w1.heap.size, 0, none⟩ = some (.slice A n c) := by simp
    have hB2 := hB1.alloc (by omega) (.cells #[.slice A n c] 25)
    have hS1 : w1.heap.size + 1 ≤ (w1.alloc (.cells #[.slice A n c] 25)).heap.size := by simp
    refine wpIn_rangeFunc_ownH hro h1 (gf := 48) (lb := #[.pointer (some ⟨w1.heap.size, 0, none⟩)]) rfl trivial (enters_of Try.func48 (by kernel_rfl) rfl)
      (back_stops Fence.wide (3 - 1) trivial rfl (by omega) w1.heap.size (w1.heap.size + 1) n c A xs hn _ (by omega) (by simp) cN ((hx1.below ((Below.refl _ _).alloc (by omega) _)).more (by omega)))
      belowK_t (belowK_b (by simp)) (Below.refl _ _) (fun _ => by rfl)
      (fun pre W => (∀ p ∈ pre, hitB xs p = false) ∧ Below (w1.heap.size + 1) (w1.alloc (.cells #[.slice A n c] 25)) W)
      (fun co pre W => (co = .ret ∧ ∃ ini last, pre = ini ++ [last] ∧ (∀ p ∈ ini, hitB xs p = false) ∧ hitB xs last = true ∧ Whole W w.heap.size 2 #[.int .i64 (xs (last * 3 + 2))] ∧ Whole W (w.heap.size + 1) 2 #[.int .i64 0]) ∧ Below w.heap.size w W)
      (OwnFrom.and (ownFrom_pure _ _) (ownFrom_below hS1 hS1))
      (fun co => OwnFrom.and (Own.from (fun s X Y row hs hg hr => by obtain ⟨hc, ini, last, e1, e2, e3, e4, e5⟩ := hs; exact ⟨hc, ini, last, e1, e2, e3, whole_kept e4 hg hr, whole_kept e5 hg hr⟩) _) (ownFrom_below (Nat.le_refl _) (by simp; omega)))
      ⟨by simp, Below.refl _ _⟩
      (fun x a' W => ∃ Bx, w1.heap.size < Bx ∧ Whole W Bx 44 #[.int .i64 (xs (x * 3)), .int .i64 (xs (x * 3 + 1)), .int .i64 (xs (x * 3 + 2))] ∧ a' = { tmps := #[.slice A n c, undef, .pointer (some ⟨w.heap.size, 0, none⟩), .pointer (some ⟨w.heap.size + 1, 0, none⟩), undef, .pointer (some ⟨Bx, 0, none⟩), .slice A n c, .bool true, .bool false, .slice A n c, .func (.func 48) #[] #[.pointer (some ⟨w1.heap.size, 0, none⟩)], .int .i64 x, .agg #[.int .i64 (xs (x * 3)), .int .i64 (xs (x * 3 + 1)), .int .i64 (xs (x * 3 + 2))], undef, undef, undef, undef, undef, undef, undef, undef, undef, undef], defers := [] })
      (fun x a' => Own.from (fun s X Y row hs hg hr => by obtain ⟨Bx, h1, h2, h3⟩ := hs; exact ⟨Bx, h1, whole_kept h2 hg hr, h3⟩) _)
      ?assign ?body ?done ?stop
    case assign =>
      intro l pre x W K hi hK
      have hWs := hi.2.size
      simp at hWs
      simp only [rulA]
      gi_wp2
      exact hK _ _ ((KeepsOthers.alloc _ _).from _) ((Below.refl _ W).alloc (by omega) _) ⟨hi.1, hi.2.alloc (by omega) _⟩ ⟨W.heap.size, by omega, Whole.new W _ _, rfl⟩
    case body =>
      rintro l pre x a' W hl ⟨r, hr⟩ ⟨hp, hB⟩ ⟨Bx, hBx, hX, rfl⟩ hlt
      have hWs := hB.size
      simp at hWs
      have b0 : Whole W w.heap.size 2 #[.int .i64 0] := (bx0.alloc _).below hB (by omega)
      have b1 : Whole W (w.heap.size + 1) 2 #[.int .i64 0] := (bx1.alloc _).below hB (by omega)
      have c0 := b0.cell 0
      have c1 := b1.cell 0
      have f0 := b0.frz 0
      have f1 := b1.frz 0
      have y1 := hX.cell 1
      have y2 := hX.cell 2
      simp at c0 c1 y1 y2
      have hBl := hX.lt
      have hBw : Below w.heap.size w W := hB2.trans (hB.mono (by omega))
      have hyes : ∀ v : Int, Whole ((W.setCell ⟨w.heap.size, 0, none⟩ (.int .i64 v)).setCell ⟨w.heap.size + 1, 0, none⟩ (.int .i64 0)) w.heap.size 2 #[.int .i64 v] ∧ Whole ((W.setCell ⟨w.heap.size, 0, none⟩ (.int .i64 v)).setCell ⟨w.heap.size + 1, 0, none⟩ (.int .i64 0)) (w.heap.size + 1) 2 #[.int .i64 0] := fun v => by
        refine ⟨?_, ?_⟩
        · have h := (b0.put 0 (.int .i64 v)).far (p := ⟨w.heap.size + 1, 0, none⟩) (by simp) (.int .i64 0)
          simpa using h
        · have h := (b1.far (p := ⟨w.heap.size, 0, none⟩) (by simp) (.int .i64 v)).put 0 (.int .i64 0)
          simpa using h
      replace hyes := Lib.hid hyes
      have hfin : hitB xs x = true → KeepsFrom (w1.heap.size + 1) W ((W.setCell ⟨w.heap.size, 0, none⟩ (.int .i64 (xs (x * 3 + 2)))).setCell ⟨w.heap.size + 1, 0, none⟩ (.int .i64 0)) ∧ ((Code.ret = .ret ∧ ∃ ini last, pre ++ [x] = ini ++ [last] ∧ (∀ p ∈ ini, hitB xs p = false) ∧ hitB xs last = true ∧ Whole ((W.setCell ⟨w.heap.size, 0, none⟩ (.int .i64 (xs (x * 3 + 2)))).setCell ⟨w.heap.size + 1, 0, none⟩ (.int .i64 0)) w.heap.size 2 #[.int .i64 (xs (last * 3 + 2))] ∧ Whole ((W.setCell ⟨w.heap.size, 0, none⟩ (.int .i64 (xs (x * 3 + 2)))).setCell ⟨w.heap.size + 1, 0, none⟩ (.int .i64 0)) (w.heap.size + 1) 2 #[.int .i64 0]) ∧ Below w.heap.size w ((W.setCell ⟨w.heap.size, 0, none⟩ (.int .i64 (xs (x * 3 + 2)))).setCell ⟨w.heap.size + 1, 0, none⟩ (.int .i64 0))) := fun hh =>
        ⟨((KeepsOthers.setCell _ _ _).trans (KeepsOthers.setCell _ _ _)).from _, ⟨rfl, pre, x, rfl, hp, hh, (hyes.out _).1, (hyes.out _).2⟩, (hBw.setCell (p := ⟨w.heap.size, 0, none⟩) (Nat.le_refl _) _).setCell (p := ⟨w.heap.size + 1, 0, none⟩) (by simp) _⟩
      have hgo : hitB xs x = false → KeepsFrom (w1.heap.size + 1) W W ∧ Below (w1.heap.size + 1) W W ∧ ((∀ p ∈ pre ++ [x], hitB xs p = false) ∧ Below (w1.heap.size + 1) (w1.alloc (.cells #[.slice A n c] 25)) W) := fun hh =>
        ⟨KeepsFrom.refl _ _, Below.refl _ _, fun p hp' => (List.mem_append.1 hp').elim (hp p) (fun e => by simp at e; subst e; exact hh), hB⟩
      have hhit : hitB xs x = ((xs (x * 3 + 1) == 1) || (xs (x * 3 + 1) == 3)) := rfl
      replace hfin := Lib.hid hfin
      replace hgo := Lib.hid hgo
      generalize xs (x * 3 + 1) = kd at y1 hhit
      by_cases k1 : kd = 1
      · subst k1
        gi_wp2
        obtain ⟨k1', ⟨_, k2'⟩, k3'⟩ := hfin.out (by rw [hhit]; rfl)
        exact ⟨k1', ⟨rfl, k2'⟩, k3'⟩
      · by_cases k3 : kd = 3
        · subst k3
          gi_wp2
          obtain ⟨k1', ⟨_, k2'⟩, k3'⟩ := hfin.out (by rw [hhit]; rfl)
          exact ⟨k1', ⟨rfl, k2'⟩, k3'⟩
        · have n1 : (kd == 1) = false := by rw [beq_eq_false_iff_ne]; exact k1
          have n3 : (kd == 3) = false := by rw [beq_eq_false_iff_ne]; exact k3
          gi_wp2
          exact hgo.out (by rw [hhit, n1, n3]; rfl)
    case done =>
      rintro D ys W hD rfl ⟨hp, hB⟩ hK
      have hWs := hB.size
      simp at hWs hD
      have b0 : Whole W w.heap.size 2 #[.int .i64 0] := (bx0.alloc _).below hB (by omega)
      have b1 : Whole W (w.heap.size + 1) 2 #[.int .i64 0] := (bx1.alloc _).below hB (by omega)
      have c0 := b0.cell 0
      have c1 := b1.cell 0
      have f0 := b0.frz 0
      have f1 := b1.frz 0
      simp at c0 c1
      have hBw : Below w.heap.size w W := hB2.trans (hB.mono (by omega))
      have hno : ocF xs n = none := by
        rw [ocF_skip (k := 0) n (by omega) (fun j _ hj => hp j (by simp only [downTo, List.mem_map, List.mem_range]; exact ⟨n - 1 - j, by omega, by omega⟩))]
        rfl
      have e1 : ocV n xs = (0, 4) := by simp [ocV, hh, hno]
      have hW0 : Whole ((W.setCell ⟨w.heap.size, 0, none⟩ (.int .i64 0)).setCell ⟨w.heap.size + 1, 0, none⟩ (.int .i64 4)) w.heap.size 2 #[.int .i64 0] := by
        have h := (b0.put 0 (.int .i64 0)).far (p := ⟨w.heap.size + 1, 0, none⟩) (by simp) (.int .i64 4)
        simpa using h
      have hW1 : Whole ((W.setCell ⟨w.heap.size, 0, none⟩ (.int .i64 0)).setCell ⟨w.heap.size + 1, 0, none⟩ (.int .i64 4)) (w.heap.size + 1) 2 #[.int .i64 4] := by
        have h := (b1.far (p := ⟨w.heap.size, 0, none⟩) (by simp) (.int .i64 0)).put 0 (.int .i64 4)
        simpa using h
      have hK' := ((KeepsOthers.setCell W ⟨w.heap.size, 0, none⟩ (.int .i64 0)).trans (KeepsOthers.setCell _ ⟨w.heap.size + 1, 0, none⟩ (.int .i64 4))).same D _ hK rfl
      have hBf := (hBw.setCell (p := ⟨w.heap.size, 0, none⟩) (Nat.le_refl _) (.int .i64 0)).setCell (p := ⟨w.heap.size + 1, 0, none⟩) (by simp) (.int .i64 4)
      replace hW0 := Lib.hid hW0
      replace hW1 := Lib.hid hW1
      replace hK' := Lib.hid hK'
      replace hBf := Lib.hid hBf
      gi_wp2
      refine ⟨by simp, .inl ⟨_, _, rfl, run_takeDeferred hK'.out, ?_⟩⟩
      have d0 := cell_kept ((hW0.out).cell 0) (grownBy_putObj' _ D (.deferred none)) (fun r e => by cases e; exact ⟨_, hK'.out, rfl⟩)
      have d1 := cell_kept ((hW1.out).cell 0) (grownBy_putObj' _ D (.deferred none)) (fun r e => by cases e; exact ⟨_, hK'.out, rfl⟩)
      refine ⟨.tuple #[.int .i64 0, .int .i64 4], ?_, by rw [e1], hBf.out.trans (belowK_b (w := w) (Nat.le_refl _) _ D _ _ (by omega) hK'.out rfl rfl)⟩
      simp [results, Try.f18, go_sem, d0, d1]
    case stop =>
      rintro D co pre W hD ⟨k, hk, rfl⟩ ⟨⟨rfl, ini, last, e1, e2, e3, b0, b1⟩, hB⟩ hK
      simp at hD
      obtain ⟨k', rfl⟩ : ∃ k', k = k' + 1 := by
        cases k with
        | zero => simp [downTo] at e1
        | succ k' => exact ⟨k', rfl⟩
      rw [downTo_succ] at e1
      obtain ⟨rfl, e5⟩ := List.append_inj' e1 rfl
      obtain rfl : n - 1 - k' = last := by simpa using e5
      have hyes : ocF xs n = some (xs ((n - 1 - k') * 3 + 2)) := by
        rw [ocF_skip (k := n - 1 - k' + 1) n (by omega) (fun j h1 h2 => e2 j (by simp only [downTo, List.mem_map, List.mem_range]; exact ⟨n - 1 - j, by omega, by omega⟩))]
        rw [ocF, if_pos e3]
      have e4 : ocV n xs = (xs ((n - 1 - k') * 3 + 2), 0) := by simp [ocV, hh, hyes]
      gi_wp2
      refine ⟨by simp, .inl ⟨_, _, rfl, run_takeDeferred hK, ?_⟩⟩
      have d0 := cell_kept (b0.cell 0) (grownBy_putObj' _ D (.deferred none)) (fun r e => by cases e; exact ⟨_, hK, rfl⟩)
      have d1 := cell_kept (b1.cell 0) (grownBy_putObj' _ D (.deferred none)) (fun r e => by cases e; exact ⟨_, hK, rfl⟩)
      refine ⟨.tuple #[.int .i64 (xs ((n - 1 - k') * 3 + 2)), .int .i64 0], ?_, by first | rfl | rw [e4], hB.trans (belowK_b (w := w) (Nat.le_refl _) _ D _ _ (by omega) hK rfl rfl)⟩
      simp [results, Try.f18, go_sem, d0, d1]

set_option maxHeartbeats 4000000 in
theorem sOutcomeOf_any (A : Option Addr) (n c B : Nat) (xs : Nat → Int) (w : World) (hx : Ints w B A (n * 3) xs) (hB : B ≤ w.heap.size) (hn : n ≤ 1048576) :
    Calls Try.prog 17 #[.slice A n c] w fun e w' => e = .returned (.tuple #[.int .i64 (ocV n xs).1, .int .i64 (ocV n xs).2]) ∧ Below w.heap.size w w' := by
  replace hx := Lib.hid hx
  cases hh : hisB n xs with
  | false =>
    have e1 : ocV n xs = (0, 1) := by simp [ocV, hh]
    rw [e1]
    clear e1
    replace hh := Lib.hid hh
    go_enter Try.func17, Try.ntmps17
    go_wp2_with fail
    refine (sIsHistory_v _ _ _ _ _ _ false hh hx.out hB (by omega)).mono ?_
    rintro e w1 ⟨rfl, hb1⟩
    go_wp2
    go_ret2
    exact ⟨rfl, hb1⟩
  | true =>
    have e1 : ocV n xs = (match ocF xs n with | some r => (r, 0) | none => (0, 4)) := by simp [ocV, hh]
    generalize ocV n xs = V at e1 ⊢
    replace hh := Lib.hid hh
    replace e1 := Lib.hid e1
    go_enter Try.func17, Try.ntmps17
    go_wp2_with fail
    refine (sIsHistory_v _ _ _ _ _ _ true hh hx.out hB (by omega)).mono ?_
    rintro e w1 ⟨rfl, hb1⟩
    have hx1 := Lib.hid (hx.out.below (hb1.mono hB))
    have hz1 := hb1.size
    go_wp2_with fail
    go_loopw [4] (fun v wr => ∃ (k : Nat) (p : Int), k ≤ n ∧ v = .int .i64 p ∧ p + 1 = k ∧ Hid (ocF xs n = ocF xs k) ∧ Below w.heap.size w wr) (fun v _ => (intOf v + 1).toNat)
    case atStart => exact ⟨n, (n : Int) - 1, Nat.le_refl _, by go_num, by omega, Lib.hid rfl, hb1⟩
    case round =>
      obtain ⟨k, p, hk, rfl, hp, hoc, hbel⟩ := hrel
      clear hb1 hx1
      have hsz := hbel.size
      rcases Nat.eq_zero_or_pos k with h0 | h0
      · subst h0
        obtain rfl : p = -1 := by omega
        have hV : V = (0, 4) := by rw [e1.out, hoc.out]; rfl
        subst hV
        go_wp2
        go_ret2
        exact ⟨rfl, hbel⟩
      · obtain ⟨q, rfl⟩ : ∃ q, k = q + 1 := ⟨k - 1, by omega⟩
        obtain rfl : p = q := by omega
        obtain ⟨b, o, rfl, hadB, hcode⟩ := hx.out (by omega)
        have g1 : wr.cell? ⟨b, o + q * 3 + 1, none⟩ = some (.int .i64 (xs (q * 3 + 1))) := by rw [hbel.cell (by simp; omega)]; exact hcode (q * 3 + 1) (by omega)
        have g2 : wr.cell? ⟨b, o + q * 3 + 2, none⟩ = some (.int .i64 (xs (q * 3 + 2))) := by rw [hbel.cell (by simp; omega)]; exact hcode (q * 3 + 2) (by omega)
        have hbl : b < wr.heap.size := by omega
        have hqn : q < n := by omega
        have hst : ocF xs (q + 1) = if ((xs (q * 3 + 1) == 1) || (xs (q * 3 + 1) == 3)) = true then some (xs (q * 3 + 2)) else ocF xs q := rfl
        generalize xs (q * 3 + 1) = kd at g1 hst
        generalize xs (q * 3 + 2) = ov at g2 hst
        replace hst := Lib.hid hst
        clear hcode
        by_cases k1 : kd = 1
        · subst k1
          have hV : V = (ov, 0) := by rw [e1.out, hoc.out, hst.out]; rfl
          subst hV
          go_wp2
          go_ret2
          exact ⟨rfl, hbel⟩
        · by_cases k3 : kd = 3
          · subst k3
            have hV : V = (ov, 0) := by rw [e1.out, hoc.out, hst.out]; rfl
            subst hV
            go_wp2
            go_ret2
            exact ⟨rfl, hbel⟩
          · have n1 : (kd == 1) = false := by rw [beq_eq_false_iff_ne]; exact k1
            have n3 : (kd == 3) = false := by rw [beq_eq_false_iff_ne]; exact k3
            have hoc2 : Hid (ocF xs n = ocF xs q) := Lib.hid (by rw [hoc.out, hst.out, n1, n3]; rfl)
            clear hoc hst
            go_wp2
            go_roundw
            case rel => exact ⟨q, (q : Int) - 1, by omega, by go_num, by omega, hoc2, hbel⟩
            case measure => simp [intOf]; try omega
end Go.Proofs.Yteacjoemlobmoaa
