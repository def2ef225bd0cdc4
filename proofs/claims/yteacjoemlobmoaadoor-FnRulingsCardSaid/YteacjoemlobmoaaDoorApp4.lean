/- RulingsAfter: the program's and the reference's. -/
import Derived.Test.YteacjoemlobmoaaDoorApp3
import Derived.Test.YteacjoemlobmoaaDoorMInt64
set_option linter.unusedSimpArgs false
set_option linter.unusedVariables false
namespace Go.Proofs.YteacjoemlobmoaaDoor
open Go.RowKit

theorem own_base {w : World} {base b : Nat} {e : TypeId} {size : Nat} {v : Value} {n : Nat} {xs : List Value} (h : w.ownsRow base e size v n xs) (hb : b ≤ base) : w.ownsRow b e size v n xs :=
  ⟨h.1, h.2.imp id fun ⟨g, cap, cur, a, c, d⟩ => ⟨g, cap, cur, a, Nat.le_trans hb c, d⟩⟩
/-- The kinds from 1 to m that are possible in a state at a time. -/
def mayTo (s : St) (t : Int) : Nat → List Int
  | 0 => []
  | m + 1 => if mayB s.1 s.2.1 s.2.2.1 s.2.2.2.1 s.2.2.2.2 ((m : Int) + 1) t = true then mayTo s t m ++ [(m : Int) + 1] else mayTo s t m
theorem mayTo_len (s : St) (t : Int) (m : Nat) : (mayTo s t m).length ≤ m := by
  induction m with
  | zero => simp [mayTo]
  | succ m ih => unfold mayTo; split <;> (try simp) <;> omega
def laterR (n : Nat) (xs : Nat → Int) (t : Int) : Bool := inB t 0 1000000000 && (decide (n = 0) || decide (xs ((n - 1) * 3) ≤ t))
def rulL (n : Nat) (xs : Nat → Int) (t : Int) : List Int := if hisB n xs = true then (if laterR n xs t = true then (if n < 20 then mayTo (runS xs n).1 t 5 else []) else []) else []
def rulC (n : Nat) (xs : Nat → Int) (t : Int) : Int := if hisB n xs = true then (if laterR n xs t = true then 0 else 2) else 1
theorem hisB_le {n : Nat} {xs : Nat → Int} (h : hisB n xs = true) : n ≤ 20 := by
  unfold hisB at h
  simp only [Bool.and_eq_true, decide_eq_true_eq] at h
  exact h.2

set_option maxHeartbeats 8000000 in
theorem rulingsAfter_any (A : Option Addr) (n c B : Nat) (xs : Nat → Int) (t : Int) (w : World) (hx : Ints w B A (n * 3) xs) (hB : B ≤ w.heap.size) (hn : n ≤ 9223372036854775807) :
    Calls Tryd.prog 15 #[.slice A n c, .int .i64 t] w fun e w' => Gave 2 1 (rulL n xs t).length w w' e (rulL n xs t) (rulC n xs t) := by
  have hin := run_in xs n
  have hle := fun h => hisB_le (n := n) (xs := xs) h
  unfold rulL rulC
  generalize hR : (runS xs n).1 = R at hin ⊢
  obtain ⟨d, a, c', p, q⟩ := R
  replace hR := Lib.hid hR
  dsimp only at hin
  replace hx := Lib.hid hx
  cases hv : hisB n xs with
  | false =>
    replace hv := Lib.hid hv
    rw [if_neg (by simp), if_neg (by simp)]
    go_enter Tryd.func15, Tryd.ntmps15
    go_wp2_with fail
    refine (runHistory_val _ _ _ _ _ _ false _ _ _ _ _ hv hR hx.out hB hn).mono ?_
    rintro e w' ⟨rfl, hb⟩
    go_wp2
    go_ret2
    exact gave_nil (hb.alloc hb.size _)
  | true =>
  have hn20 := hle hv
  replace hv := Lib.hid hv
  clear hle
  rw [if_pos rfl, if_pos rfl]
  cases h1 : inB t 0 1000000000 with
  | false =>
    have hl : laterR n xs t = false := by simp [laterR, h1]
    rw [hl, if_neg (by simp), if_neg (by simp)]
    go_enter Tryd.func15, Tryd.ntmps15
    go_wp2_with fail
    refine (runHistory_val _ _ _ _ _ _ true _ _ _ _ _ hv hR hx.out hB hn).mono ?_
    rintro e w' ⟨rfl, hb⟩
    go_wp2_with (go_at_call 31; refine (isTime_any _ _).mono ?_; rintro e w' ⟨rfl, rfl⟩)
    go_ret2
    exact gave_nil (hb.alloc hb.size _)
  | true =>
  have ht := inB_t h1
  obtain ⟨i0, hi, hz0', hz1', hz2'⟩ := info_parts infoInt64
  replace hi := Lib.hid hi
  replace hz0' := Lib.hid hz0'
  replace hz1' := Lib.hid hz1'
  replace hz2' := Lib.hid hz2'
  rcases Nat.eq_zero_or_pos n with h0 | h0
  · subst h0
    have hl : laterR 0 xs t = true := by simp [laterR, h1]
    rw [hl, if_pos rfl, if_pos rfl, if_pos (by omega)]
    have hd20 : decide (((0 : Nat) : Int) < 20) = true := by simp
    have h20 : (0 : Nat) < 20 := by omega
    go_enter Tryd.func15, Tryd.ntmps15
    go_wp2_with fail
    refine (runHistory_val _ _ _ _ _ _ true _ _ _ _ _ hv hR hx.out hB hn).mono ?_
    rintro e w' ⟨rfl, hb⟩
    go_wp2_with (go_at_call 31; refine (isTime_any _ _).mono ?_; rintro e w' ⟨rfl, rfl⟩)
    have hz := hb.size
    have hA0 : Below w.heap.size w (w'.alloc (.cells #[.bool d, .int .i64 a, .int .i64 c', .bool p, .bool q] 55)) := hb.alloc hb.size _
    have hA1 := hA0.alloc hA0.size (.cells #[] 2)
    have hS0 : Whole ((w'.alloc (.cells #[.bool d, .int .i64 a, .int .i64 c', .bool p, .bool q] 55)).alloc (.cells #[] 2)) w'.heap.size 55 #[.bool d, .int .i64 a, .int .i64 c', .bool p, .bool q] := (Whole.new w' 55 _).alloc _
    have hown0 : ((w'.alloc (.cells #[.bool d, .int .i64 a, .int .i64 c', .bool p, .bool q] 55)).alloc (.cells #[] 2)).ownsRow (w'.heap.size + 1) 2 1 (.slice (some ⟨w'.heap.size + 1, 0, none⟩) 0 0) (mayTo (d, a, c', p, q) t 0).length ((mayTo (d, a, c', p, q) t 0).map (Value.int .i64)) := by
      have hW := Whole.new (w'.alloc (.cells #[.bool d, .int .i64 a, .int .i64 c', .bool p, .bool q] 55)) 2 #[]
      simp only [World.size_alloc] at hW
      exact own_empty hW (Nat.le_refl _)
    go_loopw [8, 9] (fun v8 v9 wr => ∃ m : Nat, m ≤ 5 ∧ v9 = .int .i64 ((m : Int) + 1) ∧ wr.ownsRow (w'.heap.size + 1) 2 1 v8 (mayTo (d, a, c', p, q) t m).length ((mayTo (d, a, c', p, q) t m).map (Value.int .i64)) ∧ Whole wr w'.heap.size 55 #[.bool d, .int .i64 a, .int .i64 c', .bool p, .bool q] ∧ Below w.heap.size w wr) (fun v8 v9 _ => (6 - intOf v9).toNat)
    case atStart => exact ⟨0, by omega, by simp, hown0, hS0, hA1⟩
    case round =>
      obtain ⟨m, hm, rfl, hown, hS, hbel⟩ := hrel
      clear hown0 hA0 hA1 hS0
      have hlen := mayTo_len (d, a, c', p, q) t m
      have hsz := hS.lt
      by_cases hm5 : m < 5
      · have hstp : mayTo (d, a, c', p, q) t (m + 1) = if mayB d a c' p q ((m : Int) + 1) t = true then mayTo (d, a, c', p, q) t m ++ [(m : Int) + 1] else mayTo (d, a, c', p, q) t m := rfl
        generalize mayTo (d, a, c', p, q) t m = L at hown hstp hlen
        obtain ⟨A', c'', rfl, hnc, hcm⟩ := own_form hown
        have hcall := fun W => may_any (d, a, c', p, q) ((m : Int) + 1) t W ht.1 ht.2 hin.1 hin.2.1 hin.2.2.1 hin.2.2.2
        dsimp only [cellsP] at hcall
        generalize mayB d a c' p q ((m : Int) + 1) t = vb at hstp hcall
        replace hcall := Lib.hid hcall
        replace hstp := Lib.hid hstp
        have y0 := hS.cell 0
        have y1 := hS.cell 1
        have y2 := hS.cell 2
        have y3 := hS.cell 3
        have y4 := hS.cell 4
        simp at y0 y1 y2 y3 y4
        cases vb with
        | false =>
          go_wp2_with fail
          refine (hcall.out _).mono ?_
          rintro e w2 ⟨rfl, hb2⟩
          have hz2 := hb2.size
          have hb' : Below w.heap.size w w2 := hbel.trans (hb2.mono hbel.size)
          have hown2 := own_below hown hb2
          have hS2 := hS.below hb2 hS.lt
          clear y0 y1 y2 y3 y4
          go_wp2
          go_roundw
          case rel =>
            refine ⟨m + 1, by omega, by go_num, ?_, hS2, hb'⟩
            rw [show mayTo (d, a, c', p, q) t (m + 1) = L by simpa using hstp.out]
            exact hown2
          case measure => simp [intOf]; omega
        | true =>
          go_wp2_with fail
          refine (hcall.out _).mono ?_
          rintro e w2 ⟨rfl, hb2⟩
          have hz2 := hb2.size
          have hb' : Below w.heap.size w w2 := hbel.trans (hb2.mono hbel.size)
          have hown2 := own_below hown hb2
          have hS2 := hS.below hb2 hS.lt
          clear y0 y1 y2 y3 y4
          go_wp2_with (at_builtin; refine wpList_append_own _ rfl _ _ 37 rfl (w'.heap.size + 1) 2 i0 _ 1 8 Tryd.underlying37 hi.out hz0'.out hz1'.out hz2'.out rfl (by decide) _ _ _ rfl (hown2.alloc _) ⟨w2.heap.size, 0, none⟩ 1 1 [.int .i64 ((m : Int) + 1)] rfl rfl ?c1 ?c2 ?c3 ?c4 ?c5 ?_)
          case c1 =>
            intro j u hu
            rw [add_zero_off, (Whole.new w2 2 #[.int .i64 ((m : Int) + 1)]).cell j]
            simpa using hu
          case c2 => simp [Value.oneCell']
          case c3 => simp only [maxLen]; omega
          case c4 => omega
          case c5 => simp; omega
          intro v' w3 hown3 hgrow _
          have hb3' := below_only hgrow (B := w.heap.size) (by simp; omega) (fun k hk => by have := (hown2.lt k hk).1; omega)
          have hb3 : Below w.heap.size w w3 := (hb'.alloc hb'.size _).trans hb3'
          have hown4 : w3.ownsRow (w'.heap.size + 1) 2 1 v' (mayTo (d, a, c', p, q) t (m + 1)).length ((mayTo (d, a, c', p, q) t (m + 1)).map (Value.int .i64)) := by
            rw [show mayTo (d, a, c', p, q) t (m + 1) = L ++ [(m : Int) + 1] by simpa using hstp.out]; simpa using hown3
          have hS3 := (hS2.alloc (.cells #[.int .i64 ((m : Int) + 1)] 2)).grown hgrow (fun e => by have := (hown2.lt _ e).1; omega)
          go_wp2
          go_roundw
          case rel => exact ⟨m + 1, by omega, by go_num, hown4, hS3, hb3⟩
          case measure => simp [intOf]; omega
      · obtain rfl : m = 5 := by omega
        obtain ⟨A', c'', rfl, hnc, hcm⟩ := own_form hown
        go_wp2
        go_ret2
        exact ⟨A', c'', rfl, by omega, own_base hown (by omega), hbel⟩
  · obtain ⟨m', rfl⟩ : ∃ m', n = m' + 1 := ⟨n - 1, by omega⟩
    obtain ⟨b, o, rfl, hadB, hcode⟩ := hx.out (by omega)
    have g0 : w.cell? ⟨b, o + m' * 3, none⟩ = some (.int .i64 (xs (m' * 3))) := hcode (m' * 3) (by omega)
    clear hcode
    have hwr : IntKind.i64.wrap (m' : Int) = m' := IntWalk.i64_in _ (by omega)
    have hlv : laterR (m' + 1) xs t = decide (xs (m' * 3) ≤ t) := by simp [laterR, h1]
    rw [hlv]
    clear hlv
    generalize hf : xs (m' * 3) = f at g0 ⊢
    by_cases hlt : f ≤ t
    · have hd : decide (t < f) = false := by simpa using hlt
      rw [show decide (f ≤ t) = true by simpa using hlt, if_pos rfl, if_pos rfl]
      by_cases h20 : m' + 1 < 20
      · rw [if_pos h20]
        have hd20 : decide ((((m' + 1 : Nat)) : Int) < 20) = true := by simp; omega
        have hd21 : decide ((m' : Int) + 1 < 20) = true := by simp; omega
        go_enter Tryd.func15, Tryd.ntmps15
        go_wp2_with fail
        refine (runHistory_val _ _ _ _ _ _ true _ _ _ _ _ hv hR hx.out hB hn).mono ?_
        rintro e w' ⟨rfl, hb⟩
        have g1 : w'.cell? ⟨b, o + m' * 3, none⟩ = some (.int .i64 f) := (hb.cell (p := ⟨_, _, none⟩) (by simp; omega)).trans g0
        have hbl : b < w'.heap.size := by have := hb.size; omega
        go_wp2_with (go_at_call 31; refine (isTime_any _ _).mono ?_; rintro e w' ⟨rfl, rfl⟩)
        have hz := hb.size
        have hA0 : Below w.heap.size w (w'.alloc (.cells #[.bool d, .int .i64 a, .int .i64 c', .bool p, .bool q] 55)) := hb.alloc hb.size _
        have hA1 := hA0.alloc hA0.size (.cells #[] 2)
        have hS0 : Whole ((w'.alloc (.cells #[.bool d, .int .i64 a, .int .i64 c', .bool p, .bool q] 55)).alloc (.cells #[] 2)) w'.heap.size 55 #[.bool d, .int .i64 a, .int .i64 c', .bool p, .bool q] := (Whole.new w' 55 _).alloc _
        have hown0 : ((w'.alloc (.cells #[.bool d, .int .i64 a, .int .i64 c', .bool p, .bool q] 55)).alloc (.cells #[] 2)).ownsRow (w'.heap.size + 1) 2 1 (.slice (some ⟨w'.heap.size + 1, 0, none⟩) 0 0) (mayTo (d, a, c', p, q) t 0).length ((mayTo (d, a, c', p, q) t 0).map (Value.int .i64)) := by
          have hW := Whole.new (w'.alloc (.cells #[.bool d, .int .i64 a, .int .i64 c', .bool p, .bool q] 55)) 2 #[]
          simp only [World.size_alloc] at hW
          exact own_empty hW (Nat.le_refl _)
        go_loopw [8, 9] (fun v8 v9 wr => ∃ m : Nat, m ≤ 5 ∧ v9 = .int .i64 ((m : Int) + 1) ∧ wr.ownsRow (w'.heap.size + 1) 2 1 v8 (mayTo (d, a, c', p, q) t m).length ((mayTo (d, a, c', p, q) t m).map (Value.int .i64)) ∧ Whole wr w'.heap.size 55 #[.bool d, .int .i64 a, .int .i64 c', .bool p, .bool q] ∧ Below w.heap.size w wr) (fun v8 v9 _ => (6 - intOf v9).toNat)
        case atStart => exact ⟨0, by omega, by simp, hown0, hS0, hA1⟩
        case round =>
          obtain ⟨m, hm, rfl, hown, hS, hbel⟩ := hrel
          clear hown0 hA0 hA1 hS0
          have hlen := mayTo_len (d, a, c', p, q) t m
          have hsz := hS.lt
          by_cases hm5 : m < 5
          · have hstp : mayTo (d, a, c', p, q) t (m + 1) = if mayB d a c' p q ((m : Int) + 1) t = true then mayTo (d, a, c', p, q) t m ++ [(m : Int) + 1] else mayTo (d, a, c', p, q) t m := rfl
            generalize mayTo (d, a, c', p, q) t m = L at hown hstp hlen
            obtain ⟨A', c'', rfl, hnc, hcm⟩ := own_form hown
            have hcall := fun W => may_any (d, a, c', p, q) ((m : Int) + 1) t W ht.1 ht.2 hin.1 hin.2.1 hin.2.2.1 hin.2.2.2
            dsimp only [cellsP] at hcall
            generalize mayB d a c' p q ((m : Int) + 1) t = vb at hstp hcall
            replace hcall := Lib.hid hcall
            replace hstp := Lib.hid hstp
            have y0 := hS.cell 0
            have y1 := hS.cell 1
            have y2 := hS.cell 2
            have y3 := hS.cell 3
            have y4 := hS.cell 4
            simp at y0 y1 y2 y3 y4
            cases vb with
            | false =>
              go_wp2_with fail
              refine (hcall.out _).mono ?_
              rintro e w2 ⟨rfl, hb2⟩
              have hz2 := hb2.size
              have hb' : Below w.heap.size w w2 := hbel.trans (hb2.mono hbel.size)
              have hown2 := own_below hown hb2
              have hS2 := hS.below hb2 hS.lt
              clear y0 y1 y2 y3 y4
              go_wp2
              go_roundw
              case rel =>
                refine ⟨m + 1, by omega, by go_num, ?_, hS2, hb'⟩
                rw [show mayTo (d, a, c', p, q) t (m + 1) = L by simpa using hstp.out]
                exact hown2
              case measure => simp [intOf]; omega
            | true =>
              go_wp2_with fail
              refine (hcall.out _).mono ?_
              rintro e w2 ⟨rfl, hb2⟩
              have hz2 := hb2.size
              have hb' : Below w.heap.size w w2 := hbel.trans (hb2.mono hbel.size)
              have hown2 := own_below hown hb2
              have hS2 := hS.below hb2 hS.lt
              clear y0 y1 y2 y3 y4
              go_wp2_with (at_builtin; refine wpList_append_own _ rfl _ _ 37 rfl (w'.heap.size + 1) 2 i0 _ 1 8 Tryd.underlying37 hi.out hz0'.out hz1'.out hz2'.out rfl (by decide) _ _ _ rfl (hown2.alloc _) ⟨w2.heap.size, 0, none⟩ 1 1 [.int .i64 ((m : Int) + 1)] rfl rfl ?c1 ?c2 ?c3 ?c4 ?c5 ?_)
              case c1 =>
                intro j u hu
                rw [add_zero_off, (Whole.new w2 2 #[.int .i64 ((m : Int) + 1)]).cell j]
                simpa using hu
              case c2 => simp [Value.oneCell']
              case c3 => simp only [maxLen]; omega
              case c4 => omega
              case c5 => simp; omega
              intro v' w3 hown3 hgrow _
              have hb3' := below_only hgrow (B := w.heap.size) (by simp; omega) (fun k hk => by have := (hown2.lt k hk).1; omega)
              have hb3 : Below w.heap.size w w3 := (hb'.alloc hb'.size _).trans hb3'
              have hown4 : w3.ownsRow (w'.heap.size + 1) 2 1 v' (mayTo (d, a, c', p, q) t (m + 1)).length ((mayTo (d, a, c', p, q) t (m + 1)).map (Value.int .i64)) := by
                rw [show mayTo (d, a, c', p, q) t (m + 1) = L ++ [(m : Int) + 1] by simpa using hstp.out]; simpa using hown3
              have hS3 := (hS2.alloc (.cells #[.int .i64 ((m : Int) + 1)] 2)).grown hgrow (fun e => by have := (hown2.lt _ e).1; omega)
              go_wp2
              go_roundw
              case rel => exact ⟨m + 1, by omega, by go_num, hown4, hS3, hb3⟩
              case measure => simp [intOf]; omega
          · obtain rfl : m = 5 := by omega
            obtain ⟨A', c'', rfl, hnc, hcm⟩ := own_form hown
            go_wp2
            go_ret2
            exact ⟨A', c'', rfl, by omega, own_base hown (by omega), hbel⟩
      · rw [if_neg h20]
        have hd20 : decide ((((m' + 1 : Nat)) : Int) < 20) = false := by simp; omega
        have hd21 : decide ((m' : Int) + 1 < 20) = false := by simp; omega
        go_enter Tryd.func15, Tryd.ntmps15
        go_wp2_with fail
        refine (runHistory_val _ _ _ _ _ _ true _ _ _ _ _ hv hR hx.out hB hn).mono ?_
        rintro e w' ⟨rfl, hb⟩
        have g1 : w'.cell? ⟨b, o + m' * 3, none⟩ = some (.int .i64 f) := (hb.cell (p := ⟨_, _, none⟩) (by simp; omega)).trans g0
        have hbl : b < w'.heap.size := by have := hb.size; omega
        go_wp2_with (go_at_call 31; refine (isTime_any _ _).mono ?_; rintro e w' ⟨rfl, rfl⟩)
        go_loopw [8, 9] (fun v8 v9 wr => v9 = .int .i64 1 ∧ wr = (w'.alloc (.cells #[.bool d, .int .i64 a, .int .i64 c', .bool p, .bool q] 55)).alloc (.cells #[] 2) ∧ v8 = .slice (some ⟨w'.heap.size + 1, 0, none⟩) 0 0) (fun _ _ _ => 0)
        case atStart => exact ⟨rfl, rfl, rfl⟩
        case round =>
          obtain ⟨rfl, rfl, rfl⟩ := hrel
          go_wp2
          go_ret2
          refine ⟨_, _, rfl, by omega, own_base (base := w'.heap.size + 1) ?_ (by have := hb.size; omega), (hb.alloc hb.size _).alloc (by have := hb.size; simp; omega) _⟩
          have hW := Whole.new (w'.alloc (.cells #[.bool d, .int .i64 a, .int .i64 c', .bool p, .bool q] 55)) 2 #[]
          simp only [World.size_alloc] at hW
          exact own_empty hW (Nat.le_refl _)
    · have hd : decide (t < f) = true := by simp; omega
      rw [show decide (f ≤ t) = false by simpa using hlt, if_neg (by simp), if_neg (by simp)]
      go_enter Tryd.func15, Tryd.ntmps15
      go_wp2_with fail
      refine (runHistory_val _ _ _ _ _ _ true _ _ _ _ _ hv hR hx.out hB hn).mono ?_
      rintro e w' ⟨rfl, hb⟩
      have g1 : w'.cell? ⟨b, o + m' * 3, none⟩ = some (.int .i64 f) := (hb.cell (p := ⟨_, _, none⟩) (by simp; omega)).trans g0
      have hbl : b < w'.heap.size := by have := hb.size; omega
      go_wp2_with (go_at_call 31; refine (isTime_any _ _).mono ?_; rintro e w' ⟨rfl, rfl⟩)
      go_ret2
      exact gave_nil (hb.alloc hb.size _)

set_option maxHeartbeats 8000000 in
theorem sRulingsAfter_any (A : Option Addr) (n c B : Nat) (xs : Nat → Int) (t : Int) (w : World) (hx : Ints w B A (n * 3) xs) (hB : B ≤ w.heap.size) (hn : n ≤ 9223372036854775807) :
    Calls Tryd.prog 16 #[.slice A n c, .int .i64 t] w fun e w' => Gave 2 1 (rulL n xs t).length w w' e (rulL n xs t) (rulC n xs t) := by
  have hin := run_in xs n
  have hle := fun h => hisB_le (n := n) (xs := xs) h
  unfold rulL rulC
  generalize hR : (runS xs n).1 = R at hin ⊢
  obtain ⟨d, a, c', p, q⟩ := R
  replace hR := Lib.hid hR
  dsimp only at hin
  replace hx := Lib.hid hx
  cases hv : hisB n xs with
  | false =>
    replace hv := Lib.hid hv
    rw [if_neg (by simp), if_neg (by simp)]
    go_enter Tryd.func16, Tryd.ntmps16
    go_wp2_with fail
    refine (l19Run_val _ _ _ _ _ _ false _ _ _ _ _ hv hR hx.out hB hn).mono ?_
    rintro e w' ⟨rfl, hb⟩
    go_wp2
    go_ret2
    exact gave_nil (hb.alloc hb.size _)
  | true =>
  have hn20 := hle hv
  replace hv := Lib.hid hv
  clear hle
  rw [if_pos rfl, if_pos rfl]
  cases h1 : inB t 0 1000000000 with
  | false =>
    have hl : laterR n xs t = false := by simp [laterR, h1]
    rw [hl, if_neg (by simp), if_neg (by simp)]
    go_enter Tryd.func16, Tryd.ntmps16
    go_wp2_with fail
    refine (l19Run_val _ _ _ _ _ _ true _ _ _ _ _ hv hR hx.out hB hn).mono ?_
    rintro e w' ⟨rfl, hb⟩
    go_wp2_with (go_at_call 33; refine (l01In_any _ _ _ _).mono ?_; rintro e w' ⟨rfl, rfl⟩)
    go_ret2
    exact gave_nil (hb.alloc hb.size _)
  | true =>
  have ht := inB_t h1
  obtain ⟨i0, hi, hz0', hz1', hz2'⟩ := info_parts infoInt64
  replace hi := Lib.hid hi
  replace hz0' := Lib.hid hz0'
  replace hz1' := Lib.hid hz1'
  replace hz2' := Lib.hid hz2'
  rcases Nat.eq_zero_or_pos n with h0 | h0
  · subst h0
    have hl : laterR 0 xs t = true := by simp [laterR, h1]
    rw [hl, if_pos rfl, if_pos rfl, if_pos (by omega)]
    have hd20 : decide (((0 : Nat) : Int) < 20) = true := by simp
    have h20 : (0 : Nat) < 20 := by omega
    go_enter Tryd.func16, Tryd.ntmps16
    go_wp2_with fail
    refine (l19Run_val _ _ _ _ _ _ true _ _ _ _ _ hv hR hx.out hB hn).mono ?_
    rintro e w' ⟨rfl, hb⟩
    go_wp2_with (go_at_call 33; refine (l01In_any _ _ _ _).mono ?_; rintro e w' ⟨rfl, rfl⟩)
    have hz := hb.size
    have hA0 : Below w.heap.size w (w'.alloc (.cells #[.bool (!d), .int .i64 a, .int .i64 c', .bool p, .bool q] 59)) := hb.alloc hb.size _
    have hA1 := hA0.alloc hA0.size (.cells #[] 2)
    have hS0 : Whole ((w'.alloc (.cells #[.bool (!d), .int .i64 a, .int .i64 c', .bool p, .bool q] 59)).alloc (.cells #[] 2)) w'.heap.size 59 #[.bool (!d), .int .i64 a, .int .i64 c', .bool p, .bool q] := (Whole.new w' 59 _).alloc _
    have hown0 : ((w'.alloc (.cells #[.bool (!d), .int .i64 a, .int .i64 c', .bool p, .bool q] 59)).alloc (.cells #[] 2)).ownsRow (w'.heap.size + 1) 2 1 (.slice (some ⟨w'.heap.size + 1, 0, none⟩) 0 0) (mayTo (d, a, c', p, q) t 0).length ((mayTo (d, a, c', p, q) t 0).map (Value.int .i64)) := by
      have hW := Whole.new (w'.alloc (.cells #[.bool (!d), .int .i64 a, .int .i64 c', .bool p, .bool q] 59)) 2 #[]
      simp only [World.size_alloc] at hW
      exact own_empty hW (Nat.le_refl _)
    go_loopw [8, 9] (fun v8 v9 wr => ∃ m : Nat, m ≤ 5 ∧ v9 = .int .i64 ((m : Int) + 1) ∧ wr.ownsRow (w'.heap.size + 1) 2 1 v8 (mayTo (d, a, c', p, q) t m).length ((mayTo (d, a, c', p, q) t m).map (Value.int .i64)) ∧ Whole wr w'.heap.size 59 #[.bool (!d), .int .i64 a, .int .i64 c', .bool p, .bool q] ∧ Below w.heap.size w wr) (fun v8 v9 _ => (6 - intOf v9).toNat)
    case atStart => exact ⟨0, by omega, by simp, hown0, hS0, hA1⟩
    case round =>
      obtain ⟨m, hm, rfl, hown, hS, hbel⟩ := hrel
      clear hown0 hA0 hA1 hS0
      have hlen := mayTo_len (d, a, c', p, q) t m
      have hsz := hS.lt
      by_cases hm5 : m < 5
      · have hstp : mayTo (d, a, c', p, q) t (m + 1) = if mayB d a c' p q ((m : Int) + 1) t = true then mayTo (d, a, c', p, q) t m ++ [(m : Int) + 1] else mayTo (d, a, c', p, q) t m := rfl
        generalize mayTo (d, a, c', p, q) t m = L at hown hstp hlen
        obtain ⟨A', c'', rfl, hnc, hcm⟩ := own_form hown
        have hcall := fun W => poss_any (d, a, c', p, q) ((m : Int) + 1) t W ht.1 ht.2 hin.1 hin.2.1 hin.2.2.1 hin.2.2.2
        dsimp only [cellsR] at hcall
        generalize mayB d a c' p q ((m : Int) + 1) t = vb at hstp hcall
        replace hcall := Lib.hid hcall
        replace hstp := Lib.hid hstp
        have y0 := hS.cell 0
        have y1 := hS.cell 1
        have y2 := hS.cell 2
        have y3 := hS.cell 3
        have y4 := hS.cell 4
        simp at y0 y1 y2 y3 y4
        cases vb with
        | false =>
          go_wp2_with fail
          refine (hcall.out _).mono ?_
          rintro e w2 ⟨rfl, hb2⟩
          have hz2 := hb2.size
          have hb' : Below w.heap.size w w2 := hbel.trans (hb2.mono hbel.size)
          have hown2 := own_below hown hb2
          have hS2 := hS.below hb2 hS.lt
          clear y0 y1 y2 y3 y4
          go_wp2
          go_roundw
          case rel =>
            refine ⟨m + 1, by omega, by go_num, ?_, hS2, hb'⟩
            rw [show mayTo (d, a, c', p, q) t (m + 1) = L by simpa using hstp.out]
            exact hown2
          case measure => simp [intOf]; omega
        | true =>
          go_wp2_with fail
          refine (hcall.out _).mono ?_
          rintro e w2 ⟨rfl, hb2⟩
          have hz2 := hb2.size
          have hb' : Below w.heap.size w w2 := hbel.trans (hb2.mono hbel.size)
          have hown2 := own_below hown hb2
          have hS2 := hS.below hb2 hS.lt
          clear y0 y1 y2 y3 y4
          go_wp2_with (at_builtin; refine wpList_append_own _ rfl _ _ 37 rfl (w'.heap.size + 1) 2 i0 _ 1 8 Tryd.underlying37 hi.out hz0'.out hz1'.out hz2'.out rfl (by decide) _ _ _ rfl (hown2.alloc _) ⟨w2.heap.size, 0, none⟩ 1 1 [.int .i64 ((m : Int) + 1)] rfl rfl ?c1 ?c2 ?c3 ?c4 ?c5 ?_)
          case c1 =>
            intro j u hu
            rw [add_zero_off, (Whole.new w2 2 #[.int .i64 ((m : Int) + 1)]).cell j]
            simpa using hu
          case c2 => simp [Value.oneCell']
          case c3 => simp only [maxLen]; omega
          case c4 => omega
          case c5 => simp; omega
          intro v' w3 hown3 hgrow _
          have hb3' := below_only hgrow (B := w.heap.size) (by simp; omega) (fun k hk => by have := (hown2.lt k hk).1; omega)
          have hb3 : Below w.heap.size w w3 := (hb'.alloc hb'.size _).trans hb3'
          have hown4 : w3.ownsRow (w'.heap.size + 1) 2 1 v' (mayTo (d, a, c', p, q) t (m + 1)).length ((mayTo (d, a, c', p, q) t (m + 1)).map (Value.int .i64)) := by
            rw [show mayTo (d, a, c', p, q) t (m + 1) = L ++ [(m : Int) + 1] by simpa using hstp.out]; simpa using hown3
          have hS3 := (hS2.alloc (.cells #[.int .i64 ((m : Int) + 1)] 2)).grown hgrow (fun e => by have := (hown2.lt _ e).1; omega)
          go_wp2
          go_roundw
          case rel => exact ⟨m + 1, by omega, by go_num, hown4, hS3, hb3⟩
          case measure => simp [intOf]; omega
      · obtain rfl : m = 5 := by omega
        obtain ⟨A', c'', rfl, hnc, hcm⟩ := own_form hown
        go_wp2
        go_ret2
        exact ⟨A', c'', rfl, by omega, own_base hown (by omega), hbel⟩
  · obtain ⟨m', rfl⟩ : ∃ m', n = m' + 1 := ⟨n - 1, by omega⟩
    obtain ⟨b, o, rfl, hadB, hcode⟩ := hx.out (by omega)
    have g0 : w.cell? ⟨b, o + m' * 3, none⟩ = some (.int .i64 (xs (m' * 3))) := hcode (m' * 3) (by omega)
    clear hcode
    have hwr : IntKind.i64.wrap (m' : Int) = m' := IntWalk.i64_in _ (by omega)
    have hlv : laterR (m' + 1) xs t = decide (xs (m' * 3) ≤ t) := by simp [laterR, h1]
    rw [hlv]
    clear hlv
    generalize hf : xs (m' * 3) = f at g0 ⊢
    by_cases hlt : f ≤ t
    · have hd : decide (t < f) = false := by simpa using hlt
      rw [show decide (f ≤ t) = true by simpa using hlt, if_pos rfl, if_pos rfl]
      by_cases h20 : m' + 1 < 20
      · rw [if_pos h20]
        have hd20 : decide ((((m' + 1 : Nat)) : Int) < 20) = true := by simp; omega
        have hd21 : decide ((m' : Int) + 1 < 20) = true := by simp; omega
        go_enter Tryd.func16, Tryd.ntmps16
        go_wp2_with fail
        refine (l19Run_val _ _ _ _ _ _ true _ _ _ _ _ hv hR hx.out hB hn).mono ?_
        rintro e w' ⟨rfl, hb⟩
        have g1 : w'.cell? ⟨b, o + m' * 3, none⟩ = some (.int .i64 f) := (hb.cell (p := ⟨_, _, none⟩) (by simp; omega)).trans g0
        have hbl : b < w'.heap.size := by have := hb.size; omega
        go_wp2_with (go_at_call 33; refine (l01In_any _ _ _ _).mono ?_; rintro e w' ⟨rfl, rfl⟩)
        have hz := hb.size
        have hA0 : Below w.heap.size w (w'.alloc (.cells #[.bool (!d), .int .i64 a, .int .i64 c', .bool p, .bool q] 59)) := hb.alloc hb.size _
        have hA1 := hA0.alloc hA0.size (.cells #[] 2)
        have hS0 : Whole ((w'.alloc (.cells #[.bool (!d), .int .i64 a, .int .i64 c', .bool p, .bool q] 59)).alloc (.cells #[] 2)) w'.heap.size 59 #[.bool (!d), .int .i64 a, .int .i64 c', .bool p, .bool q] := (Whole.new w' 59 _).alloc _
        have hown0 : ((w'.alloc (.cells #[.bool (!d), .int .i64 a, .int .i64 c', .bool p, .bool q] 59)).alloc (.cells #[] 2)).ownsRow (w'.heap.size + 1) 2 1 (.slice (some ⟨w'.heap.size + 1, 0, none⟩) 0 0) (mayTo (d, a, c', p, q) t 0).length ((mayTo (d, a, c', p, q) t 0).map (Value.int .i64)) := by
          have hW := Whole.new (w'.alloc (.cells #[.bool (!d), .int .i64 a, .int .i64 c', .bool p, .bool q] 59)) 2 #[]
          simp only [World.size_alloc] at hW
          exact own_empty hW (Nat.le_refl _)
        go_loopw [8, 9] (fun v8 v9 wr => ∃ m : Nat, m ≤ 5 ∧ v9 = .int .i64 ((m : Int) + 1) ∧ wr.ownsRow (w'.heap.size + 1) 2 1 v8 (mayTo (d, a, c', p, q) t m).length ((mayTo (d, a, c', p, q) t m).map (Value.int .i64)) ∧ Whole wr w'.heap.size 59 #[.bool (!d), .int .i64 a, .int .i64 c', .bool p, .bool q] ∧ Below w.heap.size w wr) (fun v8 v9 _ => (6 - intOf v9).toNat)
        case atStart => exact ⟨0, by omega, by simp, hown0, hS0, hA1⟩
        case round =>
          obtain ⟨m, hm, rfl, hown, hS, hbel⟩ := hrel
          clear hown0 hA0 hA1 hS0
          have hlen := mayTo_len (d, a, c', p, q) t m
          have hsz := hS.lt
          by_cases hm5 : m < 5
          · have hstp : mayTo (d, a, c', p, q) t (m + 1) = if mayB d a c' p q ((m : Int) + 1) t = true then mayTo (d, a, c', p, q) t m ++ [(m : Int) + 1] else mayTo (d, a, c', p, q) t m := rfl
            generalize mayTo (d, a, c', p, q) t m = L at hown hstp hlen
            obtain ⟨A', c'', rfl, hnc, hcm⟩ := own_form hown
            have hcall := fun W => poss_any (d, a, c', p, q) ((m : Int) + 1) t W ht.1 ht.2 hin.1 hin.2.1 hin.2.2.1 hin.2.2.2
            dsimp only [cellsR] at hcall
            generalize mayB d a c' p q ((m : Int) + 1) t = vb at hstp hcall
            replace hcall := Lib.hid hcall
            replace hstp := Lib.hid hstp
            have y0 := hS.cell 0
            have y1 := hS.cell 1
            have y2 := hS.cell 2
            have y3 := hS.cell 3
            have y4 := hS.cell 4
            simp at y0 y1 y2 y3 y4
            cases vb with
            | false =>
              go_wp2_with fail
              refine (hcall.out _).mono ?_
              rintro e w2 ⟨rfl, hb2⟩
              have hz2 := hb2.size
              have hb' : Below w.heap.size w w2 := hbel.trans (hb2.mono hbel.size)
              have hown2 := own_below hown hb2
              have hS2 := hS.below hb2 hS.lt
              clear y0 y1 y2 y3 y4
              go_wp2
              go_roundw
              case rel =>
                refine ⟨m + 1, by omega, by go_num, ?_, hS2, hb'⟩
                rw [show mayTo (d, a, c', p, q) t (m + 1) = L by simpa using hstp.out]
                exact hown2
              case measure => simp [intOf]; omega
            | true =>
              go_wp2_with fail
              refine (hcall.out _).mono ?_
              rintro e w2 ⟨rfl, hb2⟩
              have hz2 := hb2.size
              have hb' : Below w.heap.size w w2 := hbel.trans (hb2.mono hbel.size)
              have hown2 := own_below hown hb2
              have hS2 := hS.below hb2 hS.lt
              clear y0 y1 y2 y3 y4
              go_wp2_with (at_builtin; refine wpList_append_own _ rfl _ _ 37 rfl (w'.heap.size + 1) 2 i0 _ 1 8 Tryd.underlying37 hi.out hz0'.out hz1'.out hz2'.out rfl (by decide) _ _ _ rfl (hown2.alloc _) ⟨w2.heap.size, 0, none⟩ 1 1 [.int .i64 ((m : Int) + 1)] rfl rfl ?c1 ?c2 ?c3 ?c4 ?c5 ?_)
              case c1 =>
                intro j u hu
                rw [add_zero_off, (Whole.new w2 2 #[.int .i64 ((m : Int) + 1)]).cell j]
                simpa using hu
              case c2 => simp [Value.oneCell']
              case c3 => simp only [maxLen]; omega
              case c4 => omega
              case c5 => simp; omega
              intro v' w3 hown3 hgrow _
              have hb3' := below_only hgrow (B := w.heap.size) (by simp; omega) (fun k hk => by have := (hown2.lt k hk).1; omega)
              have hb3 : Below w.heap.size w w3 := (hb'.alloc hb'.size _).trans hb3'
              have hown4 : w3.ownsRow (w'.heap.size + 1) 2 1 v' (mayTo (d, a, c', p, q) t (m + 1)).length ((mayTo (d, a, c', p, q) t (m + 1)).map (Value.int .i64)) := by
                rw [show mayTo (d, a, c', p, q) t (m + 1) = L ++ [(m : Int) + 1] by simpa using hstp.out]; simpa using hown3
              have hS3 := (hS2.alloc (.cells #[.int .i64 ((m : Int) + 1)] 2)).grown hgrow (fun e => by have := (hown2.lt _ e).1; omega)
              go_wp2
              go_roundw
              case rel => exact ⟨m + 1, by omega, by go_num, hown4, hS3, hb3⟩
              case measure => simp [intOf]; omega
          · obtain rfl : m = 5 := by omega
            obtain ⟨A', c'', rfl, hnc, hcm⟩ := own_form hown
            go_wp2
            go_ret2
            exact ⟨A', c'', rfl, by omega, own_base hown (by omega), hbel⟩
      · rw [if_neg h20]
        have hd20 : decide ((((m' + 1 : Nat)) : Int) < 20) = false := by simp; omega
        have hd21 : decide ((m' : Int) + 1 < 20) = false := by simp; omega
        go_enter Tryd.func16, Tryd.ntmps16
        go_wp2_with fail
        refine (l19Run_val _ _ _ _ _ _ true _ _ _ _ _ hv hR hx.out hB hn).mono ?_
        rintro e w' ⟨rfl, hb⟩
        have g1 : w'.cell? ⟨b, o + m' * 3, none⟩ = some (.int .i64 f) := (hb.cell (p := ⟨_, _, none⟩) (by simp; omega)).trans g0
        have hbl : b < w'.heap.size := by have := hb.size; omega
        go_wp2_with (go_at_call 33; refine (l01In_any _ _ _ _).mono ?_; rintro e w' ⟨rfl, rfl⟩)
        go_loopw [8, 9] (fun v8 v9 wr => v9 = .int .i64 1 ∧ wr = (w'.alloc (.cells #[.bool (!d), .int .i64 a, .int .i64 c', .bool p, .bool q] 59)).alloc (.cells #[] 2) ∧ v8 = .slice (some ⟨w'.heap.size + 1, 0, none⟩) 0 0) (fun _ _ _ => 0)
        case atStart => exact ⟨rfl, rfl, rfl⟩
        case round =>
          obtain ⟨rfl, rfl, rfl⟩ := hrel
          go_wp2
          go_ret2
          refine ⟨_, _, rfl, by omega, own_base (base := w'.heap.size + 1) ?_ (by have := hb.size; omega), (hb.alloc hb.size _).alloc (by have := hb.size; simp; omega) _⟩
          have hW := Whole.new (w'.alloc (.cells #[.bool (!d), .int .i64 a, .int .i64 c', .bool p, .bool q] 59)) 2 #[]
          simp only [World.size_alloc] at hW
          exact own_empty hW (Nat.le_refl _)
    · have hd : decide (t < f) = true := by simp; omega
      rw [show decide (f ≤ t) = false by simpa using hlt, if_neg (by simp), if_neg (by simp)]
      go_enter Tryd.func16, Tryd.ntmps16
      go_wp2_with fail
      refine (l19Run_val _ _ _ _ _ _ true _ _ _ _ _ hv hR hx.out hB hn).mono ?_
      rintro e w' ⟨rfl, hb⟩
      have g1 : w'.cell? ⟨b, o + m' * 3, none⟩ = some (.int .i64 f) := (hb.cell (p := ⟨_, _, none⟩) (by simp; omega)).trans g0
      have hbl : b < w'.heap.size := by have := hb.size; omega
      go_wp2_with (go_at_call 33; refine (l01In_any _ _ _ _).mono ?_; rintro e w' ⟨rfl, rfl⟩)
      go_ret2
      exact gave_nil (hb.alloc hb.size _)

theorem rulingsAfter_val (A : Option Addr) (n c B : Nat) (xs : Nat → Int) (t : Int) (w : World) (K : Nat) (L : List Int) (co : Int) (hL : Hid (rulL n xs t = L)) (hc : Hid (rulC n xs t = co)) (hK : Hid (L.length = K)) (hx : Ints w B A (n * 3) xs) (hB : B ≤ w.heap.size) (hn : n ≤ 9223372036854775807) :
    Calls Tryd.prog 15 #[.slice A n c, .int .i64 t] w fun e w' => Gave 2 1 K w w' e L co := by
  have h1 := hL.out
  have h2 := hc.out
  have h3 := hK.out
  clear hL hc hK
  subst h1; subst h2; subst h3
  exact rulingsAfter_any A n c B xs t w hx hB hn

theorem sRulingsAfter_val (A : Option Addr) (n c B : Nat) (xs : Nat → Int) (t : Int) (w : World) (K : Nat) (L : List Int) (co : Int) (hL : Hid (rulL n xs t = L)) (hc : Hid (rulC n xs t = co)) (hK : Hid (L.length = K)) (hx : Ints w B A (n * 3) xs) (hB : B ≤ w.heap.size) (hn : n ≤ 9223372036854775807) :
    Calls Tryd.prog 16 #[.slice A n c, .int .i64 t] w fun e w' => Gave 2 1 K w w' e L co := by
  have h1 := hL.out
  have h2 := hc.out
  have h3 := hK.out
  clear hL hc hK
  subst h1; subst h2; subst h3
  exact sRulingsAfter_any A n c B xs t w hx hB hn

end Go.Proofs.YteacjoemlobmoaaDoor
