/- The law FnExactDecisiveSpeakers: for every input the call returns true, and each argument reads afterwards as it read before. No condition. -/
import Derived.Test.YtcilgohjeobamaaMDem
import Derived.Test.YtcilgohjeobamaaSStatement
import Derived.Test.YtcilgohjeobamaaMInt64
import Derived.Test.YtcilgohjeobamaaArgsD
import Derived.Test.YtcilgohjeobamaaArgs
import Derived.Test.YtcilgohjeobamaaRows
import Derived.WalkKit
import Derived.ProofKit
import Derived.OpenShut
import Derived.Carry
import Derived.Lib.SmallJoins
namespace Go.Proofs.Ytcilgohjeobamaa.fnExactDecisiveSpeakers
open Go.ChangeShapes Go.WideShapes Go.ChangeAt Go.RowKit Go.Joins
set_option linter.unusedVariables false

theorem own : ownKnob Try.prog.godebug = none := by kernel_rfl
theorem laidOut : laidOutB Try.prog = true := by kernel_rfl

/-! The walk: the Go text returns true, and writes nothing that was there. -/
set_option maxHeartbeats 4000000 in
theorem walk (a0 : Int) (a1 : Int) (a2 : Option Addr) (len2 cap2 : Nat) (x2 : Nat → Int) (a3 : Option Addr) (len3 cap3 : Nat) (fa3 : Nat → Option Addr) (fl3 fc3 : Nat → Nat) (fx3 : Nat → Nat → Int) (o3 : Nat → Int) (w : World) (w0 : (Lit.int .i64 a0).wf = true) (w1 : (Lit.int .i64 a1).wf = true) (m2 : len2 ≤ maxLen) (w2 : Ints w w.heap.size a2 (len2 * 3) x2) (f2 : ∀ j, j < len2 * 3 → (Lit.int .i64 (x2 j)).wf = true) (m3 : len3 ≤ maxLen) (w3 : Dems w w.heap.size a3 len3 fa3 fl3 fc3 fx3 o3) :
    Calls Try.prog 10 #[.int .i64 a0, .int .i64 a1, .slice a2 len2 cap2, .slice a3 len3 cap3] w fun e w' => e = .returned (.bool true) ∧ Below w.heap.size w w' := by
  by_cases hbig2 : 1048576 < (len2 : Int)
  · have hneg : ¬ (0 : Int) ≤ -1 := by omega
    unfold maxLen at m2
    go_enter Try.func10, Try.ntmps10
    go_wp2_with (first | (go_at_call 23; refine (szStatementS_any _ _ _ _ _ (by omega) (by omega) (by first | (unfold maxLen at m2; omega) | omega)).mono ?_; rintro e w' ⟨rfl, rfl⟩))
    go_ret
    exact ⟨rfl, Below.refl _ _⟩
  have hn2 : len2 ≤ 1048576 := by omega
  have hlt2 : ¬ (1048576 : Int) < len2 := hbig2
  replace w2 := Lib.hid w2
  replace w3 := Lib.hid w3
  clear m2 f2
  go_enter Try.func10, Try.ntmps10
  go_wp2_with (first | (go_at_call 23; refine (szStatementS_any _ _ _ _ _ (by omega) (by omega) (by omega)).mono ?_; rintro e w' ⟨rfl, rfl⟩) | fail)
  refine (szDemandS_any _ _ _ _ _ _ _ _ _ _ _ w3.out (Nat.le_refl _) (by omega) (by omega) m3).mono ?_
  rintro e u1 ⟨r, rfl, hr, hb1⟩
  by_cases hr0 : r < 0
  · go_wp2
    go_ret
    exact ⟨rfl, hb1⟩
  obtain ⟨r0, r1, hn, hfl⟩ : 0 ≤ r ∧ r ≤ 1048576 ∧ len3 ≤ 1048576 ∧ ∀ i, i < len3 → fl3 i ≤ 1048576 := by
    rcases hr with h | h
    · omega
    · exact ⟨h.1, by omega, h.2.2⟩
  clear hr hr0
  have hrn : ¬ r < 0 := by omega
  obtain ⟨L, hL⟩ : ∃ z, disL a0 a1 len2 x2 len3 fl3 fx3 o3 = z := ⟨_, rfl⟩
  obtain ⟨co, hco⟩ : ∃ z, codD a0 a1 len2 x2 len3 fl3 fx3 o3 = z := ⟨_, rfl⟩
  obtain ⟨K, hK⟩ : ∃ z, L.length = z := ⟨_, rfl⟩
  replace hL := Lib.hid hL
  replace hco := Lib.hid hco
  replace hK := Lib.hid hK
  replace hfl := Lib.hid hfl
  have z1 := hb1.size
  have aD_1 := Lib.hid (w3.out.below hb1)
  have aS_1 := Lib.hid (w2.out.below hb1)
  clear w3 w2
  go_wp2_with fail
  refine (toStatementS_any _ _ _ _ _ (aS_1.out.more (by omega)) hn2).mono ?_
  rintro e u2 ⟨rfl, ⟨cs2, hW2, -, hc2⟩, hb2⟩
  have z2 := hb2.size
  have aD_2 := Lib.hid (aD_1.out.below (hb2.mono (by omega)))
  clear aD_1
  have aS_2 := Lib.hid (aS_1.out.below (hb2.mono (by omega)))
  clear aS_1
  have hl2 := hW2.lt
  have s_2 := Lib.hid (Row.of_whole hW2 hc2)
  clear hW2 hc2
  go_wp2_with fail
  refine (toDemandS_any _ _ _ _ _ _ _ _ _ (aD_2.out.more (by omega)) hn hfl.out).mono ?_
  rintro e u3 ⟨rfl, ⟨fb3, hC3⟩, hb3⟩
  have z3 := hb3.size
  have aD_3 := Lib.hid (aD_2.out.below (hb3.mono (by omega)))
  clear aD_2
  have aS_3 := Lib.hid (aS_2.out.below (hb3.mono (by omega)))
  clear aS_2
  have s_3 := Lib.hid (s_2.out.below hb3)
  clear s_2
  have d_3 := Lib.hid hC3
  clear hC3
  go_wp2_with fail
  refine (sDecisive_val _ _ _ _ _ _ _ _ _ _ _ _ _ _ _ _ u3 s_3.out.ints (Nat.le_refl _) (by omega) (d_3.out.dems hfl.out) (Nat.le_refl _) m3 K L co hL hco hK).mono ?_
  rintro e u4 ⟨A4, c4, rfl, gn4, ho4, hb4⟩
  have z4 := hb4.size
  have aD_4 := Lib.hid (aD_3.out.below (hb4.mono (by omega)))
  clear aD_3
  have aS_4 := Lib.hid (aS_3.out.below (hb4.mono (by omega)))
  clear aS_3
  have s_4 := Lib.hid (s_3.out.below hb4)
  clear s_3
  have d_4 := Lib.hid (d_3.out.below hb4)
  clear d_3
  obtain ⟨g4, gl4, gm4, rd_4⟩ := Row.of_own ho4 (Nat.mul_one _).symm
  replace rd_4 := Lib.hid rd_4
  clear ho4
  clear s_4
  clear d_4
  go_wp2_with fail
  refine (toStatementS_any _ _ _ _ _ (aS_4.out.more (by omega)) hn2).mono ?_
  rintro e u5 ⟨rfl, ⟨cs5, hW5, -, hc5⟩, hb5⟩
  have z5 := hb5.size
  have aD_5 := Lib.hid (aD_4.out.below (hb5.mono (by omega)))
  clear aD_4
  have aS_5 := Lib.hid (aS_4.out.below (hb5.mono (by omega)))
  clear aS_4
  have rd_5 := Lib.hid (rd_4.out.below hb5)
  clear rd_4
  have hl5 := hW5.lt
  have x2_5 := Lib.hid (Row.of_whole hW5 hc5)
  clear hW5 hc5
  go_wp2_with fail
  refine (toDemandS_any _ _ _ _ _ _ _ _ _ (aD_5.out.more (by omega)) hn hfl.out).mono ?_
  rintro e u6 ⟨rfl, ⟨fb6, hC6⟩, hb6⟩
  have z6 := hb6.size
  have aD_6 := Lib.hid (aD_5.out.below (hb6.mono (by omega)))
  clear aD_5
  have aS_6 := Lib.hid (aS_5.out.below (hb6.mono (by omega)))
  clear aS_5
  have rd_6 := Lib.hid (rd_5.out.below hb6)
  clear rd_5
  have x2_6 := Lib.hid (x2_5.out.below hb6)
  clear x2_5
  have hfbi : Hid (∀ i, i < len3 → fb6 i < u6.heap.size) := Lib.hid (fun i hi => (hC6.2 i hi).2.1.lt)
  have hglt : u5.heap.size < u6.heap.size := by obtain ⟨⟨cs, h, _⟩, _⟩ := hC6; exact h.lt
  have x3_6 := Lib.hid hC6
  clear hC6
  go_wp2_with fail
  refine (decisive_val _ _ _ _ _ _ _ _ _ _ _ _ _ _ _ _ u6 x2_6.out.ints (Nat.le_refl _) (by omega) (Nat.le_refl _) (x3_6.out.dems hfl.out) (Nat.le_refl _) m3 K L co hL hco hK).mono ?_
  rintro e u7 ⟨A7, c7, rfl, gn7, ho7, hb7⟩
  have z7 := hb7.size
  have aD_7 := Lib.hid (aD_6.out.below (hb7.mono (by omega)))
  clear aD_6
  have aS_7 := Lib.hid (aS_6.out.below (hb7.mono (by omega)))
  clear aS_6
  have rd_7 := Lib.hid (rd_6.out.below hb7)
  clear rd_6
  have x2_7 := Lib.hid (x2_6.out.below hb7)
  clear x2_6
  have x3_7 := Lib.hid (x3_6.out.below hb7)
  clear x3_6
  obtain ⟨g7, gl7, gm7, rg_7⟩ := Row.of_own ho7 (Nat.mul_one _).symm
  replace rg_7 := Lib.hid rg_7
  clear ho7
  go_wp2_with fail
  refine (eqInt64S_same _ _ _ _ _ _ _ _ rg_7.out.ints rd_7.out.ints (by omega)).mono ?_
  rintro e u8 ⟨rfl, hb8⟩
  have z8 := hb8.size
  have aD_8 := Lib.hid (aD_7.out.below (hb8.mono (by omega)))
  clear aD_7
  have aS_8 := Lib.hid (aS_7.out.below (hb8.mono (by omega)))
  clear aS_7
  have rd_8 := Lib.hid (rd_7.out.below hb8)
  clear rd_7
  have x2_8 := Lib.hid (x2_7.out.below hb8)
  clear x2_7
  have x3_8 := Lib.hid (x3_7.out.below hb8)
  clear x3_7
  have rg_8 := Lib.hid (rg_7.out.below hb8)
  clear rg_7
  go_wp2_with fail
  refine (toStatementS_any _ _ _ _ _ (aS_8.out.more (by omega)) hn2).mono ?_
  rintro e u9 ⟨rfl, ⟨cs9, hW9, -, hc9⟩, hb9⟩
  have z9 := hb9.size
  have aD_9 := Lib.hid (aD_8.out.below (hb9.mono (by omega)))
  clear aD_8
  have aS_9 := Lib.hid (aS_8.out.below (hb9.mono (by omega)))
  clear aS_8
  have rd_9 := Lib.hid (rd_8.out.below hb9)
  clear rd_8
  have x2_9 := Lib.hid (x2_8.out.below hb9)
  clear x2_8
  have x3_9 := Lib.hid (x3_8.out.below hb9)
  clear x3_8
  have rg_9 := Lib.hid (rg_8.out.below hb9)
  clear rg_8
  have hl9 := hW9.lt
  have y2_9 := Lib.hid (Row.of_whole hW9 hc9)
  clear hW9 hc9
  go_wp2_with fail
  refine (eqStatementS_same _ _ _ _ _ _ _ _ x2_9.out.ints y2_9.out.ints (Nat.le_refl _) (by omega)).mono ?_
  rintro e u10 ⟨rfl, hb10⟩
  have z10 := hb10.size
  have aD_10 := Lib.hid (aD_9.out.below (hb10.mono (by omega)))
  clear aD_9
  have aS_10 := Lib.hid (aS_9.out.below (hb10.mono (by omega)))
  clear aS_9
  have rd_10 := Lib.hid (rd_9.out.below hb10)
  clear rd_9
  have x2_10 := Lib.hid (x2_9.out.below hb10)
  clear x2_9
  have x3_10 := Lib.hid (x3_9.out.below hb10)
  clear x3_9
  have rg_10 := Lib.hid (rg_9.out.below hb10)
  clear rg_9
  have y2_10 := Lib.hid (y2_9.out.below hb10)
  clear y2_9
  clear y2_10
  go_wp2_with fail
  refine (toDemandS_any _ _ _ _ _ _ _ _ _ (aD_10.out.more (by omega)) hn hfl.out).mono ?_
  rintro e u11 ⟨rfl, ⟨fb11, hC11⟩, hb11⟩
  have z11 := hb11.size
  have aD_11 := Lib.hid (aD_10.out.below (hb11.mono (by omega)))
  clear aD_10
  have aS_11 := Lib.hid (aS_10.out.below (hb11.mono (by omega)))
  clear aS_10
  have rd_11 := Lib.hid (rd_10.out.below hb11)
  clear rd_10
  have x2_11 := Lib.hid (x2_10.out.below hb11)
  clear x2_10
  have x3_11 := Lib.hid (x3_10.out.below hb11)
  clear x3_10
  have rg_11 := Lib.hid (rg_10.out.below hb11)
  clear rg_10
  have y3_11 := Lib.hid hC11
  clear hC11
  go_wp2_with fail
  refine (eqDemandS_same _ _ _ _ _ _ _ _ _ _ _ _ _ _ (x3_11.out.dems hfl.out) (y3_11.out.dems hfl.out) (Nat.le_refl _) (by omega)).mono ?_
  rintro e u12 ⟨rfl, hb12⟩
  have z12 := hb12.size
  have aD_12 := Lib.hid (aD_11.out.below (hb12.mono (by omega)))
  clear aD_11
  have aS_12 := Lib.hid (aS_11.out.below (hb12.mono (by omega)))
  clear aS_11
  have rd_12 := Lib.hid (rd_11.out.below hb12)
  clear rd_11
  have x2_12 := Lib.hid (x2_11.out.below hb12)
  clear x2_11
  have x3_12 := Lib.hid (x3_11.out.below hb12)
  clear x3_11
  have rg_12 := Lib.hid (rg_11.out.below hb12)
  clear rg_11
  have y3_12 := Lib.hid (y3_11.out.below hb12)
  clear y3_11
  clear y3_12
  go_wp2_with fail
  refine (markStatementS_any _ _ _ _ _ _ _ x2_12.out (by omega) (by omega)).mono ?_
  rintro e u13 ⟨rfl, -, hb13⟩
  have z13 := hb13.size
  clear x2_12
  have aD_13 := Lib.hid (aD_12.out.below (below_only hb13 (by omega) (fun k e => by injection e with e; omega)))
  clear aD_12
  have aS_13 := Lib.hid (aS_12.out.below (below_only hb13 (by omega) (fun k e => by injection e with e; omega)))
  clear aS_12
  have rd_13 := Lib.hid (rd_12.out.grown2 hb13 (gm4.imp id (fun hm e => by injection e with e; omega)))
  clear rd_12
  have x3_13 := Lib.hid (x3_12.out.grown hb13 (by omega))
  clear x3_12
  have rg_13 := Lib.hid (rg_12.out.grown2 hb13 (gm7.imp id (fun hm e => by injection e with e; omega)))
  clear rg_12
  go_wp2_with fail
  refine (markDemandS_any u5.heap.size len3 u6.heap.size _ _ _ _ _ _ x3_13.out (by omega) hfbi.out hfl.out hn (by omega) (by omega)).mono ?_
  rintro e u14 ⟨rk, rfl, rk0, hb14⟩
  have z14 := hb14.1.size
  have hrk : ¬ rk < 0 := by omega
  have aD_14 := Lib.hid (aD_13.out.below (hb14.1.mono (by omega)))
  clear aD_13
  have aS_14 := Lib.hid (aS_13.out.below (hb14.1.mono (by omega)))
  clear aS_13
  have rd_14 := Lib.hid (hb14.row2 rd_13.out (gm4.imp id (fun hm => .inl (by omega))))
  clear rd_13
  have rg_14 := Lib.hid (hb14.row2 rg_13.out (.inr (.inr (by omega))))
  clear rg_13
  go_wp2_with fail
  refine (eqInt64S_same _ _ _ _ _ _ _ _ rg_14.out.ints rd_14.out.ints (by omega)).mono ?_
  rintro e u15 ⟨rfl, hb15⟩
  have z15 := hb15.size
  have aD_15 := Lib.hid (aD_14.out.below (hb15.mono (by omega)))
  clear aD_14
  have aS_15 := Lib.hid (aS_14.out.below (hb15.mono (by omega)))
  clear aS_14
  have rd_15 := Lib.hid (rd_14.out.below hb15)
  clear rd_14
  have rg_15 := Lib.hid (rg_14.out.below hb15)
  clear rg_14
  go_wp2_with fail
  refine (markInt64S_any _ _ _ _ _ _ _ rg_15.out (by omega) (by omega)).mono ?_
  rintro e u16 ⟨rfl, rgm, hb16⟩
  have z16 := hb16.size
  clear rg_15
  have aD_16 := Lib.hid (aD_15.out.below (below_only hb16 (by omega) (fun k e => by injection e with e; omega)))
  clear aD_15
  have aS_16 := Lib.hid (aS_15.out.below (below_only hb16 (by omega) (fun k e => by injection e with e; omega)))
  clear aS_15
  have rd_16 := Lib.hid (rd_15.out.grown2 hb16 (gm4.imp id (fun hm e => by injection e with e; omega)))
  clear rd_15
  have rg_16 := Lib.hid rgm
  clear rgm
  go_wp2_with fail
  refine (heldInt64S_any _ _ _ _ _ _ _ rg_16.out.ints (fun j _ => rfl) (by omega) (by omega)).mono ?_
  rintro e u17 ⟨rfl, hb17⟩
  have z17 := hb17.size
  have aD_17 := Lib.hid (aD_16.out.below (hb17.mono (by omega)))
  clear aD_16
  have aS_17 := Lib.hid (aS_16.out.below (hb17.mono (by omega)))
  clear aS_16
  have rd_17 := Lib.hid (rd_16.out.below hb17)
  clear rd_16
  have rg_17 := Lib.hid (rg_16.out.below hb17)
  clear rg_16
  go_wp2_with fail
  refine (toStatementS_any _ _ _ _ _ (aS_17.out.more (by omega)) hn2).mono ?_
  rintro e u18 ⟨rfl, ⟨cs18, hW18, -, hc18⟩, hb18⟩
  have z18 := hb18.size
  have aD_18 := Lib.hid (aD_17.out.below (hb18.mono (by omega)))
  clear aD_17
  have aS_18 := Lib.hid (aS_17.out.below (hb18.mono (by omega)))
  clear aS_17
  have rd_18 := Lib.hid (rd_17.out.below hb18)
  clear rd_17
  have rg_18 := Lib.hid (rg_17.out.below hb18)
  clear rg_17
  have hl18 := hW18.lt
  have t_18 := Lib.hid (Row.of_whole hW18 hc18)
  clear hW18 hc18
  go_wp2_with fail
  refine (toDemandS_any _ _ _ _ _ _ _ _ _ (aD_18.out.more (by omega)) hn hfl.out).mono ?_
  rintro e u19 ⟨rfl, ⟨fb19, hC19⟩, hb19⟩
  have z19 := hb19.size
  have aD_19 := Lib.hid (aD_18.out.below (hb19.mono (by omega)))
  clear aD_18
  have aS_19 := Lib.hid (aS_18.out.below (hb19.mono (by omega)))
  clear aS_18
  have rd_19 := Lib.hid (rd_18.out.below hb19)
  clear rd_18
  have rg_19 := Lib.hid (rg_18.out.below hb19)
  clear rg_18
  have t_19 := Lib.hid (t_18.out.below hb19)
  clear t_18
  have t3_19 := Lib.hid hC19
  clear hC19
  go_wp2_with fail
  refine (decisive_val _ _ _ _ _ _ _ _ _ _ _ _ _ _ _ _ u19 t_19.out.ints (Nat.le_refl _) (by omega) (Nat.le_refl _) (t3_19.out.dems hfl.out) (Nat.le_refl _) m3 K L co hL hco hK).mono ?_
  rintro e u20 ⟨A20, c20, rfl, gn20, ho20, hb20⟩
  have z20 := hb20.size
  have aD_20 := Lib.hid (aD_19.out.below (hb20.mono (by omega)))
  clear aD_19
  have aS_20 := Lib.hid (aS_19.out.below (hb20.mono (by omega)))
  clear aS_19
  have rd_20 := Lib.hid (rd_19.out.below hb20)
  clear rd_19
  have rg_20 := Lib.hid (rg_19.out.below hb20)
  clear rg_19
  have t_20 := Lib.hid (t_19.out.below hb20)
  clear t_19
  have t3_20 := Lib.hid (t3_19.out.below hb20)
  clear t3_19
  obtain ⟨g20, gl20, gm20, rh_20⟩ := Row.of_own ho20 (Nat.mul_one _).symm
  replace rh_20 := Lib.hid rh_20
  clear ho20
  clear t_20
  clear t3_20
  go_wp2_with fail
  refine (eqInt64S_same _ _ _ _ _ _ _ _ rh_20.out.ints rd_20.out.ints (by omega)).mono ?_
  rintro e u21 ⟨rfl, hb21⟩
  have z21 := hb21.size
  have aD_21 := Lib.hid (aD_20.out.below (hb21.mono (by omega)))
  clear aD_20
  have aS_21 := Lib.hid (aS_20.out.below (hb21.mono (by omega)))
  clear aS_20
  have rd_21 := Lib.hid (rd_20.out.below hb21)
  clear rd_20
  have rg_21 := Lib.hid (rg_20.out.below hb21)
  clear rg_20
  have rh_21 := Lib.hid (rh_20.out.below hb21)
  clear rh_20
  go_wp2_with fail
  refine (heldInt64S_any _ _ _ _ _ _ _ rg_21.out.ints (fun j _ => rfl) (by omega) (by omega)).mono ?_
  rintro e u22 ⟨rfl, hb22⟩
  have z22 := hb22.size
  have aD_22 := Lib.hid (aD_21.out.below (hb22.mono (by omega)))
  clear aD_21
  have aS_22 := Lib.hid (aS_21.out.below (hb22.mono (by omega)))
  clear aS_21
  have rd_22 := Lib.hid (rd_21.out.below hb22)
  clear rd_21
  have rg_22 := Lib.hid (rg_21.out.below hb22)
  clear rg_21
  have rh_22 := Lib.hid (rh_21.out.below hb22)
  clear rh_21
  clear aD_22
  clear aS_22
  clear rd_22
  clear rg_22
  clear rh_22
  have hbb : Below w.heap.size w u22 := (hb1.trans ((hb2.mono (by omega)).trans ((hb3.mono (by omega)).trans ((hb4.mono (by omega)).trans ((hb5.mono (by omega)).trans ((hb6.mono (by omega)).trans ((hb7.mono (by omega)).trans ((hb8.mono (by omega)).trans ((hb9.mono (by omega)).trans ((hb10.mono (by omega)).trans ((hb11.mono (by omega)).trans ((hb12.mono (by omega)).trans ((below_only hb13 (by omega) (fun k e => by injection e with e; omega)).trans ((hb14.1.mono (by omega)).trans ((hb15.mono (by omega)).trans ((below_only hb16 (by omega) (fun k e => by injection e with e; omega)).trans ((hb17.mono (by omega)).trans ((hb18.mono (by omega)).trans ((hb19.mono (by omega)).trans ((hb20.mono (by omega)).trans ((hb21.mono (by omega)).trans (hb22.mono (by omega)))))))))))))))))))))))
  clear hb1 hb2 hb3 hb4 hb5 hb6 hb7 hb8 hb9 hb10 hb11 hb12 hb13 hb14 hb15 hb16 hb17 hb18 hb19 hb20 hb21 hb22
  go_wp2
  go_ret
  exact ⟨rfl, hbb⟩

/-! ### THE ROW's STEP -/
set_option maxRecDepth 100000 in
theorem lifted (os : Os) (started : os.Started) (H : Type) (enc : TypeId × Value → H) :
    ReturnsInHanded {} Try.checked os 10 .any (Rows.fnExactDecisiveSpeakersSpec.pre6 enc Try.prog Try.f10 Rows.fnExactDecisiveSpeakersRow.domain false) (Rows.fnExactDecisiveSpeakersSpec.post enc Try.prog Try.f10 false true false false) := by
  refine returnsInHanded_of_change (C := Try.checked) own started (by kernel_rfl) Try.func10
    (ChangeSpec.witness6 (enc := enc) (C := Try.checked) false ⟨#[], #[.int .i64 0, .int .i64 0, .slice none 0 0, .slice none 0 0], []⟩ 8 (by kernel_rfl) (by kernel_rfl) (by kernel_rfl) (by kernel_rfl)) ?_
  intro W base args ds gs before hval0 hW hcnd _
  have hval : ∀ (j : Nat) t v, Try.f10.params[j]? = some t → args[j]? = some v → Value.okWide Try.prog W .any base t v := hval0
  have hW' := hW
  obtain ⟨p, q, hA0, hV, rfl, hfz, hnd⟩ := hW
  have hA : DataW.TrodAll enc Try.prog W 0 (fun _ => true) true Try.f10.params.toList args.toList ds p := hA0
  rw [Try.params10] at hA hval
  obtain ⟨v0, vs0, d0, ds0, p0, q0, hargs, rfl, rfl, h0, r0⟩ := trodAll_cons hA
  obtain ⟨v1, vs1, d1, ds1, p1, q1, rfl, rfl, rfl, h1, r1⟩ := trodAll_cons r0
  obtain ⟨v2, vs2, d2, ds2, p2, q2, rfl, rfl, rfl, h2, r2⟩ := trodAll_cons r1
  obtain ⟨v3, vs3, d3, ds3, p3, q3, rfl, rfl, rfl, h3, r3⟩ := trodAll_cons r2
  obtain ⟨rfl, rfl, rfl⟩ := trodAll_nil r3
  obtain rfl : args = #[v0, v1, v2, v3] := by cases args; simp_all
  obtain ⟨rfl, rfl⟩ := trodVars_none hV
  obtain ⟨a0, rfl, rfl, rfl, w0⟩ := open_int Try.underlying2 (hval 0 2 v0 rfl rfl) h0
  obtain ⟨a1, rfl, rfl, rfl, w1⟩ := open_int Try.underlying2 (hval 1 2 v1 rfl rfl) h1
  obtain ⟨a2, len2, cap2, rfl⟩ := okWide_slice Try.underlying42 (hval 2 42 v2 rfl rfl)
  have k2 := h2
  have lt2 : ∀ x ∈ p2, x.block < W.heap.size := by obtain ⟨m, hm⟩ := k2; exact DataW.trod_lt m _ _ _ hm
  obtain ⟨m2, x2, w2, f2⟩ : len2 ≤ maxLen ∧ ∃ xs : Nat → Int, Ints W W.heap.size a2 (len2 * 3) xs ∧ ∀ j, j < len2 * 3 → (Lit.int .i64 (xs j)).wf = true := by
    obtain ⟨fuel, hf⟩ := h2
    simp only [Value.cells] at hf
    exact ints_of_structs (K := 3) Try.underlying42 Try.underlying86 (by kernel_rfl) (by kernel_rfl) rfl (fun j f hf => by
      match j, hf with
      | 0, hf => (cases hf; exact Try.underlying2)
      | 1, hf => (cases hf; exact Try.underlying2)
      | 2, hf => (cases hf; exact Try.underlying2)
      | n + 3, hf => simp at hf) hf
  obtain ⟨a3, len3, cap3, rfl⟩ := okWide_slice Try.underlying22 (hval 3 22 v3 rfl rfl)
  have k3 := h3
  have lt3 : ∀ x ∈ p3, x.block < W.heap.size := by obtain ⟨m, hm⟩ := k3; exact DataW.trod_lt m _ _ _ hm
  obtain ⟨m3, fa3, fl3, fc3, fx3, o3, w3⟩ : len3 ≤ maxLen ∧ ∃ (fa : Nat → Option Addr) (fl fc : Nat → Nat) (fx : Nat → Nat → Int) (o : Nat → Int), Dems W W.heap.size a3 len3 fa fl fc fx o := by
    obtain ⟨fuel, hf⟩ := h3
    simp only [Value.cells] at hf
    exact dems_of Try.underlying22 Try.underlying70 rfl rfl rfl rfl rfl rfl (by kernel_rfl) (by kernel_rfl) (by kernel_rfl) Try.underlying31 Try.underlying2 (by kernel_rfl) Try.underlying2 hf
  clear hA0 hval0
  refine (walk a0 a1 a2 len2 cap2 x2 a3 len3 cap3 fa3 fl3 fc3 fx3 o3 W w0 w1 m2 w2 f2 m3 w3).mono fun e W' ⟨he, bel⟩ => ?_
  subst he
  exact ⟨_, rfl, _, _, _, [], _, [], hW', trodAll_mk1 (shut_bool Try.underlying4 _), (trodAll_cons_mk (shut_int Try.underlying2 w0) (trodAll_cons_mk (shut_int Try.underlying2 w1) (trodAll_cons_mk (Below.trod laidOut (by kernel_rfl) (of_decide_eq_true (by kernel_rfl)) k2 bel lt2) (trodAll_cons_mk (Below.trod laidOut (by kernel_rfl) (of_decide_eq_true (by kernel_rfl)) k3 bel lt3) trodAll_mk0)))), rfl, bel.frame _, fun h => by cases h⟩

theorem over : Rows.fnExactDecisiveSpeakersRow.holds Try.pinned (OpenSpec.ofChange Rows.fnExactDecisiveSpeakersSpec) :=
  OpenClaim.holds_of_wide 10 Try.f10 rfl rfl rfl rfl rfl rfl rfl ⟨rfl, rfl, rfl, rfl, rfl⟩ rfl rfl rfl rfl rfl (by kernel_rfl) Try.func10 (by kernel_rfl)
    (of_decide_eq_true (by kernel_rfl)) (by unfold Func.isWrapper; first | (rw [if_pos (by decide +kernel)]; kernel_rfl) | (rw [if_neg (by decide +kernel)]; exact ⟨rfl, rfl⟩))
    (fun os started H enc _ => lifted os started H enc)

/-- THE STATEMENT -/
theorem proved : Rows.FnExactDecisiveSpeakersSaid :=
  over
#print axioms proved
end Go.Proofs.Ytcilgohjeobamaa.fnExactDecisiveSpeakers
