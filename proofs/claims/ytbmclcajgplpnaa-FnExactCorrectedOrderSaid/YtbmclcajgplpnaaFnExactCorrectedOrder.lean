/- The law FnExactCorrectedOrder: for every input the call returns true, and each argument reads afterwards as it read before. No condition. -/
import Derived.Test.YtbmclcajgplpnaaOrd4
import Derived.Test.YtbmclcajgplpnaaMInt64
import Derived.Test.YtbmclcajgplpnaaMFinish
import Derived.Test.YtbmclcajgplpnaaMRating
import Derived.Test.YtbmclcajgplpnaaSFinish
import Derived.Test.YtbmclcajgplpnaaSRating
import Derived.Test.YtbmclcajgplpnaaArgs
import Derived.Test.YtbmclcajgplpnaaArgs
import Derived.Test.YtbmclcajgplpnaaRows
import Derived.WalkKit
import Derived.ProofKit
import Derived.OpenShut
import Derived.Carry
import Derived.Lib.SmallJoins
namespace Go.Proofs.Ytbmclcajgplpnaa.fnExactCorrectedOrder
open Go.ChangeShapes Go.WideShapes Go.ChangeAt Go.RowKit Go.Joins
set_option linter.unusedVariables false

theorem own : ownKnob Try.prog.godebug = none := by kernel_rfl
theorem laidOut : laidOutB Try.prog = true := by kernel_rfl

/-! The walk: the Go text returns true, and writes nothing that was there. -/
set_option maxHeartbeats 4000000 in
theorem walk (a0 : Int) (a1 : Option Addr) (len1 cap1 : Nat) (x1 : Nat → Int) (a2 : Option Addr) (len2 cap2 : Nat) (x2 : Nat → Int) (w : World) (w0 : (Lit.int .i64 a0).wf = true) (m1 : len1 ≤ maxLen) (w1 : Ints w w.heap.size a1 (len1 * 3) x1) (f1 : ∀ j, j < len1 * 3 → (Lit.int .i64 (x1 j)).wf = true) (m2 : len2 ≤ maxLen) (w2 : Ints w w.heap.size a2 (len2 * 2) x2) (f2 : ∀ j, j < len2 * 2 → (Lit.int .i64 (x2 j)).wf = true) :
    Calls Try.prog 7 #[.int .i64 a0, .slice a1 len1 cap1, .slice a2 len2 cap2] w fun e w' => e = .returned (.bool true) ∧ Below w.heap.size w w' := by
  by_cases hbig1 : 1048576 < (len1 : Int)
  · have hneg : ¬ (0 : Int) ≤ -1 := by omega
    unfold maxLen at m1
    go_enter Try.func7, Try.ntmps7
    go_wp2_with (first | (go_at_call 14; refine (szFinishS_any _ _ _ _ _ (by omega) (by omega) (by first | (unfold maxLen at m1; omega) | omega)).mono ?_; rintro e w' ⟨rfl, rfl⟩))
    go_ret
    exact ⟨rfl, Below.refl _ _⟩
  by_cases hbig2 : 1048576 - (len1 : Int) < (len2 : Int)
  · have hneg : ¬ (0 : Int) ≤ -1 := by omega
    unfold maxLen at m1
    unfold maxLen at m2
    go_enter Try.func7, Try.ntmps7
    go_wp2_with (first | (go_at_call 14; refine (szFinishS_any _ _ _ _ _ (by omega) (by omega) (by first | (unfold maxLen at m1; omega) | omega)).mono ?_; rintro e w' ⟨rfl, rfl⟩) | (go_at_call 9; refine (szRatingS_any _ _ _ _ _ (by omega) (by omega) (by first | (unfold maxLen at m2; omega) | omega)).mono ?_; rintro e w' ⟨rfl, rfl⟩))
    go_ret
    exact ⟨rfl, Below.refl _ _⟩
  have hn1 : len1 ≤ 1048576 := by omega
  have hx1 := Lib.hid w1
  clear w1 m1 f1
  have hn2 : len2 ≤ 1048576 := by omega
  have hx2 := Lib.hid w2
  clear w2 m2 f2
  obtain ⟨L, hL⟩ : ∃ z, coL a0 len1 x1 len2 x2 = z := ⟨_, rfl⟩
  replace hL := Lib.hid hL
  obtain ⟨co, hco⟩ : ∃ z, codF a0 len1 x1 len2 x2 = z := ⟨_, rfl⟩
  replace hco := Lib.hid hco
  obtain ⟨K, hK⟩ : ∃ z, L.length = z := ⟨_, rfl⟩
  replace hK := Lib.hid hK
  go_enter Try.func7, Try.ntmps7
  go_wp2_with (first | (go_at_call 14; refine (szFinishS_any _ _ _ _ _ (by omega) (by omega) (by omega)).mono ?_; rintro e w' ⟨rfl, rfl⟩) | (go_at_call 9; refine (szRatingS_any _ _ _ _ _ (by omega) (by omega) (by omega)).mono ?_; rintro e w' ⟨rfl, rfl⟩) | fail)
  refine (toFinishS_any _ _ _ _ _ (hx1.out.more (by omega)) hn1).mono ?_
  rintro e u1 ⟨rfl, ⟨cs1, hW1, -, hc1⟩, hb1⟩
  have z1 := hb1.size
  have a1_1 := Lib.hid (hx1.out.below (hb1.mono (by omega)))
  clear hx1
  have a2_1 := Lib.hid (hx2.out.below (hb1.mono (by omega)))
  clear hx2
  have hl1 := hW1.lt
  have s1 := Lib.hid (Row.of_whole hW1 hc1)
  clear hW1 hc1
  go_wp2_with fail
  refine (toRatingS_any _ _ _ _ _ (a2_1.out.more (by omega)) hn2).mono ?_
  rintro e u2 ⟨rfl, ⟨cs2, hW2, -, hc2⟩, hb2⟩
  have z2 := hb2.size
  have a1_2 := Lib.hid (a1_1.out.below (hb2.mono (by omega)))
  clear a1_1
  have a2_2 := Lib.hid (a2_1.out.below (hb2.mono (by omega)))
  clear a2_1
  have s1_2 := Lib.hid (s1.out.below hb2)
  clear s1
  have hl2 := hW2.lt
  have s2 := Lib.hid (Row.of_whole hW2 hc2)
  clear hW2 hc2
  go_wp2_with fail
  refine (sCorrectedOrder_val _ _ _ _ _ _ _ _ _ _ _ _ K L co hL hco hK s1_2.out.ints (Nat.le_refl _) (by omega) s2.out.ints (Nat.le_refl _) (by omega)).mono ?_
  rintro e u3 ⟨A3, c3, rfl, gn3, ho3, hb3⟩
  have z3 := hb3.size
  have a1_3 := Lib.hid (a1_2.out.below (hb3.mono (by omega)))
  clear a1_2
  have a2_3 := Lib.hid (a2_2.out.below (hb3.mono (by omega)))
  clear a2_2
  have s1_3 := Lib.hid (s1_2.out.below hb3)
  clear s1_2
  have s2_3 := Lib.hid (s2.out.below hb3)
  clear s2
  obtain ⟨g3, gl3, gm3, rd⟩ := Row.of_own ho3 (Nat.mul_one _).symm
  replace rd := Lib.hid rd
  clear ho3
  go_wp2_with fail
  refine (toFinishS_any _ _ _ _ _ (a1_3.out.more (by omega)) hn1).mono ?_
  rintro e u4 ⟨rfl, ⟨cs4, hW4, -, hc4⟩, hb4⟩
  have z4 := hb4.size
  have a1_4 := Lib.hid (a1_3.out.below (hb4.mono (by omega)))
  clear a1_3
  have a2_4 := Lib.hid (a2_3.out.below (hb4.mono (by omega)))
  clear a2_3
  have rd_4 := Lib.hid (rd.out.below hb4)
  clear rd
  have hl4 := hW4.lt
  have x1 := Lib.hid (Row.of_whole hW4 hc4)
  clear hW4 hc4
  go_wp2_with fail
  refine (toRatingS_any _ _ _ _ _ (a2_4.out.more (by omega)) hn2).mono ?_
  rintro e u5 ⟨rfl, ⟨cs5, hW5, -, hc5⟩, hb5⟩
  have z5 := hb5.size
  have a1_5 := Lib.hid (a1_4.out.below (hb5.mono (by omega)))
  clear a1_4
  have a2_5 := Lib.hid (a2_4.out.below (hb5.mono (by omega)))
  clear a2_4
  have rd_5 := Lib.hid (rd_4.out.below hb5)
  clear rd_4
  have x1_5 := Lib.hid (x1.out.below hb5)
  clear x1
  have hl5 := hW5.lt
  have x2 := Lib.hid (Row.of_whole hW5 hc5)
  clear hW5 hc5
  go_wp2_with fail
  refine (correctedOrder_val _ _ _ _ _ _ _ _ _ _ _ _ K L co hL hco hK x1_5.out.ints (Nat.le_refl _) (by omega) x2.out.ints (Nat.le_refl _) (by omega)).mono ?_
  rintro e u6 ⟨A6, c6, rfl, gn6, ho6, hb6⟩
  have z6 := hb6.size
  have a1_6 := Lib.hid (a1_5.out.below (hb6.mono (by omega)))
  clear a1_5
  have a2_6 := Lib.hid (a2_5.out.below (hb6.mono (by omega)))
  clear a2_5
  have rd_6 := Lib.hid (rd_5.out.below hb6)
  clear rd_5
  have x1_6 := Lib.hid (x1_5.out.below hb6)
  clear x1_5
  have x2_6 := Lib.hid (x2.out.below hb6)
  clear x2
  obtain ⟨g6, gl6, gm6, rg⟩ := Row.of_own ho6 (Nat.mul_one _).symm
  replace rg := Lib.hid rg
  clear ho6
  go_wp2_with fail
  refine (eqInt64S_same _ _ _ _ _ _ _ _ rg.out.ints rd_6.out.ints (by omega)).mono ?_
  rintro e u7 ⟨rfl, hb7⟩
  have z7 := hb7.size
  have a1_7 := Lib.hid (a1_6.out.below (hb7.mono (by omega)))
  clear a1_6
  have a2_7 := Lib.hid (a2_6.out.below (hb7.mono (by omega)))
  clear a2_6
  have rd_7 := Lib.hid (rd_6.out.below hb7)
  clear rd_6
  have x1_7 := Lib.hid (x1_6.out.below hb7)
  clear x1_6
  have x2_7 := Lib.hid (x2_6.out.below hb7)
  clear x2_6
  have rg_7 := Lib.hid (rg.out.below hb7)
  clear rg
  go_wp2_with fail
  refine (toFinishS_any _ _ _ _ _ (a1_7.out.more (by omega)) hn1).mono ?_
  rintro e u8 ⟨rfl, ⟨cs8, hW8, -, hc8⟩, hb8⟩
  have z8 := hb8.size
  have a1_8 := Lib.hid (a1_7.out.below (hb8.mono (by omega)))
  clear a1_7
  have a2_8 := Lib.hid (a2_7.out.below (hb8.mono (by omega)))
  clear a2_7
  have rd_8 := Lib.hid (rd_7.out.below hb8)
  clear rd_7
  have x1_8 := Lib.hid (x1_7.out.below hb8)
  clear x1_7
  have x2_8 := Lib.hid (x2_7.out.below hb8)
  clear x2_7
  have rg_8 := Lib.hid (rg_7.out.below hb8)
  clear rg_7
  have hl8 := hW8.lt
  have y1 := Lib.hid (Row.of_whole hW8 hc8)
  clear hW8 hc8
  go_wp2_with fail
  refine (eqFinishS_same _ _ _ _ _ _ _ _ x1_8.out.ints y1.out.ints (Nat.le_refl _) (by omega)).mono ?_
  rintro e u9 ⟨rfl, hb9⟩
  have z9 := hb9.size
  have a1_9 := Lib.hid (a1_8.out.below (hb9.mono (by omega)))
  clear a1_8
  have a2_9 := Lib.hid (a2_8.out.below (hb9.mono (by omega)))
  clear a2_8
  have rd_9 := Lib.hid (rd_8.out.below hb9)
  clear rd_8
  have x1_9 := Lib.hid (x1_8.out.below hb9)
  clear x1_8
  have x2_9 := Lib.hid (x2_8.out.below hb9)
  clear x2_8
  have rg_9 := Lib.hid (rg_8.out.below hb9)
  clear rg_8
  have y1_9 := Lib.hid (y1.out.below hb9)
  clear y1
  go_wp2_with fail
  refine (toRatingS_any _ _ _ _ _ (a2_9.out.more (by omega)) hn2).mono ?_
  rintro e u10 ⟨rfl, ⟨cs10, hW10, -, hc10⟩, hb10⟩
  have z10 := hb10.size
  have a1_10 := Lib.hid (a1_9.out.below (hb10.mono (by omega)))
  clear a1_9
  have a2_10 := Lib.hid (a2_9.out.below (hb10.mono (by omega)))
  clear a2_9
  have rd_10 := Lib.hid (rd_9.out.below hb10)
  clear rd_9
  have x1_10 := Lib.hid (x1_9.out.below hb10)
  clear x1_9
  have x2_10 := Lib.hid (x2_9.out.below hb10)
  clear x2_9
  have rg_10 := Lib.hid (rg_9.out.below hb10)
  clear rg_9
  have hl10 := hW10.lt
  have y2 := Lib.hid (Row.of_whole hW10 hc10)
  clear hW10 hc10
  go_wp2_with fail
  refine (eqRatingS_same _ _ _ _ _ _ _ _ x2_10.out.ints y2.out.ints (Nat.le_refl _) (by omega)).mono ?_
  rintro e u11 ⟨rfl, hb11⟩
  have z11 := hb11.size
  have a1_11 := Lib.hid (a1_10.out.below (hb11.mono (by omega)))
  clear a1_10
  have a2_11 := Lib.hid (a2_10.out.below (hb11.mono (by omega)))
  clear a2_10
  have rd_11 := Lib.hid (rd_10.out.below hb11)
  clear rd_10
  have x1_11 := Lib.hid (x1_10.out.below hb11)
  clear x1_10
  have x2_11 := Lib.hid (x2_10.out.below hb11)
  clear x2_10
  have rg_11 := Lib.hid (rg_10.out.below hb11)
  clear rg_10
  have y2_11 := Lib.hid (y2.out.below hb11)
  clear y2
  go_wp2_with fail
  refine (markFinishS_any _ _ _ _ _ _ _ x1_11.out (by omega) (by omega)).mono ?_
  rintro e u12 ⟨rfl, x1_12, hb12⟩
  have z12 := hb12.size
  have a1_12 := Lib.hid (a1_11.out.only hb12 (by omega) (fun k e => by injection e with e; omega))
  clear a1_11
  have a2_12 := Lib.hid (a2_11.out.only hb12 (by omega) (fun k e => by injection e with e; omega))
  clear a2_11
  have rd_12 := Lib.hid (rd_11.out.grown2 hb12 (gm3.imp id (fun hm e => by injection e with e; omega)))
  clear rd_11
  have x2_12 := Lib.hid (x2_11.out.grown hb12 (fun e => by injection e with e; omega))
  clear x2_11
  have rg_12 := Lib.hid (rg_11.out.grown2 hb12 (gm6.imp id (fun hm e => by injection e with e; omega)))
  clear rg_11
  replace x1_12 := Lib.hid x1_12
  clear x1_11
  go_wp2_with fail
  refine (markRatingS_any _ _ _ _ _ _ _ x2_12.out (by omega) (by omega)).mono ?_
  rintro e u13 ⟨rfl, x2_13, hb13⟩
  have z13 := hb13.size
  have a1_13 := Lib.hid (a1_12.out.only hb13 (by omega) (fun k e => by injection e with e; omega))
  clear a1_12
  have a2_13 := Lib.hid (a2_12.out.only hb13 (by omega) (fun k e => by injection e with e; omega))
  clear a2_12
  have rd_13 := Lib.hid (rd_12.out.grown2 hb13 (gm3.imp id (fun hm e => by injection e with e; omega)))
  clear rd_12
  have x1_13 := Lib.hid (x1_12.out.grown hb13 (fun e => by injection e with e; omega))
  clear x1_12
  have rg_13 := Lib.hid (rg_12.out.grown2 hb13 (gm6.imp id (fun hm e => by injection e with e; omega)))
  clear rg_12
  replace x2_13 := Lib.hid x2_13
  clear x2_12
  go_wp2_with fail
  refine (eqInt64S_same _ _ _ _ _ _ _ _ rg_13.out.ints rd_13.out.ints (by omega)).mono ?_
  rintro e u14 ⟨rfl, hb14⟩
  have z14 := hb14.size
  have a1_14 := Lib.hid (a1_13.out.below (hb14.mono (by omega)))
  clear a1_13
  have a2_14 := Lib.hid (a2_13.out.below (hb14.mono (by omega)))
  clear a2_13
  have rd_14 := Lib.hid (rd_13.out.below hb14)
  clear rd_13
  have x1_14 := Lib.hid (x1_13.out.below hb14)
  clear x1_13
  have x2_14 := Lib.hid (x2_13.out.below hb14)
  clear x2_13
  have rg_14 := Lib.hid (rg_13.out.below hb14)
  clear rg_13
  go_wp2_with fail
  refine (markInt64S_any _ _ _ _ _ _ _ rg_14.out (by omega) (by omega)).mono ?_
  rintro e u15 ⟨rfl, rg_15, hb15⟩
  have z15 := hb15.size
  have a1_15 := Lib.hid (a1_14.out.only hb15 (by omega) (fun k e => by injection e with e; omega))
  clear a1_14
  have a2_15 := Lib.hid (a2_14.out.only hb15 (by omega) (fun k e => by injection e with e; omega))
  clear a2_14
  have rd_15 := Lib.hid (rd_14.out.grown2 hb15 (gm3.imp id (fun hm e => by injection e with e; omega)))
  clear rd_14
  have x1_15 := Lib.hid (x1_14.out.grown hb15 (fun e => by injection e with e; omega))
  clear x1_14
  have x2_15 := Lib.hid (x2_14.out.grown hb15 (fun e => by injection e with e; omega))
  clear x2_14
  replace rg_15 := Lib.hid rg_15
  clear rg_14
  go_wp2_with fail
  refine (heldInt64S_any _ _ _ _ _ _ _ rg_15.out.ints (fun j _ => rfl) (by omega) (by omega)).mono ?_
  rintro e u16 ⟨rfl, hb16⟩
  have z16 := hb16.size
  have a1_16 := Lib.hid (a1_15.out.below (hb16.mono (by omega)))
  clear a1_15
  have a2_16 := Lib.hid (a2_15.out.below (hb16.mono (by omega)))
  clear a2_15
  have rd_16 := Lib.hid (rd_15.out.below hb16)
  clear rd_15
  have x1_16 := Lib.hid (x1_15.out.below hb16)
  clear x1_15
  have x2_16 := Lib.hid (x2_15.out.below hb16)
  clear x2_15
  have rg_16 := Lib.hid (rg_15.out.below hb16)
  clear rg_15
  go_wp2_with fail
  refine (toFinishS_any _ _ _ _ _ (a1_16.out.more (by omega)) hn1).mono ?_
  rintro e u17 ⟨rfl, ⟨cs17, hW17, -, hc17⟩, hb17⟩
  have z17 := hb17.size
  have a1_17 := Lib.hid (a1_16.out.below (hb17.mono (by omega)))
  clear a1_16
  have a2_17 := Lib.hid (a2_16.out.below (hb17.mono (by omega)))
  clear a2_16
  have rd_17 := Lib.hid (rd_16.out.below hb17)
  clear rd_16
  have rg_17 := Lib.hid (rg_16.out.below hb17)
  clear rg_16
  have hl17 := hW17.lt
  have t1 := Lib.hid (Row.of_whole hW17 hc17)
  clear hW17 hc17
  go_wp2_with fail
  refine (toRatingS_any _ _ _ _ _ (a2_17.out.more (by omega)) hn2).mono ?_
  rintro e u18 ⟨rfl, ⟨cs18, hW18, -, hc18⟩, hb18⟩
  have z18 := hb18.size
  have a1_18 := Lib.hid (a1_17.out.below (hb18.mono (by omega)))
  clear a1_17
  have a2_18 := Lib.hid (a2_17.out.below (hb18.mono (by omega)))
  clear a2_17
  have rd_18 := Lib.hid (rd_17.out.below hb18)
  clear rd_17
  have rg_18 := Lib.hid (rg_17.out.below hb18)
  clear rg_17
  have t1_18 := Lib.hid (t1.out.below hb18)
  clear t1
  have hl18 := hW18.lt
  have t2 := Lib.hid (Row.of_whole hW18 hc18)
  clear hW18 hc18
  go_wp2_with fail
  refine (correctedOrder_val _ _ _ _ _ _ _ _ _ _ _ _ K L co hL hco hK t1_18.out.ints (Nat.le_refl _) (by omega) t2.out.ints (Nat.le_refl _) (by omega)).mono ?_
  rintro e u19 ⟨A19, c19, rfl, gn19, ho19, hb19⟩
  have z19 := hb19.size
  have a1_19 := Lib.hid (a1_18.out.below (hb19.mono (by omega)))
  clear a1_18
  have a2_19 := Lib.hid (a2_18.out.below (hb19.mono (by omega)))
  clear a2_18
  have rd_19 := Lib.hid (rd_18.out.below hb19)
  clear rd_18
  have rg_19 := Lib.hid (rg_18.out.below hb19)
  clear rg_18
  have t1_19 := Lib.hid (t1_18.out.below hb19)
  clear t1_18
  have t2_19 := Lib.hid (t2.out.below hb19)
  clear t2
  obtain ⟨g19, gl19, gm19, rh⟩ := Row.of_own ho19 (Nat.mul_one _).symm
  replace rh := Lib.hid rh
  clear ho19
  go_wp2_with fail
  refine (eqInt64S_same _ _ _ _ _ _ _ _ rh.out.ints rd_19.out.ints (by omega)).mono ?_
  rintro e u20 ⟨rfl, hb20⟩
  have z20 := hb20.size
  have a1_20 := Lib.hid (a1_19.out.below (hb20.mono (by omega)))
  clear a1_19
  have a2_20 := Lib.hid (a2_19.out.below (hb20.mono (by omega)))
  clear a2_19
  have rd_20 := Lib.hid (rd_19.out.below hb20)
  clear rd_19
  have rg_20 := Lib.hid (rg_19.out.below hb20)
  clear rg_19
  have rh_20 := Lib.hid (rh.out.below hb20)
  clear rh
  go_wp2_with fail
  refine (heldInt64S_any _ _ _ _ _ _ _ rg_20.out.ints (fun j _ => rfl) (by omega) (by omega)).mono ?_
  rintro e u21 ⟨rfl, hb21⟩
  have z21 := hb21.size
  have a1_21 := Lib.hid (a1_20.out.below (hb21.mono (by omega)))
  clear a1_20
  have a2_21 := Lib.hid (a2_20.out.below (hb21.mono (by omega)))
  clear a2_20
  have rg_21 := Lib.hid (rg_20.out.below hb21)
  clear rg_20
  go_wp2
  go_ret
  exact ⟨rfl, hb1.trans ((hb2.mono (by omega)).trans ((hb3.mono (by omega)).trans ((hb4.mono (by omega)).trans ((hb5.mono (by omega)).trans ((hb6.mono (by omega)).trans ((hb7.mono (by omega)).trans ((hb8.mono (by omega)).trans ((hb9.mono (by omega)).trans ((hb10.mono (by omega)).trans ((hb11.mono (by omega)).trans ((below_only hb12 (by omega) (fun k e => by injection e with e; omega)).trans ((below_only hb13 (by omega) (fun k e => by injection e with e; omega)).trans ((hb14.mono (by omega)).trans ((below_only hb15 (by omega) (fun k e => by injection e with e; omega)).trans ((hb16.mono (by omega)).trans ((hb17.mono (by omega)).trans ((hb18.mono (by omega)).trans ((hb19.mono (by omega)).trans ((hb20.mono (by omega)).trans (hb21.mono (by omega)))))))))))))))))))))⟩

/-! ### THE ROW's STEP -/
set_option maxRecDepth 100000 in
theorem lifted (os : Os) (started : os.Started) (H : Type) (enc : TypeId × Value → H) :
    ReturnsInHanded {} Try.checked os 7 .any (Rows.fnExactCorrectedOrderSpec.pre6 enc Try.prog Try.f7 Rows.fnExactCorrectedOrderRow.domain false) (Rows.fnExactCorrectedOrderSpec.post enc Try.prog Try.f7 false true false false) := by
  refine returnsInHanded_of_change (C := Try.checked) own started (by kernel_rfl) Try.func7
    (ChangeSpec.witness6 (enc := enc) (C := Try.checked) false ⟨#[], #[.int .i64 0, .slice none 0 0, .slice none 0 0], []⟩ 8 (by kernel_rfl) (by kernel_rfl) (by kernel_rfl) (by kernel_rfl)) ?_
  intro W base args ds gs before hval0 hW hcnd _
  have hval : ∀ (j : Nat) t v, Try.f7.params[j]? = some t → args[j]? = some v → Value.okWide Try.prog W .any base t v := hval0
  have hW' := hW
  obtain ⟨p, q, hA0, hV, rfl, hfz, hnd⟩ := hW
  have hA : DataW.TrodAll enc Try.prog W 0 (fun _ => true) true Try.f7.params.toList args.toList ds p := hA0
  rw [Try.params7] at hA hval
  obtain ⟨v0, vs0, d0, ds0, p0, q0, hargs, rfl, rfl, h0, r0⟩ := trodAll_cons hA
  obtain ⟨v1, vs1, d1, ds1, p1, q1, rfl, rfl, rfl, h1, r1⟩ := trodAll_cons r0
  obtain ⟨v2, vs2, d2, ds2, p2, q2, rfl, rfl, rfl, h2, r2⟩ := trodAll_cons r1
  obtain ⟨rfl, rfl, rfl⟩ := trodAll_nil r2
  obtain rfl : args = #[v0, v1, v2] := by cases args; simp_all
  obtain ⟨rfl, rfl⟩ := trodVars_none hV
  obtain ⟨a0, rfl, rfl, rfl, w0⟩ := open_int Try.underlying2 (hval 0 2 v0 rfl rfl) h0
  obtain ⟨a1, len1, cap1, rfl⟩ := okWide_slice Try.underlying29 (hval 1 29 v1 rfl rfl)
  have k1 := h1
  have lt1 : ∀ x ∈ p1, x.block < W.heap.size := by obtain ⟨m, hm⟩ := k1; exact DataW.trod_lt m _ _ _ hm
  obtain ⟨m1, x1, w1, f1⟩ : len1 ≤ maxLen ∧ ∃ xs : Nat → Int, Ints W W.heap.size a1 (len1 * 3) xs ∧ ∀ j, j < len1 * 3 → (Lit.int .i64 (xs j)).wf = true := by
    obtain ⟨fuel, hf⟩ := h1
    simp only [Value.cells] at hf
    exact ints_of_structs (K := 3) Try.underlying29 Try.underlying69 (by kernel_rfl) (by kernel_rfl) rfl (fun j f hf => by
      match j, hf with
      | 0, hf => (cases hf; exact Try.underlying2)
      | 1, hf => (cases hf; exact Try.underlying2)
      | 2, hf => (cases hf; exact Try.underlying2)
      | n + 3, hf => simp at hf) hf
  obtain ⟨a2, len2, cap2, rfl⟩ := okWide_slice Try.underlying22 (hval 2 22 v2 rfl rfl)
  have k2 := h2
  have lt2 : ∀ x ∈ p2, x.block < W.heap.size := by obtain ⟨m, hm⟩ := k2; exact DataW.trod_lt m _ _ _ hm
  obtain ⟨m2, x2, w2, f2⟩ : len2 ≤ maxLen ∧ ∃ xs : Nat → Int, Ints W W.heap.size a2 (len2 * 2) xs ∧ ∀ j, j < len2 * 2 → (Lit.int .i64 (xs j)).wf = true := by
    obtain ⟨fuel, hf⟩ := h2
    simp only [Value.cells] at hf
    exact ints_of_structs (K := 2) Try.underlying22 Try.underlying64 (by kernel_rfl) (by kernel_rfl) rfl (fun j f hf => by
      match j, hf with
      | 0, hf => (cases hf; exact Try.underlying2)
      | 1, hf => (cases hf; exact Try.underlying2)
      | n + 2, hf => simp at hf) hf
  clear hA0 hval0
  refine (walk a0 a1 len1 cap1 x1 a2 len2 cap2 x2 W w0 m1 w1 f1 m2 w2 f2).mono fun e W' ⟨he, bel⟩ => ?_
  subst he
  exact ⟨_, rfl, _, _, _, [], _, [], hW', trodAll_mk1 (shut_bool Try.underlying4 _), (trodAll_cons_mk (shut_int Try.underlying2 w0) (trodAll_cons_mk (Below.trod laidOut (by kernel_rfl) (of_decide_eq_true (by kernel_rfl)) k1 bel lt1) (trodAll_cons_mk (Below.trod laidOut (by kernel_rfl) (of_decide_eq_true (by kernel_rfl)) k2 bel lt2) trodAll_mk0))), rfl, bel.frame _, fun h => by cases h⟩

theorem over : Rows.fnExactCorrectedOrderRow.holds Try.pinned (OpenSpec.ofChange Rows.fnExactCorrectedOrderSpec) :=
  OpenClaim.holds_of_wide 7 Try.f7 rfl rfl rfl rfl rfl rfl rfl ⟨rfl, rfl, rfl, rfl, rfl⟩ rfl rfl rfl rfl rfl (by kernel_rfl) Try.func7 (by kernel_rfl)
    (of_decide_eq_true (by kernel_rfl)) (by unfold Func.isWrapper; first | (rw [if_pos (by decide +kernel)]; kernel_rfl) | (rw [if_neg (by decide +kernel)]; exact ⟨rfl, rfl⟩))
    (fun os started H enc _ => lifted os started H enc)

/-- THE STATEMENT -/
theorem proved : Rows.FnExactCorrectedOrderSaid :=
  over
#print axioms proved
end Go.Proofs.Ytbmclcajgplpnaa.fnExactCorrectedOrder
