/- The law FnExactAddRuling: for every input the call returns true, and each argument reads afterwards as it read before. No condition. -/
import Derived.Test.YteacjoemlobmoaaApp5
import Derived.Test.YteacjoemlobmoaaSAppealRuling
import Derived.Test.YteacjoemlobmoaaMAppealRuling
import Derived.Test.YteacjoemlobmoaaArgs
import Derived.Test.YteacjoemlobmoaaArgs
import Derived.Test.YteacjoemlobmoaaRows
import Derived.WalkKit
import Derived.ProofKit
import Derived.OpenShut
import Derived.Carry
import Derived.Lib.SmallJoins
namespace Go.Proofs.Yteacjoemlobmoaa.fnExactAddRuling
open Go.ChangeShapes Go.WideShapes Go.ChangeAt Go.RowKit Go.Joins
set_option linter.unusedVariables false

theorem own : ownKnob Try.prog.godebug = none := by kernel_rfl
theorem laidOut : laidOutB Try.prog = true := by kernel_rfl

/-! The walk: the Go text returns true, and writes nothing that was there. -/
set_option maxHeartbeats 4000000 in
theorem walk (a0 : Option Addr) (len0 cap0 : Nat) (x0 : Nat → Int) (b10 b11 b12 : Int) (w : World) (m0 : len0 ≤ maxLen) (w0 : Ints w w.heap.size a0 (len0 * 3) x0) (f0 : ∀ j, j < len0 * 3 → (Lit.int .i64 (x0 j)).wf = true) (w10 : (Lit.int .i64 b10).wf = true) (w11 : (Lit.int .i64 b11).wf = true) (w12 : (Lit.int .i64 b12).wf = true) :
    Calls Try.prog 8 #[.slice a0 len0 cap0, .agg #[.int .i64 b10, .int .i64 b11, .int .i64 b12]] w fun e w' => e = .returned (.bool true) ∧ Below w.heap.size w w' := by
  by_cases hbig0 : 1048576 < (len0 : Int)
  · have hneg : ¬ (0 : Int) ≤ -1 := by omega
    unfold maxLen at m0
    go_enter Try.func8, Try.ntmps8
    go_wp2_with (first | (go_at_call 10; refine (szAppealRulingS_any _ _ _ _ _ (by omega) (by omega) (by first | (unfold maxLen at m0; omega) | omega)).mono ?_; rintro e w' ⟨rfl, rfl⟩))
    go_ret
    exact ⟨rfl, (Below.refl _ _).alloc (Nat.le_refl _) _⟩
  have hn0 : len0 ≤ 1048576 := by omega
  have hx0 := Lib.hid w0
  clear w0 m0 f0
  obtain ⟨L, hL⟩ : ∃ z, addL len0 x0 b10 b11 b12 = z := ⟨_, rfl⟩
  replace hL := Lib.hid hL
  obtain ⟨co, hco⟩ : ∃ z, addC len0 x0 b10 b11 b12 = z := ⟨_, rfl⟩
  replace hco := Lib.hid hco
  obtain ⟨K, hK⟩ : ∃ z, addK len0 x0 b10 b11 b12 = z := ⟨_, rfl⟩
  replace hK := Lib.hid hK
  go_enter Try.func8, Try.ntmps8
  have a0_0 := Lib.hid (hx0.out.below ((Below.refl _ w).alloc (Nat.le_refl _) (.cells #[.int .i64 b10, .int .i64 b11, .int .i64 b12] 41)))
  clear hx0
  have bx := Lib.hid (Row.of_whole (n := 3) (xs := fun j => [b10, b11, b12].getD j 0) (Whole.new w 41 #[.int .i64 b10, .int .i64 b11, .int .i64 b12]) (fun j hj => by match j, hj with | 0, _ => rfl | 1, _ => rfl | 2, _ => rfl))
  obtain ⟨_, yo, _, yc, _⟩ := bx.out.open_ (by omega)
  injection yo with yo
  injection yo with _ yo _
  subst yo
  have y0 : (w.alloc (.cells #[.int .i64 b10, .int .i64 b11, .int .i64 b12] 41)).cell? ⟨w.heap.size, 0, none⟩ = some (.int .i64 b10) := by first | (simp; done) | simpa using yc 0 (by omega)
  have y1 : (w.alloc (.cells #[.int .i64 b10, .int .i64 b11, .int .i64 b12] 41)).cell? ⟨w.heap.size, 1, none⟩ = some (.int .i64 b11) := by first | (simp; done) | simpa using yc 1 (by omega)
  have y2 : (w.alloc (.cells #[.int .i64 b10, .int .i64 b11, .int .i64 b12] 41)).cell? ⟨w.heap.size, 2, none⟩ = some (.int .i64 b12) := by first | (simp; done) | simpa using yc 2 (by omega)
  clear yc
  go_wp2_with (first | (go_at_call 10; refine (szAppealRulingS_any _ _ _ _ _ (by omega) (by omega) (by omega)).mono ?_; rintro e w' ⟨rfl, rfl⟩) | fail)
  have hbox : w.heap.size < ((w.alloc (.cells #[.int .i64 b10, .int .i64 b11, .int .i64 b12] 41))).heap.size := by first | (simp; done) | omega | (simp; omega)
  have hI := Lib.hid (a0_0.out.more (B' := ((w.alloc (.cells #[.int .i64 b10, .int .i64 b11, .int .i64 b12] 41))).heap.size) (by first | omega | (simp; done) | (simp; omega)))
  go_region_with (first | (go_at_call 12; refine (toAppealRulingS_any _ _ _ _ _ (by exact hI.out) hn0).mono ?_; rintro e v1 ⟨rfl, ⟨cs, hW, -, hc⟩, hbv⟩; have hS := Row.of_whole hW hc; (try simp only [World.size_alloc, World.size_drew] at hS); have hbu : Below ((w.alloc (.cells #[.int .i64 b10, .int .i64 b11, .int .i64 b12] 41))).heap.size ((w.alloc (.cells #[.int .i64 b10, .int .i64 b11, .int .i64 b12] 41))) v1 := (by first | exact hbv | exact (Below.refl _ _).drew.trans hbv); have y0' : v1.cell? ⟨w.heap.size, 0, none⟩ = some (.int .i64 b10) := (hbu.cell (p := ⟨w.heap.size, 0, none⟩) (by first | exact hbox | (simp; omega))).trans y0; have y1' : v1.cell? ⟨w.heap.size, 1, none⟩ = some (.int .i64 b11) := (hbu.cell (p := ⟨w.heap.size, 1, none⟩) (by first | exact hbox | (simp; omega))).trans y1; have y2' : v1.cell? ⟨w.heap.size, 2, none⟩ = some (.int .i64 b12) := (hbu.cell (p := ⟨w.heap.size, 2, none⟩) (by first | exact hbox | (simp; omega))).trans y2) | (go_at_call 28; refine (toAppealRuling_any _ _ _ _).mono ?_; rintro e v2 ⟨rfl, hbt⟩; have hS2 := hS.below hbt) | (go_at_call 27; refine (sAddRuling_val _ _ _ _ _ _ _ _ _ _ K L co hL hco hK hS2.ints (Nat.le_refl _) (by omega)).mono ?_; rintro e u1 ⟨A1, c1, rfl, gn1, ho, hb3⟩))
  all_goals
    have ho1 := own_base ho (Nat.le_trans hbu.size hbt.size)
    have hb1 := hbu.trans ((hbt.mono hbu.size).trans (hb3.mono (Nat.le_trans hbu.size hbt.size)))
    clear ho hb3 hbt hbu hbv hS2 hS hW hc hI hbox
    try clear y0' y1' y2'
    clear y0 y1 y2
    have z1 := hb1.size
    simp only [World.size_alloc] at z1
    have a0_1 := Lib.hid (a0_0.out.below (hb1.mono (by omega)))
    clear a0_0
    have bx_1 := Lib.hid (bx.out.below hb1)
    clear bx
    obtain ⟨g1, gl1, gm1, rd⟩ := Row.of_own ho1 (rfl)
    simp only [World.size_alloc] at gl1
    replace rd := Lib.hid rd
    clear ho1
    go_wp2_with fail
    refine (toAppealRulingS_any _ _ _ _ _ (a0_1.out.more (by omega)) hn0).mono ?_
    rintro e u2 ⟨rfl, ⟨cs2, hW2, -, hc2⟩, hb2⟩
    have z2 := hb2.size
    have a0_2 := Lib.hid (a0_1.out.below (hb2.mono (by omega)))
    clear a0_1
    have bx_2 := Lib.hid (bx_1.out.below hb2)
    clear bx_1
    have rd_2 := Lib.hid (rd.out.below hb2)
    clear rd
    have hl2 := hW2.lt
    have x0 := Lib.hid (Row.of_whole hW2 hc2)
    clear hW2 hc2
    obtain ⟨_, yo, _, yc, _⟩ := bx_2.out.open_ (by omega)
    injection yo with yo
    injection yo with _ yo _
    subst yo
    have y0 : u2.cell? ⟨w.heap.size, 0, none⟩ = some (.int .i64 b10) := by first | (simp; done) | simpa using yc 0 (by omega)
    have y1 : u2.cell? ⟨w.heap.size, 1, none⟩ = some (.int .i64 b11) := by first | (simp; done) | simpa using yc 1 (by omega)
    have y2 : u2.cell? ⟨w.heap.size, 2, none⟩ = some (.int .i64 b12) := by first | (simp; done) | simpa using yc 2 (by omega)
    clear yc
    go_wp2_with fail
    refine (toAppealRuling_any _ _ _ _).mono ?_
    rintro e u3 ⟨rfl, hb3⟩
    have z3 := hb3.size
    have a0_3 := Lib.hid (a0_2.out.below (hb3.mono (by omega)))
    clear a0_2
    have bx_3 := Lib.hid (bx_2.out.below hb3)
    clear bx_2
    have rd_3 := Lib.hid (rd_2.out.below hb3)
    clear rd_2
    have x0_3 := Lib.hid (x0.out.below hb3)
    clear x0
    clear y0 y1 y2
    go_wp2_with fail
    refine (addRuling_val _ _ _ _ _ _ _ _ _ _ K L co hL hco hK x0_3.out.ints (Nat.le_refl _) (by omega)).mono ?_
    rintro e u4 ⟨A4, c4, rfl, gn4, ho4, hb4⟩
    have z4 := hb4.size
    have a0_4 := Lib.hid (a0_3.out.below (hb4.mono (by omega)))
    clear a0_3
    have bx_4 := Lib.hid (bx_3.out.below hb4)
    clear bx_3
    have rd_4 := Lib.hid (rd_3.out.below hb4)
    clear rd_3
    have x0_4 := Lib.hid (x0_3.out.below hb4)
    clear x0_3
    obtain ⟨g4, gl4, gm4, rg⟩ := Row.of_own ho4 (rfl)
    replace rg := Lib.hid rg
    clear ho4
    go_wp2_with fail
    refine (eqAppealRulingS_same _ _ _ _ _ _ _ _ rg.out.ints rd_4.out.ints (Nat.le_refl _) (by omega)).mono ?_
    rintro e u5 ⟨rfl, hb5⟩
    have z5 := hb5.size
    have a0_5 := Lib.hid (a0_4.out.below (hb5.mono (by omega)))
    clear a0_4
    have bx_5 := Lib.hid (bx_4.out.below hb5)
    clear bx_4
    have rd_5 := Lib.hid (rd_4.out.below hb5)
    clear rd_4
    have x0_5 := Lib.hid (x0_4.out.below hb5)
    clear x0_4
    have rg_5 := Lib.hid (rg.out.below hb5)
    clear rg
    go_wp2_with fail
    refine (toAppealRulingS_any _ _ _ _ _ (a0_5.out.more (by omega)) hn0).mono ?_
    rintro e u6 ⟨rfl, ⟨cs6, hW6, -, hc6⟩, hb6⟩
    have z6 := hb6.size
    have a0_6 := Lib.hid (a0_5.out.below (hb6.mono (by omega)))
    clear a0_5
    have bx_6 := Lib.hid (bx_5.out.below hb6)
    clear bx_5
    have rd_6 := Lib.hid (rd_5.out.below hb6)
    clear rd_5
    have x0_6 := Lib.hid (x0_5.out.below hb6)
    clear x0_5
    have rg_6 := Lib.hid (rg_5.out.below hb6)
    clear rg_5
    have hl6 := hW6.lt
    have y0 := Lib.hid (Row.of_whole hW6 hc6)
    clear hW6 hc6
    go_wp2_with fail
    refine (eqAppealRulingS_same _ _ _ _ _ _ _ _ x0_6.out.ints y0.out.ints (Nat.le_refl _) (by omega)).mono ?_
    rintro e u7 ⟨rfl, hb7⟩
    have z7 := hb7.size
    have a0_7 := Lib.hid (a0_6.out.below (hb7.mono (by omega)))
    clear a0_6
    have bx_7 := Lib.hid (bx_6.out.below hb7)
    clear bx_6
    have rd_7 := Lib.hid (rd_6.out.below hb7)
    clear rd_6
    have x0_7 := Lib.hid (x0_6.out.below hb7)
    clear x0_6
    have rg_7 := Lib.hid (rg_6.out.below hb7)
    clear rg_6
    have y0_7 := Lib.hid (y0.out.below hb7)
    clear y0
    go_wp2_with fail
    refine (markAppealRulingS_any _ _ _ _ _ _ _ x0_7.out (by omega) (by omega)).mono ?_
    rintro e u8 ⟨rfl, x0_8, hb8⟩
    have z8 := hb8.size
    have a0_8 := Lib.hid (a0_7.out.only hb8 (by omega) (fun k e => by injection e with e; omega))
    clear a0_7
    have bx_8 := Lib.hid (bx_7.out.grown hb8 (fun e => by injection e with e; omega))
    clear bx_7
    have rd_8 := Lib.hid (rd_7.out.grown2 hb8 (gm1.imp id (fun hm e => by injection e with e; omega)))
    clear rd_7
    have rg_8 := Lib.hid (rg_7.out.grown2 hb8 (gm4.imp id (fun hm e => by injection e with e; omega)))
    clear rg_7
    replace x0_8 := Lib.hid x0_8
    clear x0_7
    go_wp2_with fail
    refine (eqAppealRulingS_same _ _ _ _ _ _ _ _ rg_8.out.ints rd_8.out.ints (Nat.le_refl _) (by omega)).mono ?_
    rintro e u9 ⟨rfl, hb9⟩
    have z9 := hb9.size
    have a0_9 := Lib.hid (a0_8.out.below (hb9.mono (by omega)))
    clear a0_8
    have bx_9 := Lib.hid (bx_8.out.below hb9)
    clear bx_8
    have rd_9 := Lib.hid (rd_8.out.below hb9)
    clear rd_8
    have x0_9 := Lib.hid (x0_8.out.below hb9)
    clear x0_8
    have rg_9 := Lib.hid (rg_8.out.below hb9)
    clear rg_8
    go_wp2_with fail
    refine (markAppealRulingS_any _ _ _ _ _ _ _ rg_9.out (by omega) (by omega)).mono ?_
    rintro e u10 ⟨rfl, rg_10, hb10⟩
    have z10 := hb10.size
    have a0_10 := Lib.hid (a0_9.out.only hb10 (by omega) (fun k e => by injection e with e; omega))
    clear a0_9
    have bx_10 := Lib.hid (bx_9.out.grown hb10 (fun e => by injection e with e; omega))
    clear bx_9
    have rd_10 := Lib.hid (rd_9.out.grown2 hb10 (gm1.imp id (fun hm e => by injection e with e; omega)))
    clear rd_9
    have x0_10 := Lib.hid (x0_9.out.grown hb10 (fun e => by injection e with e; omega))
    clear x0_9
    replace rg_10 := Lib.hid rg_10
    clear rg_9
    go_wp2_with fail
    refine (heldAppealRulingS_any _ _ _ _ _ _ _ rg_10.out.ints (fun j _ => rfl) (by omega) (by omega)).mono ?_
    rintro e u11 ⟨rfl, hb11⟩
    have z11 := hb11.size
    have a0_11 := Lib.hid (a0_10.out.below (hb11.mono (by omega)))
    clear a0_10
    have bx_11 := Lib.hid (bx_10.out.below hb11)
    clear bx_10
    have rd_11 := Lib.hid (rd_10.out.below hb11)
    clear rd_10
    have x0_11 := Lib.hid (x0_10.out.below hb11)
    clear x0_10
    have rg_11 := Lib.hid (rg_10.out.below hb11)
    clear rg_10
    obtain ⟨_, yo, _, yc, _⟩ := bx_11.out.open_ (by omega)
    injection yo with yo
    injection yo with _ yo _
    subst yo
    have y0 : u11.cell? ⟨w.heap.size, 0, none⟩ = some (.int .i64 b10) := by first | (simp; done) | simpa using yc 0 (by omega)
    have y1 : u11.cell? ⟨w.heap.size, 1, none⟩ = some (.int .i64 b11) := by first | (simp; done) | simpa using yc 1 (by omega)
    have y2 : u11.cell? ⟨w.heap.size, 2, none⟩ = some (.int .i64 b12) := by first | (simp; done) | simpa using yc 2 (by omega)
    clear yc
    go_wp2_with fail
    have hbox : w.heap.size < (u11).heap.size := by first | (simp; done) | omega | (simp; omega)
    have hI := Lib.hid (a0_11.out.more (B' := (u11).heap.size) (by first | omega | (simp; done) | (simp; omega)))
    go_region_with (first | (go_at_call 12; refine (toAppealRulingS_any _ _ _ _ _ (by exact hI.out) hn0).mono ?_; rintro e v1 ⟨rfl, ⟨cs, hW, -, hc⟩, hbv⟩; have hS := Row.of_whole hW hc; (try simp only [World.size_alloc, World.size_drew] at hS); have hbu : Below (u11).heap.size (u11) v1 := (by first | exact hbv | exact (Below.refl _ _).drew.trans hbv); have y0' : v1.cell? ⟨w.heap.size, 0, none⟩ = some (.int .i64 b10) := (hbu.cell (p := ⟨w.heap.size, 0, none⟩) (by first | exact hbox | (simp; omega))).trans y0; have y1' : v1.cell? ⟨w.heap.size, 1, none⟩ = some (.int .i64 b11) := (hbu.cell (p := ⟨w.heap.size, 1, none⟩) (by first | exact hbox | (simp; omega))).trans y1; have y2' : v1.cell? ⟨w.heap.size, 2, none⟩ = some (.int .i64 b12) := (hbu.cell (p := ⟨w.heap.size, 2, none⟩) (by first | exact hbox | (simp; omega))).trans y2) | (go_at_call 28; refine (toAppealRuling_any _ _ _ _).mono ?_; rintro e v2 ⟨rfl, hbt⟩; have hS2 := hS.below hbt) | (go_at_call 29; refine (addRuling_val _ _ _ _ _ _ _ _ _ _ K L co hL hco hK hS2.ints (Nat.le_refl _) (by omega)).mono ?_; rintro e u12 ⟨A12, c12, rfl, gn12, ho, hb3⟩))
    all_goals
      have ho12 := own_base ho (Nat.le_trans hbu.size hbt.size)
      have hb12 := hbu.trans ((hbt.mono hbu.size).trans (hb3.mono (Nat.le_trans hbu.size hbt.size)))
      clear ho hb3 hbt hbu hbv hS2 hS hW hc hI hbox
      try clear y0' y1' y2'
      clear y0 y1 y2
      have z12 := hb12.size
      have a0_12 := Lib.hid (a0_11.out.below (hb12.mono (by omega)))
      clear a0_11
      have bx_12 := Lib.hid (bx_11.out.below hb12)
      clear bx_11
      have rd_12 := Lib.hid (rd_11.out.below hb12)
      clear rd_11
      have rg_12 := Lib.hid (rg_11.out.below hb12)
      clear rg_11
      obtain ⟨g12, gl12, gm12, rh⟩ := Row.of_own ho12 (rfl)
      replace rh := Lib.hid rh
      clear ho12
      go_wp2_with fail
      refine (eqAppealRulingS_same _ _ _ _ _ _ _ _ rh.out.ints rd_12.out.ints (Nat.le_refl _) (by omega)).mono ?_
      rintro e u13 ⟨rfl, hb13⟩
      have z13 := hb13.size
      have a0_13 := Lib.hid (a0_12.out.below (hb13.mono (by omega)))
      clear a0_12
      have rd_13 := Lib.hid (rd_12.out.below hb13)
      clear rd_12
      have rg_13 := Lib.hid (rg_12.out.below hb13)
      clear rg_12
      have rh_13 := Lib.hid (rh.out.below hb13)
      clear rh
      go_wp2_with fail
      refine (heldAppealRulingS_any _ _ _ _ _ _ _ rg_13.out.ints (fun j _ => rfl) (by omega) (by omega)).mono ?_
      rintro e u14 ⟨rfl, hb14⟩
      have z14 := hb14.size
      have a0_14 := Lib.hid (a0_13.out.below (hb14.mono (by omega)))
      clear a0_13
      have rg_14 := Lib.hid (rg_13.out.below hb14)
      clear rg_13
      go_wp2
      go_ret
      exact ⟨rfl, ((Below.refl _ w).alloc (Nat.le_refl _) _).trans ((hb1.mono (by simp)).trans ((hb2.mono (by omega)).trans ((hb3.mono (by omega)).trans ((hb4.mono (by omega)).trans ((hb5.mono (by omega)).trans ((hb6.mono (by omega)).trans ((hb7.mono (by omega)).trans ((below_only hb8 (by omega) (fun k e => by injection e with e; omega)).trans ((hb9.mono (by omega)).trans ((below_only hb10 (by omega) (fun k e => by injection e with e; omega)).trans ((hb11.mono (by omega)).trans ((hb12.mono (by omega)).trans ((hb13.mono (by omega)).trans (hb14.mono (by omega)))))))))))))))⟩

/-! ### THE ROW's STEP -/
set_option maxRecDepth 100000 in
theorem lifted (os : Os) (started : os.Started) (H : Type) (enc : TypeId × Value → H) :
    ReturnsInHanded {} Try.checked os 8 .any (Rows.fnExactAddRulingSpec.pre6 enc Try.prog Try.f8 Rows.fnExactAddRulingRow.domain false) (Rows.fnExactAddRulingSpec.post enc Try.prog Try.f8 false true false false) := by
  refine returnsInHanded_of_change (C := Try.checked) own started (by kernel_rfl) Try.func8
    (ChangeSpec.witness6 (enc := enc) (C := Try.checked) false ⟨#[], #[.slice none 0 0, .agg #[.int .i64 0, .int .i64 0, .int .i64 0]], []⟩ 8 (by kernel_rfl) (by kernel_rfl) (by kernel_rfl) (by kernel_rfl)) ?_
  intro W base args ds gs before hval0 hW hcnd _
  have hval : ∀ (j : Nat) t v, Try.f8.params[j]? = some t → args[j]? = some v → Value.okWide Try.prog W .any base t v := hval0
  have hW' := hW
  obtain ⟨p, q, hA0, hV, rfl, hfz, hnd⟩ := hW
  have hA : DataW.TrodAll enc Try.prog W 0 (fun _ => true) true Try.f8.params.toList args.toList ds p := hA0
  rw [Try.params8] at hA hval
  obtain ⟨v0, vs0, d0, ds0, p0, q0, hargs, rfl, rfl, h0, r0⟩ := trodAll_cons hA
  obtain ⟨v1, vs1, d1, ds1, p1, q1, rfl, rfl, rfl, h1, r1⟩ := trodAll_cons r0
  obtain ⟨rfl, rfl, rfl⟩ := trodAll_nil r1
  obtain rfl : args = #[v0, v1] := by cases args; simp_all
  obtain ⟨rfl, rfl⟩ := trodVars_none hV
  obtain ⟨a0, len0, cap0, rfl⟩ := okWide_slice Try.underlying22 (hval 0 22 v0 rfl rfl)
  have k0 := h0
  have lt0 : ∀ x ∈ p0, x.block < W.heap.size := by obtain ⟨m, hm⟩ := k0; exact DataW.trod_lt m _ _ _ hm
  obtain ⟨m0, x0, w0, f0⟩ : len0 ≤ maxLen ∧ ∃ xs : Nat → Int, Ints W W.heap.size a0 (len0 * 3) xs ∧ ∀ j, j < len0 * 3 → (Lit.int .i64 (xs j)).wf = true := by
    obtain ⟨fuel, hf⟩ := h0
    simp only [Value.cells] at hf
    exact ints_of_structs (K := 3) Try.underlying22 Try.underlying41 (by kernel_rfl) (by kernel_rfl) rfl (fun j f hf => by
      match j, hf with
      | 0, hf => (cases hf; exact Try.underlying2)
      | 1, hf => (cases hf; exact Try.underlying2)
      | 2, hf => (cases hf; exact Try.underlying2)
      | n + 3, hf => simp at hf) hf
  have k1 := h1
  have lt1 : ∀ x ∈ p1, x.block < W.heap.size := by obtain ⟨m, hm⟩ := k1; exact DataW.trod_lt m _ _ _ hm
  obtain ⟨c10, c11, c12, y10, y11, y12, n1, rfl, rfl, rfl, hy10, hy11, hy12⟩ := open_agg3 Try.underlying41 (by kernel_rfl) (by kernel_rfl) (hval 1 41 v1 rfl rfl) h1
  obtain ⟨b10, e10, q10, w10⟩ := DataW.trod_int Try.underlying2 hy10
  injection e10 with e10 _
  subst e10
  obtain ⟨b11, e11, q11, w11⟩ := DataW.trod_int Try.underlying2 hy11
  injection e11 with e11 _
  subst e11
  obtain ⟨b12, e12, q12, w12⟩ := DataW.trod_int Try.underlying2 hy12
  injection e12 with e12 _
  subst e12
  clear hA0 hval0
  refine (walk a0 len0 cap0 x0 b10 b11 b12 W m0 w0 f0 w10 w11 w12).mono fun e W' ⟨he, bel⟩ => ?_
  subst he
  exact ⟨_, rfl, _, _, _, [], _, [], hW', trodAll_mk1 (shut_bool Try.underlying4 _), (trodAll_cons_mk (Below.trod laidOut (by kernel_rfl) (of_decide_eq_true (by kernel_rfl)) k0 bel lt0) (trodAll_cons_mk (Below.trod laidOut (by kernel_rfl) (of_decide_eq_true (by kernel_rfl)) k1 bel lt1) trodAll_mk0)), rfl, bel.frame _, fun h => by cases h⟩

theorem over : Rows.fnExactAddRulingRow.holds Try.pinned (OpenSpec.ofChange Rows.fnExactAddRulingSpec) :=
  OpenClaim.holds_of_wide 8 Try.f8 rfl rfl rfl rfl rfl rfl rfl ⟨rfl, rfl, rfl, rfl, rfl⟩ rfl rfl rfl rfl rfl (by kernel_rfl) Try.func8 (by kernel_rfl)
    (of_decide_eq_true (by kernel_rfl)) (by unfold Func.isWrapper; first | (rw [if_pos (by decide +kernel)]; kernel_rfl) | (rw [if_neg (by decide +kernel)]; exact ⟨rfl, rfl⟩))
    (fun os started H enc _ => lifted os started H enc)

/-- THE STATEMENT -/
theorem proved : Rows.FnExactAddRulingSaid :=
  over
#print axioms proved
end Go.Proofs.Yteacjoemlobmoaa.fnExactAddRuling
