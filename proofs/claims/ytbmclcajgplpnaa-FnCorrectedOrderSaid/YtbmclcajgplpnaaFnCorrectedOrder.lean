/- The law FnCorrectedOrder: for every input the call returns true, and each argument reads afterwards as it read before. No condition. -/
import Derived.Test.YtbmclcajgplpnaaOrd5
import Derived.Test.YtbmclcajgplpnaaIntL
import Derived.Test.YtbmclcajgplpnaaRows
import Derived.WalkKit
import Derived.ProofKit
import Derived.OpenShut
import Derived.ShutString
import Derived.ChangeOld
import Derived.Below
namespace Go.Proofs.Ytbmclcajgplpnaa.fnCorrectedOrder
open Go.ChangeShapes Go.WideShapes Go.ChangeAt Go.RowKit
open Go.ChangeMaps (open_string shut_string)
set_option linter.unusedVariables false

theorem own : ownKnob Try.prog.godebug = none := by kernel_rfl
theorem laidOut : laidOutB Try.prog = true := by kernel_rfl

/-- WHAT THE WALK IS TOLD OF A SLICE OF INTEGERS THAT CAME IN: it is nil; or it leads to a row of 'cap' cells, the numbers 'zs' (the first 'len' are its elements, the rest its spare room), each fitting its kind. -/
def IsRow (k : IntKind) (w : World) (a : Option Addr) (len cap : Nat) (zs : List Int) : Prop :=
  (a = none ∧ len = 0 ∧ cap = 0 ∧ zs = []) ∨
  ∃ x, a = some x ∧ len ≤ cap ∧ cap ≤ maxLen ∧ zs.length = cap ∧ (∀ i, i < zs.length → w.cell? (x.add i) = some (.int k (zs.getD i 0))) ∧ ∀ n ∈ zs, (Lit.int k n).wf = true

/-! ### STEP 1: THE WALK: the Go text returns true, AND WRITES NOTHING THAT WAS THERE: 'Below w.heap.size w w'' (Derived/Below.lean: '.refl', '.alloc', '.drew', '.setCell' at a new block, '.trans'). Open each 'IsRow' by 'rcases' AHEAD of 'go_enter'; part every test ahead of the walk. -/
set_option maxRecDepth 100000 in
set_option maxHeartbeats 8000000 in
theorem walk (a0 : Option Addr) (len0 cap0 : Nat) (z0 : List Int) (w : World) (w0 : IsRow .u8 w a0 len0 cap0 z0) :
    Calls Try.prog 8 #[.slice a0 len0 cap0] w fun e w' => e = .returned (.bool true) ∧ Below w.heap.size w w' := by
  obtain ⟨hc, hb⟩ := code_of w0
  by_cases hbig : 4096 < len0
  · go_enter Try.func8, Try.ntmps8
    go_wp2
    go_ret
    exact ⟨rfl, Below.refl _ _⟩
  clear w0
  go_enter Try.func8, Try.ntmps8
  go_wp2_with (first | (go_at_call 27; go_in) | fail)
  refine (drawCorrectedOrder_any _ _ _ _ _ hc (by omega) hb).mono ?_
  rintro e w1 ⟨bb, A, n, c, xs, A2, n2, c2, ys, rfl, n17, n217, hI1, hJ1, hb1⟩
  have z1 := hb1.size
  obtain ⟨co, hco⟩ : ∃ z, codF bb n xs n2 ys = z := ⟨_, rfl⟩
  obtain ⟨L, hL⟩ : ∃ z, coL bb n xs n2 ys = z := ⟨_, rfl⟩
  obtain ⟨K, hK⟩ : ∃ z, L.length = z := ⟨_, rfl⟩
  replace hco := Lib.hid hco
  replace hL := Lib.hid hL
  replace hK := Lib.hid hK
  clear hc hb
  go_wp2_with fail
  refine (correctedOrder_val _ _ _ _ _ _ _ _ _ _ _ w1 K L co hL hco hK hI1 (Nat.le_refl _) (by omega) hJ1 (Nat.le_refl _) (by omega)).mono ?_
  rintro e w2 ⟨A3, c3, rfl, gk, ho2, hb2⟩
  have z2 := hb2.size
  have hI2 := (hI1.below hb2).more hb2.size
  have hJ2 := (hJ1.below hb2).more hb2.size
  have hbb2 := hb1.trans (hb2.mono (B' := w.heap.size) (by omega))
  replace ho2 := Lib.hid ho2
  clear hI1 hJ1 hb1 hb2
  go_wp2_with fail
  refine (sCorrectedOrder_val _ _ _ _ _ _ _ _ _ _ _ w2 K L co hL hco hK hI2 (Nat.le_refl _) (by omega) hJ2 (Nat.le_refl _) (by omega)).mono ?_
  rintro e w3 ⟨A4, c4, rfl, -, ho4, hb3⟩
  have z3 := hb3.size
  have hI3 := (hI2.below hb3).more hb3.size
  have hJ3 := (hJ2.below hb3).more hb3.size
  have hbb3 := hbb2.trans (hb3.mono (B' := w.heap.size) (by omega))
  have ho3 := own_below ho2.out hb3
  have hla : Ints w3 w3.heap.size A3 K (fun j => L.getD j 0) := Ints.of_own ho3 (Nat.le_refl _) (by have := hK.out; simp; omega) (fun j hj => (cells_of ho3).2 j (by omega))
  have hlb : Ints w3 w3.heap.size A4 K (fun j => L.getD j 0) := Ints.of_own ho4 (Nat.le_refl _) (by have := hK.out; simp; omega) (fun j hj => (cells_of ho4).2 j (by omega))
  have hcall := Lib.hid (likeInts_any A3 A4 K c3 K c4 w3.heap.size L L w3 hla hlb hK.out hK.out (Nat.le_refl _) (by omega) (by omega) rfl)
  clear hI2 hJ2 hbb2 ho2 ho3 ho4 hb3 hlb
  replace hla := Lib.hid hla
  go_wp2_with fail
  refine hcall.out.mono ?_
  rintro e w4 ⟨rfl, hb4⟩
  have z4 := hb4.size
  have hI4 := (hI3.below hb4).more hb4.size
  have hJ4 := (hJ3.below hb4).more hb4.size
  have hl4 := Lib.hid ((hla.out.below hb4).more hb4.size)
  have hbb4 := hbb3.trans (hb4.mono (B' := w.heap.size) (by omega))
  clear hcall hI3 hJ3 hla hbb3 hb4
  by_cases h0 : co = 0
  · subst h0
    obtain ⟨e2, hn16, hf, hr⟩ := codF_0 hco.out
    obtain ⟨hm1, hnm, hisB⟩ : 1 ≤ n ∧ (n : Int) = bb ∧ isB bb n2 ys = true := by
      have h := hco.out
      unfold codF at h
      split at h
      · rename_i hr'
        have h3 := racB_t hr'
        split at h
        · rename_i hr2
          exact ⟨by omega, h3.2.2.1, hr2⟩
        · cases h
      · cases h
    subst hnm
    have hvb := vF_bd hco.out
    have hLL : ordF (vF xs ys) (fun k => xs (k.toNat * 3 + 1) == 0) n = L := by rw [← hL.out]; unfold coL; rw [if_pos hco.out]
    have hcnt : Hid (cntF xs n = K) := Lib.hid (by rw [← hK.out, ← hLL, cntF_len])
    have hKn : K ≤ n := by rw [← hcnt.out]; exact cntF_le _ _
    have hmem : ∀ j, j < K → (0 ≤ L.getD j 0 ∧ L.getD j 0 < n) ∧ xs ((L.getD j 0).toNat * 3 + 1) = 0 := fun j hj => by
      have hl : j < L.length := by rw [hK.out]; exact hj
      have h : L.getD j 0 ∈ L := by rw [List.getD_eq_getElem?_getD, List.getElem?_eq_getElem hl]; exact List.getElem_mem _
      rw [← hLL] at h
      have h2 := ordF_mem.1 h
      rw [hLL] at h2
      exact ⟨h2.1, beq_iff_eq.1 h2.2⟩
    have hpw : ∀ j, j + 1 < K → lexL (vF xs ys) (L.getD j 0) (L.getD (j + 1) 0) := fun j hj => by
      have hl : j + 1 < L.length := by rw [hK.out]; exact hj
      have h := ordF_pw (vF xs ys) (fun k => xs (k.toNat * 3 + 1) == 0) n
      rw [hLL] at h
      have h2 := List.pairwise_iff_getElem.1 h j (j + 1) (by omega) hl (Nat.lt_succ_self _)
      simpa [List.getD_eq_getElem?_getD, List.getElem?_eq_getElem hl, List.getElem?_eq_getElem (show j < L.length by omega)] using h2
    obtain ⟨L5, hL5⟩ : ∃ z, cfL n n xs n2 ys = z := ⟨_, rfl⟩
    have hL5' : cfTo xs ys n = L5 := by rw [← hL5]; unfold cfL; rw [if_pos hco.out]
    have hK5 : Hid (cfK n n xs n2 ys = n) := Lib.hid (by unfold cfK; rw [if_pos hco.out])
    have hat := cfTo_at xs ys n
    rw [hL5'] at hat
    have hl5 := cfTo_len xs ys n
    rw [hL5'] at hl5
    replace hL5 := Lib.hid hL5
    replace hvb := Lib.hid hvb
    replace hmem := Lib.hid hmem
    replace hpw := Lib.hid hpw
    replace hat := Lib.hid hat
    replace hl5 := Lib.hid hl5
    replace hf := Lib.hid hf
    replace hr := Lib.hid hr
    replace e2 := Lib.hid e2
    clear hLL hL5' hL
    go_wp2_with fail
    refine (correctFinishes_val _ _ _ _ _ _ _ _ _ _ _ w4 n L5 0 hL5 hco hK5 hI4 (Nat.le_refl _) (by omega) hJ4 (Nat.le_refl _) (by omega)).mono ?_
    rintro e w5 ⟨A5, c5, rfl, gk5, ho5, hb5⟩
    have z5 := hb5.size
    have hI5 := (hI4.below hb5).more hb5.size
    have hJ5 := (hJ4.below hb5).more hb5.size
    have hl5w := Lib.hid ((hl4.out.below hb5).more hb5.size)
    have hbb5 := hbb4.trans (hb5.mono (B' := w.heap.size) (by omega))
    have hO5 : Ints w5 w5.heap.size A5 (n * 3) (fun j => L5.getD j 0) := Ints.of_own ho5 (Nat.le_refl _) (by have := hl5.out; simp; omega) (fun j hj => (cells_of ho5).2 j (by omega))
    clear hI4 hJ4 hl4 hbb4 hb5 ho5
    replace hO5 := Lib.hid hO5
    go_wp2_with fail
    refine (countFinished_ok _ n c _ xs w5 hI5 (Nat.le_refl _) hn16 hf.out K hcnt).mono ?_
    rintro e w6 ⟨rfl, hb6⟩
    have z6 := hb6.size
    have hI6 := (hI5.below hb6).more hb6.size
    have hJ6 := (hJ5.below hb6).more hb6.size
    have hl6 := Lib.hid ((hl5w.out.below hb6).more hb6.size)
    have hO6 := Lib.hid ((hO5.out.below hb6).more hb6.size)
    have hbb6 := hbb5.trans (hb6.mono (B' := w.heap.size) (by omega))
    have hcall := isRatings_any n A2 n2 c2 _ ys w6 hJ6 (Nat.le_refl _) (by omega)
    rw [hisB] at hcall
    replace hcall := Lib.hid hcall
    clear hI5 hJ5 hl5w hO5 hbb5 hb6
    go_wp2_with fail
    refine hcall.out.mono ?_
    rintro e w7 ⟨rfl, hb7⟩
    have z7 := hb7.size
    have hI7 := Lib.hid ((hI6.below hb7).more hb7.size)
    have hJ7 := Lib.hid ((hJ6.below hb7).more hb7.size)
    have hl7 := Lib.hid ((hl6.out.below hb7).more hb7.size)
    have hO7 := Lib.hid ((hO6.out.below hb7).more hb7.size)
    have hbb7 := hbb6.trans (hb7.mono (B' := w.heap.size) (by omega))
    clear hcall hI6 hJ6 hl6 hO6 hbb6 hb7
    go_wp2_with fail
    go_loopw [14, 15, 16, 17, 18] (fun v14 _ _ _ _ wr => ∃ i : Nat, 1 ≤ i ∧ (i ≤ K ∨ i = 1) ∧ v14 = .int .i64 i ∧ Below w7.heap.size w7 wr) (fun v14 _ _ _ _ _ => (K - intOf v14).toNat)
    case atStart => exact ⟨1, by omega, by omega, rfl, Below.refl _ _⟩
    case round =>
      obtain ⟨i, hi1, hiK, rfl, hbr⟩ := hrel
      have hbrz := hbr.size
      by_cases hlt : i < K
      · have hlt' : (i : Int) < K := by omega
        obtain ⟨j, hj⟩ : ∃ j, j + 1 = i := ⟨i - 1, by omega⟩
        have hij : (i : Int) - 1 = j := by omega
        have hij2 : IntKind.i64.wrap ((i : Int) - 1) = j := by rw [IntKind.wrap_i64]; omega
        obtain ⟨⟨a0, a1⟩, ac⟩ := hmem.out j (by omega)
        obtain ⟨⟨d0, d1⟩, dc⟩ := hmem.out i hlt
        have hlex := hpw.out j (by omega)
        rw [hj] at hlex
        obtain ⟨bo, oo, rfl, hboB, hco1⟩ := hl7.out (by omega)
        obtain ⟨b1, o1, rfl, hb1B, hcx⟩ := hI7.out (by omega)
        obtain ⟨b2, o2, rfl, hb2B, hcy⟩ := hJ7.out (by have := e2.out; omega)
        obtain ⟨b3, o3, rfl, hb3B, hcz⟩ := hO7.out (by omega)
        have ca := hco1 j (by omega)
        have cd := hco1 i hlt
        obtain ⟨α, hα⟩ : ∃ α : Nat, L.getD j 0 = α := ⟨(L.getD j 0).toNat, by omega⟩
        obtain ⟨δ, hδ⟩ : ∃ δ : Nat, L.getD i 0 = δ := ⟨(L.getD i 0).toNat, by omega⟩
        simp only [hα] at a0 a1 ac ca hlex
        simp only [hδ] at d0 d1 dc cd hlex
        rw [Int.toNat_natCast] at ac dc
        have t1 := hf.out α (by omega)
        have t2 := hf.out δ (by omega)
        obtain ⟨-, -, -, -, ta⟩ := finB_t t1
        obtain ⟨-, -, -, -, td⟩ := finB_t t2
        obtain ⟨ta0, ta1⟩ := ta ac
        obtain ⟨td0, td1⟩ := td dc
        obtain ⟨ra0, ra1⟩ := hr.out α (by omega)
        obtain ⟨rd0, rd1⟩ := hr.out δ (by omega)
        obtain ⟨p0, p1⟩ := hvb.out α a0 a1
        obtain ⟨q0, q1⟩ := hvb.out δ d0 d1
        have hpv : vF xs ys α = xs (α * 3 + 2) * ys (α * 2 + 1) := by unfold vF; rw [Int.toNat_natCast]
        have hqv : vF xs ys δ = xs (δ * 3 + 2) * ys (δ * 2 + 1) := by unfold vF; rw [Int.toNat_natCast]
        have x1 := hcx (α * 3 + 2) (by omega)
        have x2 := hcx (δ * 3 + 2) (by omega)
        have y1 := hcy (α * 2 + 1) (by have := e2.out; omega)
        have y2 := hcy (δ * 2 + 1) (by have := e2.out; omega)
        have s1 := hcz (α * 3 + 2) (by omega)
        have s2 := hcz (δ * 3 + 2) (by omega)
        simp only [hat.out α (by omega), hat.out δ (by omega)] at s1 s2
        unfold corF at s1 s2
        rw [if_pos ac] at s1
        rw [if_pos dc] at s2
        unfold lexL at hlex
        unfold corV at s1 s2
        rw [← hpv] at s1
        rw [← hqv] at s2
        have hcmp := fun W => compareOk_any (xs (α * 3 + 2)) (ys (α * 2 + 1)) (xs (δ * 3 + 2)) (ys (δ * 2 + 1)) (vF xs ys α) (vF xs ys δ) hpv.symm hqv.symm ta0 ta1 ra0 ra1 td0 td1 rd0 rd1 p0 p1 q0 q1 W
        generalize vF xs ys α = p at *
        generalize vF xs ys δ = q at *
        generalize xs (α * 3 + 2) = xa at *
        generalize xs (δ * 3 + 2) = xd at *
        generalize ys (α * 2 + 1) = ya at *
        generalize ys (δ * 2 + 1) = yd at *
        have hle : max 1 (min 1000000000 ((p + 500) / 1000)) ≤ max 1 (min 1000000000 ((q + 500) / 1000)) := by omega
        generalize max 1 (min 1000000000 ((p + 500) / 1000)) = f1 at s1 hle
        generalize max 1 (min 1000000000 ((q + 500) / 1000)) = f2 at s2 hle
        have hsg : sgV (p - q) ≤ 0 ∧ (sgV (p - q) = 0 → α < δ) := by
          unfold sgV
          rcases hlex with h | h
          · rw [if_pos (by omega)]; omega
          · rw [if_neg (by omega), if_pos (by omega)]; omega
        generalize sgV (p - q) = s at hsg hcmp
        obtain ⟨hs0, hs1⟩ := hsg
        replace hcmp := Lib.hid hcmp
        have hα2 : (α : Int) < n2 := by have := e2.out; omega
        have hδ2 : (δ : Int) < n2 := by have := e2.out; omega
        have hcells : Hid (∀ W, Below w7.heap.size w7 W → W.cell? ⟨bo, oo + j, none⟩ = some (.int .i64 α) ∧ W.cell? ⟨bo, oo + i, none⟩ = some (.int .i64 δ) ∧ W.cell? ⟨b3, o3 + α * 3 + 2, none⟩ = some (.int .i64 f1) ∧ W.cell? ⟨b3, o3 + δ * 3 + 2, none⟩ = some (.int .i64 f2) ∧ W.cell? ⟨b1, o1 + α * 3 + 2, none⟩ = some (.int .i64 xa) ∧ W.cell? ⟨b1, o1 + δ * 3 + 2, none⟩ = some (.int .i64 xd) ∧ W.cell? ⟨b2, o2 + α * 2 + 1, none⟩ = some (.int .i64 ya) ∧ W.cell? ⟨b2, o2 + δ * 2 + 1, none⟩ = some (.int .i64 yd)) := Lib.hid (fun W hW => ⟨(hW.cell (by simp; omega)).trans ca, (hW.cell (by simp; omega)).trans cd, (hW.cell (by simp; omega)).trans s1, (hW.cell (by simp; omega)).trans s2, (hW.cell (by simp; omega)).trans x1, (hW.cell (by simp; omega)).trans x2, (hW.cell (by simp; omega)).trans y1, (hW.cell (by simp; omega)).trans y2⟩)
        clear ca cd s1 s2 x1 x2 y1 y2 hco1 hcx hcy hcz hlex hpv hqv hα hδ ta td t1 t2 ac dc
        have C1 : ∀ u : Over wr, u.w.cell? ⟨bo, oo + j, none⟩ = some (.int .i64 α) := fun u => (hcells.out u.w (hbr.trans (u.ok.mono hbrz))).1
        have C2 : ∀ u : Over wr, u.w.cell? ⟨bo, oo + i, none⟩ = some (.int .i64 δ) := fun u => (hcells.out u.w (hbr.trans (u.ok.mono hbrz))).2.1
        go_wp2_with fail
        refine wp_region_over (by kernel_rfl) (by kernel_rfl) ?_
        repeat (go_big_quiet_step (fail))
        refine wpQuiet_nil ?_
        rintro _ ⟨u, rfl⟩
        clear C1 C2
        have hbu := hbr.trans (u.ok.mono hbrz)
        have hbuz := hbu.size
        have C1 : ∀ u2 : Over u.w, u2.w.cell? ⟨b3, o3 + α * 3 + 2, none⟩ = some (.int .i64 f1) := fun u2 => (hcells.out u2.w (hbu.trans (u2.ok.mono hbuz))).2.2.1
        have C2 : ∀ u2 : Over u.w, u2.w.cell? ⟨b3, o3 + δ * 3 + 2, none⟩ = some (.int .i64 f2) := fun u2 => (hcells.out u2.w (hbu.trans (u2.ok.mono hbuz))).2.2.2.1
        have hngt : ¬ (f2 < f1) := by omega
        go_wp2_with fail
        refine wp_region_over (by kernel_rfl) (by kernel_rfl) ?_
        repeat (go_big_quiet_step (fail))
        refine wpQuiet_nil ?_
        rintro _ ⟨u2, rfl⟩
        clear C1 C2
        have hbu2 := hbu.trans (u2.ok.mono hbuz)
        have hbu2z := hbu2.size
        have C1 : ∀ u3 : Over u2.w, u3.w.cell? ⟨b1, o1 + α * 3 + 2, none⟩ = some (.int .i64 xa) := fun u3 => (hcells.out u3.w (hbu2.trans (u3.ok.mono hbu2z))).2.2.2.2.1
        have C2 : ∀ u3 : Over u2.w, u3.w.cell? ⟨b1, o1 + δ * 3 + 2, none⟩ = some (.int .i64 xd) := fun u3 => (hcells.out u3.w (hbu2.trans (u3.ok.mono hbu2z))).2.2.2.2.2.1
        have C3 : ∀ u3 : Over u2.w, u3.w.cell? ⟨b2, o2 + α * 2 + 1, none⟩ = some (.int .i64 ya) := fun u3 => (hcells.out u3.w (hbu2.trans (u3.ok.mono hbu2z))).2.2.2.2.2.2.1
        have C4 : ∀ u3 : Over u2.w, u3.w.cell? ⟨b2, o2 + δ * 2 + 1, none⟩ = some (.int .i64 yd) := fun u3 => (hcells.out u3.w (hbu2.trans (u3.ok.mono hbu2z))).2.2.2.2.2.2.2
        go_wp2_with fail
        refine wp_region_over (by kernel_rfl) (by kernel_rfl) ?_
        repeat (go_big_quiet_step ((go_at_call 37; exact over_call (hcmp.out _))))
        refine wpQuiet_nil ?_
        rintro _ ⟨u3, rfl⟩
        clear C1 C2 C3 C4
        have hbu3 := hbu2.trans (u3.ok.mono hbu2z)
        by_cases hsz : s = 0
        · subst hsz
          have hαδ : ¬ ((δ : Int) < α) := by have := hs1 rfl; omega
          go_wp2
          go_roundw
          case rel => exact ⟨i + 1, by omega, by omega, by go_num, hbu3⟩
          case measure => simp [intOf]; omega
        · have hsn : ¬ (0 < s) := by omega
          have hsz0 : (s == 0) = false := by rw [beq_eq_false_iff_ne]; exact hsz
          go_wp2
          go_roundw
          case rel => exact ⟨i + 1, by omega, by omega, by go_num, hbu3⟩
          case measure => simp [intOf]; omega
      · have hnlt : ¬ ((i : Int) < K) := by omega
        go_wp2
        go_ret
        exact ⟨rfl, hbb7.trans (hbr.mono (by omega))⟩
  · have hne : (co != 0) = true := by rw [bne, beq_eq_false_iff_ne.2 h0]; rfl
    go_wp2
    go_ret
    exact ⟨rfl, hbb4⟩

/-! ### THE ROW's STEP: WRITTEN OUT: LEAVE IT -/
set_option maxRecDepth 100000 in
theorem lifted (os : Os) (started : os.Started) (H : Type) (enc : TypeId × Value → H) :
    ReturnsInHanded {} Try.checked os 8 .any (Rows.fnCorrectedOrderSpec.pre6 enc Try.prog Try.f8 Rows.fnCorrectedOrderRow.domain false) (Rows.fnCorrectedOrderSpec.post enc Try.prog Try.f8 false true false false) := by
  refine returnsInHanded_of_change (C := Try.checked) own started (by kernel_rfl) Try.func8
    (ChangeSpec.witness6 (enc := enc) (C := Try.checked) false ⟨#[], #[.slice none 0 0], []⟩ 8 (by kernel_rfl) (by kernel_rfl) (by kernel_rfl) (by kernel_rfl)) ?_
  intro W base args ds gs before hval0 hW hcnd _
  have hval : ∀ (j : Nat) t v, Try.f8.params[j]? = some t → args[j]? = some v → Value.okWide Try.prog W .any base t v := hval0
  have hW' := hW
  obtain ⟨p, q, hA0, hV, rfl, hfz, hnd⟩ := hW
  have hA : DataW.TrodAll enc Try.prog W 0 (fun _ => true) true Try.f8.params.toList args.toList ds p := hA0
  rw [Try.params8] at hA hval
  obtain ⟨v0, vs0, d0, ds0, p0, q0, hargs, rfl, rfl, h0, r0⟩ := trodAll_cons hA
  obtain ⟨rfl, rfl, rfl⟩ := trodAll_nil r0
  obtain rfl : args = #[v0] := by cases args; simp_all
  obtain ⟨rfl, rfl⟩ := trodVars_none hV
  obtain ⟨a0, len0, cap0, rfl⟩ := okWide_slice Try.underlying45 (hval 0 45 v0 rfl rfl)
  have k0 := h0
  have lt0 : ∀ x ∈ p0, x.block < W.heap.size := by obtain ⟨m, hm⟩ := k0; exact DataW.trod_lt m _ _ _ hm
  obtain ⟨z0, w0⟩ : ∃ zs, IsRow .u8 W a0 len0 cap0 zs := by
    obtain ⟨fuel, hf⟩ := h0
    rcases open_ints Try.underlying45 Try.underlying5 (by kernel_rfl) hf with ⟨hcs, _⟩ | ⟨x, l, c, zs, hcs, _, hl, hm, hz, _, hcell, hwz⟩
    · simp [Value.cells] at hcs
      obtain ⟨rfl, rfl, rfl⟩ := hcs
      exact ⟨[], .inl ⟨rfl, rfl, rfl, rfl⟩⟩
    · simp [Value.cells] at hcs
      obtain ⟨rfl, rfl, rfl⟩ := hcs
      exact ⟨zs, .inr ⟨_, rfl, hl, hm, by simpa using hz, hcell, hwz⟩⟩
  clear hA0 hval0
  refine (walk a0 len0 cap0 z0 W w0).mono fun e W' ⟨he, bel⟩ => ?_
  subst he
  exact ⟨_, rfl, _, _, _, [], _, [], hW', trodAll_mk1 (shut_bool Try.underlying4 _), (trodAll_cons_mk (Below.trod laidOut (by kernel_rfl) (of_decide_eq_true (by kernel_rfl)) k0 bel lt0) trodAll_mk0), rfl, bel.frame _, fun h => by cases h⟩

theorem over : Rows.fnCorrectedOrderRow.holds Try.pinned (OpenSpec.ofChange Rows.fnCorrectedOrderSpec) :=
  OpenClaim.holds_of_wide 8 Try.f8 rfl rfl rfl rfl rfl rfl rfl ⟨rfl, rfl, rfl, rfl, rfl⟩ rfl rfl rfl rfl rfl (by kernel_rfl) Try.func8 (by kernel_rfl)
    (of_decide_eq_true (by kernel_rfl)) (by unfold Func.isWrapper; first | (rw [if_pos (by decide +kernel)]; kernel_rfl) | (rw [if_neg (by decide +kernel)]; exact ⟨rfl, rfl⟩))
    (fun os started H enc _ => lifted os started H enc)

/-- THE STATEMENT -/
theorem proved : Rows.FnCorrectedOrderSaid := over
#print axioms proved
end Go.Proofs.Ytbmclcajgplpnaa.fnCorrectedOrder
