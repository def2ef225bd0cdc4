/- The ratings' text: the program's and the reference's. -/
import Derived.Test.YtbmclcajgplpnaaDoorTxt
import Derived.Test.YtbmclcajgplpnaaDoorJn
import Derived.Test.YtbmclcajgplpnaaDoorRat
import Derived.Test.YtbmclcajgplpnaaDoorInv
set_option linter.unusedSimpArgs false
set_option linter.unusedVariables false
namespace Go.Proofs.YtbmclcajgplpnaaDoor
open Go.RowKit Go.Shelf

def wdR (xs : Nat → Int) : Nat → List ByteArray
  | 0 => []
  | k + 1 => wdR xs k ++ [dd (xs (k * 2 + 1))]
def txR (xs : Nat → Int) : Nat → ByteArray
  | 0 => ⟨#[]⟩
  | k + 1 => (if k = 0 then txR xs k else txR xs k ++ ByteArray.mk #[32]) ++ dd (xs (k * 2 + 1))
def rtT (m : Int) (n : Nat) (xs : Nat → Int) : ByteArray := if isB m n xs = true then txR xs n else ⟨#[]⟩
theorem wdR_len (xs : Nat → Int) : ∀ k, (wdR xs k).length = k
  | 0 => rfl
  | k + 1 => by unfold wdR; rw [List.length_append, wdR_len xs k]; rfl
theorem join_snoc (l : List (List UInt8)) (x sep : List UInt8) : Lib.join (l ++ [x]) sep = if l = [] then x else Lib.join l sep ++ sep ++ x := by
  cases l with
  | nil => rw [if_pos rfl]; exact Lib.join_one _ _
  | cons y r =>
    rw [if_neg (by simp), List.cons_append, Lib.join_cons, Lib.join_cons]
    simp [Lib.joinTail, List.append_assoc]
theorem tx_join (xs : Nat → Int) : ∀ n, Lib.join ((wdR xs n).map (·.data.toList)) [32] = (txR xs n).data.toList
  | 0 => rfl
  | n + 1 => by
    have ih := tx_join xs n
    unfold wdR txR
    rw [List.map_append, List.map_cons, List.map_nil, join_snoc, ih]
    cases n with
    | zero => rw [if_pos rfl, if_pos (show List.map (fun x : ByteArray => x.data.toList) (wdR xs 0) = [] from rfl)]; show _ = (ByteArray.mk #[] ++ dd _).data.toList; simp [ByteArray.data_append]
    | succ n =>
      rw [if_neg (by unfold wdR; simp), if_neg (by omega)]
      simp [ByteArray.data_append, List.append_assoc]
theorem txR_size {xs : Nat → Int} : ∀ n, (∀ i, i < n → 0 ≤ xs (i * 2 + 1) ∧ xs (i * 2 + 1) ≤ 3000) → (txR xs n).size ≤ n * 22
  | 0, _ => Nat.le_refl _
  | n + 1, h => by
    have ih := txR_size n (fun i hi => h i (by omega))
    have hd := dd_size (h n (by omega)).1 (by have := (h n (by omega)).2; omega)
    have h1 : (ByteArray.mk #[32]).size = 1 := rfl
    unfold txR
    rw [ByteArray.size_append]
    split
    · omega
    · rw [ByteArray.size_append]; omega
theorem dd_step {u : Nat} (h : ¬ u < 10) : dd (u : Int) = dd ((u / 10 : Nat) : Int) ++ ByteArray.mk #[UInt8.ofNat (48 + u % 10)] := by
  have key : Lib.decDigits u = Lib.decDigits (u / 10) ++ [UInt8.ofNat (48 + u % 10)] := by rw [Lib.decDigits, dif_neg h]
  unfold dd
  rw [Int.toNat_natCast, Int.toNat_natCast, key]
  apply ByteArray.ext
  simp [ByteArray.data_append]
theorem dd_one {u : Nat} (h : u < 10) : dd (u : Int) = ByteArray.mk #[UInt8.ofNat (48 + u)] := by
  have key : Lib.decDigits u = [UInt8.ofNat (48 + u)] := by rw [Lib.decDigits, dif_pos h]
  unfold dd
  rw [Int.toNat_natCast, key]
theorem conv1 {W : World} {g q : Nat} (hq : q < 10) (h : Whole W g 5 #[.int .u8 (48 + (q : Int))]) : (convert 40 9 (.slice (some ⟨g, 0, none⟩) 1 1)).run Tryd.prog W = .ok (.string (ByteArray.mk #[UInt8.ofNat (48 + q)])) W := by
  have hu8 : (UInt8.ofNat (48 + q)).toNat = 48 + q := by simp; omega
  refine run_convert_bytes_back (P := Tryd.prog) W 40 9 5 ⟨g, 0, none⟩ 1 [UInt8.ofNat (48 + q)] Tryd.underlying40 Tryd.underlying5 Tryd.underlying9 (fun j hj => ?_)
  have hj : j = 0 := by simpa using hj
  subst hj
  have := h.cell 0
  simp only [List.getElem_cons_zero, hu8]
  simpa [Addr.add] using this

def l01D : Nat → Nat
  | 0 => 10
  | 1 => 11
  | 2 => 12
  | 3 => 13
  | 4 => 14
  | 5 => 15
  | 6 => 16
  | 7 => 17
  | 8 => 18
  | 9 => 19
  | 10 => 2
  | _ => 0
def l01G (u q d : Nat) (D1 D2 : ByteArray) : Nat → Value → World → Prop
  | 0, y, W => y = .int .i64 u
  | 1, y, W => y = .int .i64 d
  | 2, y, W => y = .string D1
  | 3, y, W => y = .int .i64 u
  | 4, y, W => y = .int .i64 q
  | 5, y, W => y = .int .i64 (48 + q)
  | 6, y, W => y = .int .u8 (48 + q)
  | 7, y, W => ∃ g, y = .slice (some ⟨g, 0, none⟩) 1 1 ∧ Whole W g 5 #[.int .u8 (48 + (q : Int))]
  | 8, y, W => y = .string D2
  | 9, y, W => y = .string (D1 ++ D2)
  | 10, y, W => y = .string (D1 ++ D2)
  | _, _, _ => True
theorem l01_be {u q d : Nat} {D1 D2 : ByteArray} {w w' : World} (hb : Below w.heap.size w w') : ∀ {j : Nat} {y : Value}, l01G u q d D1 D2 j y w → l01G u q d D1 D2 j y w'
  | 7, _, ⟨g, h1, h2⟩ => ⟨g, h1, h2.below hb h2.lt⟩
  | 0, _, h => h
  | 1, _, h => h
  | 2, _, h => h
  | 3, _, h => h
  | 4, _, h => h
  | 5, _, h => h
  | 6, _, h => h
  | 8, _, h => h
  | 9, _, h => h
  | 10, _, h => h
  | _ + 11, _, h => h
set_option maxRecDepth 100000 in
set_option maxHeartbeats 4000000 in
theorem l01_nat : ∀ (k u : Nat), u < k → u ≤ 9223372036854775807 → ∀ w : World, Calls Tryd.prog 10 #[.int .i64 u] w fun e w' => e = .returned (.string (dd (u : Int))) ∧ Below w.heap.size w w' := by
  intro k
  induction k with
  | zero => intro u h; omega
  | succ k ih =>
  intro u hu hb w
  by_cases h10 : u < 10
  · have hW := Whole.new w 5 #[.int .u8 (48 + (u : Int))]
    have hcv := conv1 h10 hW
    rw [← dd_one h10] at hcv
    have hwr : IntKind.i64.wrap (48 + (u : Int)) = 48 + u := by rw [IntKind.wrap_i64]; omega
    have hwu : IntKind.u8.wrap (48 + (u : Int)) = 48 + u := by rw [IntKind.wrap_u8]; omega
    generalize dd (u : Int) = S at *
    go_enter Tryd.func10, Tryd.ntmps10
    go_wp2
    go_ret
    exact ⟨rfl, (Below.refl _ _).alloc (Nat.le_refl _) _⟩
  · have hS := dd_step h10
    obtain ⟨d, hd0⟩ : ∃ d, u / 10 = d := ⟨_, rfl⟩
    rw [hd0] at hS
    have hcall := ih d (by omega) (by omega)
    have hz1 := dd_size (n := (d : Int)) (by omega) (by omega)
    obtain ⟨q, hq0⟩ : ∃ q, u % 10 = q := ⟨_, rfl⟩
    have hq : q < 10 := by omega
    rw [hq0] at hS
    have hz2 : (ByteArray.mk #[UInt8.ofNat (48 + q)]).size = 1 := rfl
    obtain ⟨D2, hD2⟩ : ∃ z, ByteArray.mk #[UInt8.ofNat (48 + q)] = z := ⟨_, rfl⟩
    obtain ⟨D1, hD1⟩ : ∃ z, dd (d : Int) = z := ⟨_, rfl⟩
    rw [hD1] at hS hcall hz1
    rw [hD2] at hS hz2
    rw [hS]
    have hmod : ((u : Int).tmod 10) = (q : Int) := by rw [Int.tmod_eq_emod_of_nonneg (by omega)]; omega
    have hdiv : ((u : Int).tdiv 10) = (d : Int) := by rw [Int.tdiv_eq_ediv_of_nonneg (by omega)]; omega
    have hdiv2 : (u : Int) / 10 = d := by omega
    have hmod2 : (u : Int) % 10 = q := by omega
    have hwd : IntKind.i64.wrap (d : Int) = d := by rw [IntKind.wrap_i64]; omega
    have hwr : IntKind.i64.wrap (48 + (q : Int)) = 48 + q := by rw [IntKind.wrap_i64]; omega
    have hwu : IntKind.u8.wrap (48 + (q : Int)) = 48 + q := by rw [IntKind.wrap_u8]; omega
    have c1 : ¬ (9223372036854775807 < D1.size + D2.size) := by omega
    have c2 : ¬ (9223372036854775807 < D1.size + 1) := by omega
    have hge : ¬ ((u : Int) < 10) := by omega
    replace hcall := Lib.hid hcall
    replace hD2 := Lib.hid hD2
    clear hS hD1
    go_enter Tryd.func10, Tryd.ntmps10
    go_wp2_with fail
    refine wp_region_inv (fun L x wx => Below w.heap.size w wx ∧ Held l01D (l01G u q d D1 D2) 11 L x wx) [2, 10, 11, 12, 13, 14, 15, 16, 17, 18, 19] [[], [0], [1], [], [3], [4], [5], [6], [7], [2, 8], [9, 2, 0, 1, 2, 3, 4, 5, 6, 7, 8, 9]] (by kernel_rfl) (by kernel_rfl) (by kernel_rfl) ?_ ?_ ?_
    · intro x
      exact ⟨(Below.refl _ _).drew, Held.none⟩
    · rintro L x wx ⟨hB, hH⟩
      have hBz := hB.size
      refine ⟨InvAt.mk rfl (by simp) ?_, InvAt.mk rfl (by simp) ?_, InvAt.mk rfl (by simp) ?_, InvAt.mk rfl (by simp) ?_, InvAt.mk rfl (by simp) ?_, InvAt.mk rfl (by simp) ?_, InvAt.mk rfl (by simp) ?_, InvAt.mk rfl (by simp) ?_, InvAt.mk rfl (by simp) ?_, InvAt.mk rfl (by simp) ?_, InvAt.mk rfl (by simp) ?_, trivial⟩
      · intro hL hd K hK
        simp only [fillA, fillL]
        go_simp
        exact hK (.int .i64 u) _ _ ⟨hB, hH.step 0 10 _ rfl (by decide) (fun j y h => h) rfl⟩ rfl
      · intro hL hd K hK
        have e0 : x 10 = .int .i64 u := hH 0 (by omega) (hd 0 (by simp))
        simp only [fillA, fillL]
        simp only [e0]
        simp only [fillA, fillL, e0] at hK
        go_simp
        exact hK (.int .i64 d) _ _ ⟨hB, hH.step 1 11 _ rfl (by decide) (fun j y h => h) rfl⟩ rfl
      · intro hL hd K hK
        have e1 : x 11 = .int .i64 d := hH 1 (by omega) (hd 1 (by simp))
        simp only [fillA, fillL]
        simp only [e1]
        simp only [fillA, fillL, e1] at hK
        go_simp
        go_at_call 10
        refine (hcall.out wx).mono ?_
        rintro e wy ⟨rfl, hby⟩
        exact hK (.string D1) _ _ ⟨hB.trans (hby.mono hBz), hH.step 2 12 _ rfl (by decide) (fun j y h => l01_be hby h) rfl⟩ rfl
      · intro hL hd K hK
        simp only [fillA, fillL]
        go_simp
        exact hK (.int .i64 u) _ _ ⟨hB, hH.step 3 13 _ rfl (by decide) (fun j y h => h) rfl⟩ rfl
      · intro hL hd K hK
        have e3 : x 13 = .int .i64 u := hH 3 (by omega) (hd 3 (by simp))
        simp only [fillA, fillL]
        simp only [e3]
        simp only [fillA, fillL, e3] at hK
        go_simp
        exact hK (.int .i64 q) _ _ ⟨hB, hH.step 4 14 _ rfl (by decide) (fun j y h => h) rfl⟩ rfl
      · intro hL hd K hK
        have e4 : x 14 = .int .i64 q := hH 4 (by omega) (hd 4 (by simp))
        simp only [fillA, fillL]
        simp only [e4]
        simp only [fillA, fillL, e4] at hK
        go_simp
        exact hK (.int .i64 (48 + q)) _ _ ⟨hB, hH.step 5 15 _ rfl (by decide) (fun j y h => h) rfl⟩ rfl
      · intro hL hd K hK
        have e5 : x 15 = .int .i64 (48 + q) := hH 5 (by omega) (hd 5 (by simp))
        simp only [fillA, fillL]
        simp only [e5]
        simp only [fillA, fillL, e5] at hK
        go_simp
        exact hK (.int .u8 (48 + q)) _ _ ⟨hB, hH.step 6 16 _ rfl (by decide) (fun j y h => h) rfl⟩ rfl
      · intro hL hd K hK
        have e6 : x 16 = .int .u8 (48 + q) := hH 6 (by omega) (hd 6 (by simp))
        simp only [fillA, fillL]
        simp only [e6]
        simp only [fillA, fillL, e6] at hK
        go_simp
        refine hK (.slice (some ⟨wx.heap.size, 0, none⟩) 1 1) _ _ ⟨hB.alloc hBz _, hH.step 7 17 _ rfl (by decide) (fun j y h => l01_be ((Below.refl wx.heap.size wx).alloc (Nat.le_refl _) _) h) ⟨wx.heap.size, rfl, Whole.new _ _ _⟩⟩ rfl
      · intro hL hd K hK
        obtain ⟨g, e7, hg⟩ : ∃ g, x 17 = .slice (some ⟨g, 0, none⟩) 1 1 ∧ Whole wx g 5 #[.int .u8 (48 + (q : Int))] := (hH 7 (by omega) (hd 7 (by simp)))
        have hcv := conv1 hq hg
        rw [hD2.out] at hcv
        simp only [fillA, fillL]
        simp only [e7]
        simp only [fillA, fillL, e7] at hK
        go_simp
        exact hK (.string D2) _ _ ⟨hB, hH.step 8 18 _ rfl (by decide) (fun j y h => h) rfl⟩ rfl
      · intro hL hd K hK
        have e2 : x 12 = .string D1 := hH 2 (by omega) (hd 2 (by simp))
        have e8 : x 18 = .string D2 := hH 8 (by omega) (hd 8 (by simp))
        simp only [fillA, fillL]
        simp only [e2, e8]
        simp only [fillA, fillL, e2, e8] at hK
        go_simp
        exact hK (.string (D1 ++ D2)) _ _ ⟨hB, hH.step 9 19 _ rfl (by decide) (fun j y h => h) rfl⟩ rfl
      · intro hL hd K hK
        have e9 : x 19 = .string (D1 ++ D2) := hH 9 (by omega) (hd 9 (by simp))
        simp only [fillA, fillL]
        simp only [e9]
        simp only [fillA, fillL, e9] at hK
        go_simp
        exact hK (.string (D1 ++ D2)) _ _ ⟨hB, hH.step 10 2 _ rfl (by decide) (fun j y h => h) rfl⟩ rfl
    · rintro x wx ⟨hB, hH⟩
      have eS : x 2 = .string (D1 ++ D2) := hH 10 (by omega) (by rfl)
      clear hH hcall
      simp only [fillA, fillL, eS]
      go_wp2
      go_ret
      exact ⟨rfl, hB⟩
theorem l01Number_any (n : Int) (h0 : 0 ≤ n) (h1 : n ≤ 9223372036854775807) (w : World) : Calls Tryd.prog 10 #[.int .i64 n] w fun e w' => e = .returned (.string (dd n)) ∧ Below w.heap.size w w' := by
  obtain ⟨u, rfl⟩ : ∃ u : Nat, n = u := ⟨n.toNat, by omega⟩
  exact l01_nat (u + 1) u (by omega) (by omega) w
set_option maxRecDepth 100000 in
set_option maxHeartbeats 4000000 in
theorem sRatingsText_val (m : Int) (A : Option Addr) (n c B : Nat) (xs : Nat → Int) (S : ByteArray) (hS : Hid (rtT m n xs = S)) (w : World) (hx : Ints w B A (n * 2) xs) (hB : B ≤ w.heap.size) (hn : n ≤ 9223372036854775807) :
    Calls Tryd.prog 5 #[.int .i64 m, .slice A n c] w fun e w' => e = .returned (.string S) ∧ Below w.heap.size w w' := by
  have hcall := fun (W : World) (hb : Below w.heap.size w W) => sIsRatings_any m A n c B xs W (hx.below (hb.mono hB)) (Nat.le_trans hB hb.size) hn
  have hS' := hS.out
  unfold rtT at hS'
  cases hr : isB m n xs with
  | false =>
    rw [hr] at hcall hS'
    rw [if_neg (by simp)] at hS'
    subst hS'
    replace hcall := Lib.hid hcall
    go_enter Tryd.func5, Tryd.ntmps5
    go_wp2_with fail
    go_loopw [5, 6] (fun v5 v6 wr => v5 = .string ⟨#[]⟩ ∧ v6 = .int .i64 0 ∧ Below w.heap.size w wr) (fun _ _ _ => 0)
    case atStart => exact ⟨rfl, rfl, Below.refl _ _⟩
    case round =>
      obtain ⟨rfl, rfl, hbel⟩ := hrel
      by_cases h0 : n = 0
      · subst h0
        go_wp2
        go_ret
        exact ⟨rfl, hbel⟩
      · have hlt : (0 : Int) < n := by omega
        go_wp2_with fail
        refine (hcall.out _ hbel).mono ?_
        rintro e w2 ⟨rfl, hb2⟩
        go_wp2
        go_ret
        exact ⟨rfl, hbel.trans (hb2.mono hbel.size)⟩
  | true =>
    rw [hr] at hcall hS'
    rw [if_pos rfl] at hS'
    obtain ⟨m1, m16, hnm, hval⟩ := isB_t hr
    have hsz : ∀ k, k ≤ n → (txR xs k).size ≤ k * 22 := fun k hk => txR_size k (fun i hi => by have := hval i (by omega); omega)
    replace hcall := Lib.hid hcall
    replace hval := Lib.hid hval
    replace hS' := Lib.hid hS'
    replace hsz := Lib.hid hsz
    replace hx := Lib.hid hx
    clear hS hr
    go_enter Tryd.func5, Tryd.ntmps5
    go_wp2_with fail
    go_loopw [5, 6] (fun v5 v6 wr => ∃ (k : Nat) (T1 : ByteArray), k ≤ n ∧ Hid (txR xs k = T1) ∧ v5 = .string T1 ∧ v6 = .int .i64 k ∧ Below w.heap.size w wr) (fun _ v6 _ => (n - intOf v6).toNat)
    case atStart => exact ⟨0, ⟨#[]⟩, by omega, Lib.hid rfl, rfl, rfl, Below.refl _ _⟩
    case round =>
      obtain ⟨k, T1, hk, hT1, rfl, rfl, hbel⟩ := hrel
      have hbz := hbel.size
      by_cases hlt : k < n
      · have hlt' : (k : Int) < n := by omega
        obtain ⟨b, off, rfl, hadB, hcode⟩ := hx.out (by omega)
        have g1 : w.cell? ⟨b, off + k * 2 + 1, none⟩ = some (.int .i64 (xs (k * 2 + 1))) := hcode (k * 2 + 1) (by omega)
        obtain ⟨-, v1, v2⟩ := hval.out k hlt
        have hnum := fun W => l01Number_any (xs (k * 2 + 1)) (by omega) (by omega) W
        have hz := hsz.out k hk
        rw [hT1.out] at hz
        have hdz := dd_size (n := xs (k * 2 + 1)) (by omega) (by omega)
        have hnext : (if k = 0 then T1 else T1 ++ ByteArray.mk #[32]) ++ dd (xs (k * 2 + 1)) = txR xs (k + 1) := by rw [← hT1.out]; rfl
        generalize xs (k * 2 + 1) = z at g1 v1 v2 hnum hdz hnext
        generalize dd z = D at hnum hdz hnext
        replace hnext := Lib.hid hnext
        clear hT1
        replace g1 := Lib.hid g1
        replace hnum := Lib.hid hnum
        have s1 : (ByteArray.mk #[32]).size = 1 := rfl
        clear hcode
        go_wp2_with fail
        refine (hcall.out _ hbel).mono ?_
        rintro e w2 ⟨rfl, hb2⟩
        have hbb := hbel.trans (hb2.mono hbel.size)
        have q1 : w2.cell? ⟨b, off + k * 2 + 1, none⟩ = some (.int .i64 z) := by rw [hbb.cell (by simp; omega)]; exact g1.out
        clear hbel hb2
        by_cases h0 : k = 0
        · subst h0
          replace hnext : Hid (txR xs 1 = T1 ++ D) := Lib.hid (by have h := hnext.out; simpa using h.symm)
          have c1 : ¬ (9223372036854775807 < T1.size + D.size) := by omega
          go_wp2_with fail
          refine (hnum.out _).mono ?_
          rintro e w3 ⟨rfl, hb3⟩
          have hbb3 := hbb.trans (hb3.mono hbb.size)
          clear hbb hb3 q1
          go_wp2
          go_roundw
          case rel => exact ⟨1, _, by omega, hnext, rfl, by go_num, hbb3⟩
          case measure => simp [intOf]; omega
        · have hk0 : (0 : Int) < k := by omega
          replace hnext : Hid (txR xs (k + 1) = T1 ++ ByteArray.mk #[32] ++ D) := Lib.hid (by rw [← hnext.out, if_neg h0])
          have c1 : ¬ (9223372036854775807 < T1.size + 1) := by omega
          have c2 : ¬ (9223372036854775807 < T1.size + 1 + D.size) := by omega
          go_wp2_with fail
          refine (hnum.out _).mono ?_
          rintro e w3 ⟨rfl, hb3⟩
          have hbb3 := hbb.trans (hb3.mono hbb.size)
          clear hbb hb3 q1
          go_wp2
          go_roundw
          case rel => exact ⟨k + 1, _, by omega, hnext, rfl, by go_num, hbb3⟩
          case measure => simp [intOf]; omega
      · obtain rfl : k = n := by omega
        have hnlt : ¬ ((k : Int) < k) := by omega
        have hTS : T1 = S := hT1.out.symm.trans hS'.out
        subst hTS
        go_wp2
        go_ret
        exact ⟨rfl, hbel⟩
theorem pow3 {w u1 u2 u3 : World} (hT : Pow w w.heap.size) (h1 : Below w.heap.size w u1) (h2 : Below u1.heap.size u1 u2) (h3 : Below u2.heap.size u2 u3) : Pow u3 u3.heap.size := fun W hb => by
  have z1 := h1.size
  have z2 := h2.size
  have z3 := h3.size
  exact hT W ((h1.trans ((h2.mono z1).trans (h3.mono (by omega)))).trans (hb.mono (by omega)))
theorem infoStr : (Tryd.prog.info? 9).map (fun i => (i.zero, i.size, i.bytes)) = some (some (.string ⟨#[]⟩), 1, 16) := by kernel_rfl
set_option maxRecDepth 100000 in
set_option maxHeartbeats 4000000 in
theorem ratingsText_val (m : Int) (A : Option Addr) (n c B : Nat) (xs : Nat → Int) (S : ByteArray) (hS : Hid (rtT m n xs = S)) (w : World) (hT : Pow w w.heap.size) (hx : Ints w B A (n * 2) xs) (hB : B ≤ w.heap.size) (hn : n ≤ 9223372036854775807) :
    Calls Tryd.prog 7 #[.int .i64 m, .slice A n c] w fun e w' => e = .returned (.string S) ∧ Below w.heap.size w w' := by
  have hcall := isRatings_any m A n c B xs w hx hB hn
  have hS' := hS.out
  unfold rtT at hS'
  cases hr : isB m n xs with
  | false =>
    rw [hr] at hcall hS'
    rw [if_neg (by simp)] at hS'
    subst hS'
    replace hcall := Lib.hid hcall
    go_enter Tryd.func7, Tryd.ntmps7
    go_wp2_with fail
    refine hcall.out.mono ?_
    rintro e w2 ⟨rfl, hb2⟩
    go_wp2
    go_ret
    exact ⟨rfl, hb2⟩
  | true =>
    rw [hr] at hcall hS'
    rw [if_pos rfl] at hS'
    obtain ⟨m1, m16, hnm, hval⟩ := isB_t hr
    have hsz : (txR xs n).size ≤ n * 22 := txR_size n (fun i hi => by have := hval i (by omega); omega)
    have hjn : ∀ (g cap : Nat) (W : World), (∀ (j : Nat) x, (wdR xs n)[j]? = some x → W.cell? ⟨g, j, none⟩ = some (.string x)) → g < W.heap.size → n ≤ cap → Calls Tryd.prog 14 #[.slice (some ⟨g, 0, none⟩) n cap, .string (ByteArray.mk #[32])] W fun e w' => e = .returned (.string S) ∧ Below W.heap.size W w' := by
      intro g cap W h1 h2 h3
      have hl := wdR_len xs n
      have hj := tx_join xs n
      have h := join_any g 0 cap (wdR xs n) (ByteArray.mk #[32]) W (fun j x hx => by rw [Nat.zero_add]; exact h1 j x hx) h2 (by omega) (by omega) (by
        show (Lib.join ((wdR xs n).map (·.data.toList)) [32]).length ≤ _
        rw [hj]
        have e : (txR xs n).data.toList.length = (txR xs n).size := Array.length_toList
        rw [e]
        omega)
      have e2 : (ByteArray.mk (Lib.join ((wdR xs n).map (·.data.toList)) (ByteArray.mk #[32]).data.toList).toArray) = S := by
        show (ByteArray.mk (Lib.join ((wdR xs n).map (·.data.toList)) [32]).toArray) = S
        rw [hj, ← hS', Array.toArray_toList]
      rw [e2, hl] at h
      exact h
    have htx := fun (k : Nat) (hk : k < n) (W : World) (hb : Below w.heap.size w W) => text_any (xs (k * 2 + 1)) (by have := hval k hk; omega) (by have := hval k hk; omega) w.heap.size W (hT.on hb)
    obtain ⟨i0, hi, hz0', hz1', hz2'⟩ := info_parts infoStr
    replace hi := Lib.hid hi
    replace hz0' := Lib.hid hz0'
    replace hz1' := Lib.hid hz1'
    replace hz2' := Lib.hid hz2'
    replace hcall := Lib.hid hcall
    replace hx := Lib.hid hx
    replace hjn := Lib.hid hjn
    replace htx := Lib.hid htx
    clear hS hr hS' hsz hval hT
    go_enter Tryd.func7, Tryd.ntmps7
    go_wp2_with fail
    refine hcall.out.mono ?_
    rintro e w2 ⟨rfl, hb2⟩
    have hz2 := hb2.size
    have hown0 : (w2.alloc (.cells #[] 9)).ownsRow w.heap.size 9 1 (.slice (some ⟨w2.heap.size, 0, none⟩) 0 0) 0 ((wdR xs 0).map Value.string) := own_empty (Whole.new _ _ _) hz2
    have hb20 : Below w.heap.size w (w2.alloc (.cells #[] 9)) := hb2.alloc hz2 _
    clear hcall hb2
    go_wp2_with fail
    go_loopw [5, 15] (fun v5 v15 wr => ∃ k : Nat, k ≤ n ∧ v15 = .int .i64 k ∧ wr.ownsRow w.heap.size 9 1 v5 k ((wdR xs k).map Value.string) ∧ Below w.heap.size w wr) (fun _ v15 _ => (n - intOf v15).toNat)
    case atStart => exact ⟨0, by omega, rfl, hown0, hb20⟩
    case round =>
      obtain ⟨k, hk, rfl, hown, hbel⟩ := hrel
      clear hown0 hb20
      have hbz := hbel.size
      obtain ⟨A5, c5, rfl, hnc, hcm⟩ := own_form hown
      by_cases hlt : k < n
      · have hlt' : (k : Int) < n := by omega
        obtain ⟨b, off, rfl, hadB, hcode⟩ := hx.out (by omega)
        have g0 : wr.cell? ⟨b, off + k * 2, none⟩ = some (.int .i64 (xs (k * 2))) := by rw [hbel.cell (by simp; omega)]; exact hcode (k * 2) (by omega)
        have g1 : wr.cell? ⟨b, off + k * 2 + 1, none⟩ = some (.int .i64 (xs (k * 2 + 1))) := by rw [hbel.cell (by simp; omega)]; exact hcode (k * 2 + 1) (by omega)
        have htk := htx.out k hlt
        have hnext : (wdR xs (k + 1)).map Value.string = (wdR xs k).map Value.string ++ [Value.string (dd (xs (k * 2 + 1)))] := by
          show ((wdR xs k ++ [dd (xs (k * 2 + 1))]).map Value.string) = _
          rw [List.map_append]; rfl
        generalize xs (k * 2) = z0 at g0
        generalize xs (k * 2 + 1) = z at g1 htk hnext
        generalize dd z = D at htk hnext
        obtain ⟨M2, hM⟩ : ∃ M, (wdR xs (k + 1)).map Value.string = M := ⟨_, rfl⟩
        rw [hM] at hnext
        replace hM := Lib.hid hM
        replace htk := Lib.hid htk
        replace hnext := Lib.hid hnext
        clear hcode
        have hb3 : Below w.heap.size w (wr.alloc (.cells #[.int .i64 z0, .int .i64 z] 32)) := hbel.alloc hbz _
        have hown3 := hown.alloc (.cells #[.int .i64 z0, .int .i64 z] 32)
        replace hown3 := Lib.hid hown3
        go_wp2_with fail
        refine (htk.out _ hb3).mono ?_
        rintro e w4 ⟨rfl, hb4⟩
        have hown4 := own_below hown3.out hb4
        have hbb := hb3.trans (hb4.mono hb3.size)
        have hz4 := hbb.size
        have hnew := Whole.new w4 9 #[.string D]
        clear hown hbel hb3 hb4 hown3 htk g0 g1
        go_wp2_with (at_builtin; refine wpList_append_own_at _ rfl _ _ 35 rfl w.heap.size 9 i0 _ 1 16 Tryd.underlying35 hi.out hz0'.out hz1'.out hz2'.out rfl (by decide) _ _ _ rfl (hown4.alloc _) ⟨w4.heap.size, 0, none⟩ 1 1 [.string D] rfl rfl ?c1 ?c2 ?c3 ?c4 ?c5 ?_)
        case c1 =>
          intro j u hu
          rw [add_zero_off, hnew.cell]
          simpa using hu
        case c2 => simp [Value.oneCell']
        case c3 => simp only [maxLen]; omega
        case c4 => omega
        case c5 => simp; omega
        intro v' wy hown' hgrow _ hat
        have hb5 : Below w.heap.size w (w4.alloc (.cells #[.string D] 9)) := hbb.alloc hz4 _
        have hby : Below w.heap.size w wy := hb5.trans (below_only hgrow hb5.size (fun q hq => (hown4.lt q hq).1))
        have hoy : wy.ownsRow w.heap.size 9 1 v' (k + 1) M2 := by rw [hnext.out]; exact hown'
        clear hown' hgrow hat hown4 hbb hb5 hnew
        go_wp2
        go_roundw
        case rel => exact ⟨k + 1, by omega, by go_num, by rw [hM.out]; exact hoy, hby⟩
        case measure => simp [intOf]; omega
      · obtain rfl : k = n := by omega
        have hnlt : ¬ ((k : Int) < k) := by omega
        obtain ⟨g, cap, cur, hv, hbg, hW, -, -, -, hcur⟩ := own_open hown (by omega)
        injection hv with hv1 _ hv3
        subst hv1
        subst hv3
        have hj := hjn.out g c5 wr (fun j x hx => by
          rw [hW.cell]
          exact hcur j _ (by rw [List.getElem?_map, hx]; rfl)) hW.lt hnc
        replace hj := Lib.hid hj
        clear hjn htx hown hcur hW
        go_wp2_with fail
        refine hj.out.mono ?_
        rintro e w3 ⟨rfl, hb3⟩
        go_wp2
        go_ret
        exact ⟨rfl, hbel.trans (hb3.mono hbz)⟩
end Go.Proofs.YtbmclcajgplpnaaDoor
