/- Names of marks: the program's test and the reference's. -/
import Derived.Test.YtfllbhgngolfnaaDoorTm
import Derived.Test.YtfllbhgngolfnaaDoorPt3
set_option linter.unusedSimpArgs false
set_option linter.unusedVariables false
namespace Go.Proofs.YtfllbhgngolfnaaDoor
open Go.RowKit

/-- A letter or a digit. -/
def okc (b : UInt8) : Bool := (decide (97 ≤ b.toNat) && decide (b.toNat ≤ 122)) || (decide (48 ≤ b.toNat) && decide (b.toNat ≤ 57))
/-- What is a mark's name. -/
def nameB (S : ByteArray) : Bool := decide (1 ≤ S.size ∧ S.size ≤ 8) && (match S.data.toList with | [] => false | b :: r => decide (97 ≤ b.toNat) && (b :: r).all okc)
theorem name_cell {S : ByteArray} {i : Nat} (h : i < S.size) : S.data.toList[i]? = some S[i] := by
  have h' : i < S.data.toList.length := by simpa using h
  rw [List.getElem?_eq_getElem h']
  rfl
theorem nameB_iff (S : ByteArray) (h : 0 < S.size) (h8 : S.size ≤ 8) : nameB S = true ↔ (97 ≤ S[0].toNat ∧ ∀ i (hi : i < S.size), okc S[i] = true) := by
  unfold nameB
  have hd : decide (1 ≤ S.size ∧ S.size ≤ 8) = true := decide_eq_true ⟨h, h8⟩
  rw [hd, Bool.true_and]
  have h0 := name_cell (S := S) h
  have hall : (∀ i (hi : i < S.size), okc S[i] = true) ↔ S.data.toList.all okc = true := by
    rw [List.all_eq_true]
    constructor
    · intro hh x hx
      obtain ⟨i, hi⟩ := List.getElem?_of_mem hx
      have hl : i < S.size := by
        have := (List.getElem?_eq_some_iff.1 hi).1
        simpa using this
      rw [name_cell hl] at hi
      cases hi
      exact hh i hl
    · intro hh i hi
      exact hh _ (List.mem_of_getElem? (name_cell hi))
  rw [hall]
  cases hl : S.data.toList with
  | nil => rw [hl] at h0; cases h0
  | cons b r =>
    rw [hl] at h0
    simp at h0
    subst h0
    simp
theorem nameB_short {S : ByteArray} (h : S.size < 1) : nameB S = false := by
  unfold nameB
  rw [decide_eq_false (by omega)]; rfl
theorem nameB_long {S : ByteArray} (h : 8 < S.size) : nameB S = false := by
  unfold nameB
  rw [decide_eq_false (by omega)]; rfl
theorem nameB_false {S : ByteArray} (h : 0 < S.size) (h8 : S.size ≤ 8) (hn : ¬ (97 ≤ S[0].toNat ∧ ∀ i (hi : i < S.size), okc S[i] = true)) : nameB S = false := by
  cases h' : nameB S with
  | false => rfl
  | true => exact absurd ((nameB_iff S h h8).1 h') hn
set_option maxHeartbeats 4000000 in
theorem l04Name_any (S : ByteArray) (w : World) : Calls Tryd.prog 42 #[.string S] w fun e w' => e = .returned (.bool (nameB S)) ∧ w = w' := by
  by_cases h1 : S.size < 1
  · rw [nameB_short h1]
    have h1' : ((S.size : Int) < 1) := by omega
    go_enter Tryd.func42, Tryd.ntmps42
    go_wp2
    go_ret
    exact ⟨rfl, rfl⟩
  have h1' : ¬ ((S.size : Int) < 1) := by omega
  by_cases h8 : 8 < S.size
  · rw [nameB_long h8]
    have h8' : ((8 : Int) < S.size) := by omega
    go_enter Tryd.func42, Tryd.ntmps42
    go_wp2
    go_ret
    exact ⟨rfl, rfl⟩
  have h8' : ¬ ((8 : Int) < S.size) := by omega
  have hpos : 0 < S.size := by omega
  by_cases ha : (S[0].toNat : Int) < 97
  · rw [nameB_false hpos (by omega) (fun h => by omega)]
    go_enter Tryd.func42, Tryd.ntmps42
    go_wp2
    go_ret
    exact ⟨rfl, rfl⟩
  by_cases hz : (122 : Int) < S[0].toNat
  · rw [nameB_false hpos (by omega) (fun h => by
      have h2 := h.2 0 hpos
      unfold okc at h2
      simp at h2
      omega)]
    go_enter Tryd.func42, Tryd.ntmps42
    go_wp2
    go_ret
    exact ⟨rfl, rfl⟩
  go_enter Tryd.func42, Tryd.ntmps42
  go_wp2_with fail
  go_loopw [3] (fun v3 wr => ∃ k : Nat, k ≤ S.size ∧ v3 = .int .i64 k ∧ (∀ i (hi : i < S.size), i < k → okc S[i] = true) ∧ w = wr) (fun v3 _ => (S.size - intOf v3).toNat)
  case atStart => exact ⟨0, by omega, rfl, fun i hi h => by omega, rfl⟩
  case round =>
    obtain ⟨k, hk, rfl, hall, rfl⟩ := hrel
    by_cases hlt : k < S.size
    · have hx : okc S[k] = ((decide (97 ≤ S[k].toNat) && decide (S[k].toNat ≤ 122)) || (decide (48 ≤ S[k].toNat) && decide (S[k].toNat ≤ 57))) := rfl
      have hno : ∀ h : okc S[k] = false, nameB S = false := fun h => nameB_false hpos (by omega) (fun hh => by rw [hh.2 k hlt] at h; cases h)
      have hyes : okc S[k] = true → ∀ i (hi : i < S.size), i < k + 1 → okc S[i] = true := fun h i hi hik => by
        by_cases e : i = k
        · subst e; exact h
        · exact hall i hi (by omega)
      replace hno := Lib.hid hno
      replace hyes := Lib.hid hyes
      replace hx := Lib.hid hx
      clear hall
      by_cases a1 : (S[k].toNat : Int) < 97
      · by_cases a2 : (S[k].toNat : Int) < 48
        · go_wp2
          go_ret
          exact ⟨by rw [hno.out (by rw [hx.out]; simp; omega)]; rfl, rfl⟩
        · by_cases a3 : (57 : Int) < S[k].toNat
          · go_wp2
            go_ret
            exact ⟨by rw [hno.out (by rw [hx.out]; simp; omega)]; rfl, rfl⟩
          · go_wp2
            go_roundw
            case rel => exact ⟨k + 1, by omega, by go_num, hyes.out (by rw [hx.out]; simp; omega), trivial⟩
            case measure => first | (simp [intOf]; done) | (simp [intOf]; omega)
      · by_cases a4 : (122 : Int) < S[k].toNat
        · have a5 : ¬ (S[k].toNat : Int) < 48 := by omega
          have a6 : (57 : Int) < S[k].toNat := by omega
          go_wp2
          go_ret
          exact ⟨by rw [hno.out (by rw [hx.out]; simp; omega)]; rfl, rfl⟩
        · go_wp2
          go_roundw
          case rel => exact ⟨k + 1, by omega, by go_num, hyes.out (by rw [hx.out]; simp; omega), trivial⟩
          case measure => first | (simp [intOf]; done) | (simp [intOf]; omega)
    · have e : nameB S = true := (nameB_iff S hpos (by omega)).2 ⟨by omega, fun i hi => hall i hi (by omega)⟩
      replace e := Lib.hid e
      go_wp2
      go_ret
      exact ⟨by rw [e.out]; rfl, rfl⟩

/-- The program's letters and digits. -/
def cutT : ByteArray := ⟨#[97, 98, 99, 100, 101, 102, 103, 104, 105, 106, 107, 108, 109, 110, 111, 112, 113, 114, 115, 116, 117, 118, 119, 120, 121, 122, 48, 49, 50, 51, 52, 53, 54, 55, 56, 57]⟩
theorem cut_okc (b : UInt8) : cutT.data.toList.contains b = okc b := by
  have h : ∀ n, n < 256 → cutT.data.toList.contains (UInt8.ofNat n) = okc (UInt8.ofNat n) := by decide +kernel
  have := h b.toNat b.toNat_lt
  rwa [UInt8.ofNat_toNat] at this
theorem cut_ascii : ∀ (j : Nat) b, cutT.data.toList[j]? = some b → b.toNat < 128 := by
  have h : cutT.data.toList.all (fun b => decide (b.toNat < 128)) = true := by decide +kernel
  exact fun _ b hb => of_decide_eq_true (List.all_eq_true.1 h b (List.mem_of_getElem? hb))
theorem dropWhile_nil {p : UInt8 → Bool} : ∀ l : List UInt8, l.dropWhile p = [] ↔ l.all p = true
  | [] => by simp
  | b :: r => by
    rw [List.dropWhile_cons, List.all_cons]
    cases h : p b with
    | true => simpa using dropWhile_nil r
    | false => simp
theorem trim_empty (l : List UInt8) : Lib.trimS l cutT.data.toList = [] ↔ l.all okc = true := by
  have hp : (fun x => cutT.data.toList.contains x) = okc := funext cut_okc
  unfold Lib.trimS Lib.trimLeftS Lib.trimRightS
  rw [hp, dropWhile_nil]
  constructor
  · intro h
    cases h' : l.all okc with
    | true => rfl
    | false =>
      exfalso
      have hr : ¬ l.reverse.dropWhile okc = [] := by
        rw [dropWhile_nil, List.all_reverse, h']
        simp
      obtain ⟨b, r, hb⟩ := List.exists_cons_of_ne_nil hr
      have h1 := List.head?_dropWhile_not okc l.reverse
      rw [hb] at h1
      simp at h1
      rw [List.all_reverse, hb] at h
      simp [h1] at h
  · intro h
    rw [List.all_reverse, List.all_eq_true]
    intro b hb
    have := List.dropWhile_subset okc hb
    exact List.all_eq_true.1 h b (by simpa using this)
set_option maxHeartbeats 4000000 in
theorem isMarkName_any (S : ByteArray) (w : World) : Calls Tryd.prog 46 #[.string S] w fun e w' => e = .returned (.bool (nameB S)) ∧ Below w.heap.size w w' := by
  by_cases h1 : S.size < 1
  · rw [nameB_short h1]
    have h1' : ((S.size : Int) < 1) := by omega
    go_enter Tryd.func46, Tryd.ntmps46
    go_wp2
    go_ret
    exact ⟨rfl, Below.refl _ _⟩
  have h1' : ¬ ((S.size : Int) < 1) := by omega
  by_cases h8 : 8 < S.size
  · rw [nameB_long h8]
    have h8' : ((8 : Int) < S.size) := by omega
    go_enter Tryd.func46, Tryd.ntmps46
    go_wp2
    go_ret
    exact ⟨rfl, Below.refl _ _⟩
  have h8' : ¬ ((8 : Int) < S.size) := by omega
  have hpos : 0 < S.size := by omega
  by_cases ha : (S[0].toNat : Int) < 97
  · rw [nameB_false hpos (by omega) (fun h => by omega)]
    go_enter Tryd.func46, Tryd.ntmps46
    go_wp2
    go_ret
    exact ⟨rfl, Below.refl _ _⟩
  have htrim : ∀ w, Calls Tryd.prog 53 #[.string S, .string cutT] w _ := fun w => trim_any S cutT w (by omega) (by decide) cut_ascii
  have key : nameB S = true ↔ Lib.trimS S.data.toList cutT.data.toList = [] := by
    rw [trim_empty, nameB_iff S hpos (by omega), List.all_eq_true]
    constructor
    · rintro ⟨_, hh⟩ x hx
      obtain ⟨i, hi⟩ := List.getElem?_of_mem hx
      have hl : i < S.size := by
        have := (List.getElem?_eq_some_iff.1 hi).1
        simpa using this
      rw [name_cell hl] at hi
      cases hi
      exact hh i hl
    · intro hh
      exact ⟨by omega, fun i hi => hh _ (List.mem_of_getElem? (name_cell hi))⟩
  obtain ⟨X, hX⟩ : ∃ X, Lib.trimS S.data.toList cutT.data.toList = X := ⟨_, rfl⟩
  rw [hX] at key
  simp only [hX] at htrim
  clear hX
  replace htrim := Lib.hid htrim
  obtain ⟨v, hv⟩ : ∃ v, nameB S = v := ⟨_, rfl⟩
  rw [hv] at key ⊢
  replace key := Lib.hid key
  go_enter Tryd.func46, Tryd.ntmps46
  go_wp2_with (go_at_call 53; refine (htrim.out _).mono ?_; rintro e w' ⟨rfl, hb⟩)
  have hv' : X.isEmpty = v := Bool.eq_iff_iff.2 (by rw [List.isEmpty_iff, key.out])
  rw [← hv']
  go_ret
  exact ⟨rfl, hb⟩
end Go.Proofs.YtfllbhgngolfnaaDoor
