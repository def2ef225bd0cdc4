/- Plain laws on logs: each beginning of a lawful log is lawful; the kinds that are lawful at a signal's time. hasInt. -/
import Derived.Test.YtfckoeoohlgmiaaSig12
set_option linter.unusedSimpArgs false
set_option linter.unusedVariables false
namespace Go.Proofs.Ytfckoeoohlgmiaa
open Go.RowKit

theorem isS_pre {n : Nat} {xs : Nat → Int} (h : isS n xs = true) {i : Nat} (hi : i ≤ n) : isS i xs = true := by
  rw [isS_all (fun j hj => (isS_t h).2 j (by omega))]
  have := (isS_t h).1
  simp
  omega
theorem kindsTo_mem (S : Int × Int) (t k : Int) : ∀ m : Nat, k ∈ kindsTo S t m ↔ 1 ≤ k ∧ k ≤ m ∧ (stepV S.1 S.2 k t).2 = true := by
  intro m
  induction m with
  | zero => simp [kindsTo]; omega
  | succ m ih =>
    unfold kindsTo
    by_cases e : k = (m : Int) + 1
    · subst e
      split
      · rename_i h; simp [h]; omega
      · rename_i h
        rw [ih]
        constructor
        · intro h'; exact absurd h'.2.2 h
        · intro h'; exact absurd h'.2.2 h
    · split
      · rw [List.mem_append, ih]
        simp [e]
        intro _ _
        omega
      · rw [ih]
        constructor
        · rintro ⟨a, b, c⟩; exact ⟨a, by omega, c⟩
        · rintro ⟨a, b, c⟩; exact ⟨a, by omega, c⟩
/-- What the law on signals wants. -/
theorem sig_law {n : Nat} {xs : Nat → Int} (hs : isS n xs = true) {i : Nat} (hi : i < n) (hl : i ≤ lead (okA xs) n) :
    forC i xs (xs (i * 2 + 1)) = 0 ∧ (kindL i xs (xs (i * 2 + 1))).contains (xs (i * 2)) = decide (i < lead (okA xs) n) := by
  have hp := isS_pre hs (Nat.le_of_lt hi)
  have hle : lead (okA xs) i = i := lead_all (fun j hj => lead_ok (p := okA xs) (n := n) (by omega))
  have hc : codeV i xs = 0 := by unfold codeV; rw [if_pos hp, hle, if_neg (by omega)]
  obtain ⟨c1, c2, c3, c4, c5⟩ := okS_t ((isS_t hs).2 i hi)
  have hla : laterB i xs (xs (i * 2 + 1)) = true := by
    have hib : inB (xs (i * 2 + 1)) 0 1000000000 = true := by simp [inB]; omega
    unfold laterB
    rw [hib]
    rcases c5 with h | h
    · subst h; simp
    · simp [h]
  have hf : forC i xs (xs (i * 2 + 1)) = 0 := by unfold forC; rw [if_pos hc, if_pos hla]
  refine ⟨hf, ?_⟩
  have hok : okA xs i = decide (i < lead (okA xs) n) := by
    rcases Nat.lt_or_ge i (lead (okA xs) n) with h | h
    · rw [lead_ok h]; simp [h]
    · have e : i = lead (okA xs) n := by omega
      have := lead_no (p := okA xs) (n := n) (by omega)
      rw [← e] at this
      rw [this]; simp [h]
  rw [← hok]
  unfold kindL
  rw [if_pos hf]
  have hm := kindsTo_mem (stA xs i) (xs (i * 2 + 1)) (xs (i * 2)) 8
  cases ho : okA xs i with
  | true =>
    rw [List.contains_iff_mem]
    exact hm.2 ⟨c1, c2, ho⟩
  | false =>
    rw [← Bool.not_eq_true, List.contains_iff_mem, hm]
    rintro ⟨_, _, h⟩
    rw [show (stepV (stA xs i).1 (stA xs i).2 (xs (i * 2)) (xs (i * 2 + 1))).2 = okA xs i from rfl, ho] at h
    exact absurd h (by simp)
theorem hasInt_any (A : Option Addr) (n c B : Nat) (L : List Int) (x : Int) (w : World) (hx : Ints w B A n (fun j => L.getD j 0)) (hl : L.length = n) (hB : B ≤ w.heap.size) (hn : n ≤ 9223372036854775807) :
    Calls Try.prog 28 #[.slice A n c, .int .i64 x] w fun e w' => e = .returned (.bool (L.contains x)) ∧ Below w.heap.size w w' := by
  go_enter Try.func28, Try.ntmps28
  go_wp2_with fail
  go_loopw [5] (fun v wr => ∃ k : Nat, k ≤ n ∧ v = .int .i64 k ∧ Hid (∀ j, j < k → L.getD j 0 ≠ x) ∧ Below w.heap.size w wr) (fun v _ => (n - intOf v).toNat)
  case atStart => exact ⟨0, by omega, rfl, Lib.hid (fun j hj => by omega), Below.refl _ _⟩
  case round =>
    obtain ⟨k, hk, rfl, hne, hbel⟩ := hrel
    by_cases hlt : k < n
    · obtain ⟨b, o, rfl, hadB, hcode⟩ := hx (by omega)
      have g0 : wr.cell? ⟨b, o + k, none⟩ = some (.int .i64 (L.getD k 0)) := by rw [hbel.cell (by simp; omega)]; exact hcode k hlt
      have hmem : L.getD k 0 ∈ L := by
        rw [List.getD_eq_getElem?_getD, List.getElem?_eq_getElem (by omega)]
        exact List.getElem_mem _
      generalize hy : L.getD k 0 = y at g0 hmem
      replace hy := Lib.hid hy
      clear hcode
      by_cases he : y = x
      · subst he
        have hct := List.contains_iff_mem.2 hmem
        rw [hct] at *
        go_wp2
        go_ret
        exact ⟨rfl, hbel⟩
      · have he' : (y == x) = false := by simpa using he
        go_wp2
        go_roundw
        case rel =>
          refine ⟨k + 1, by omega, by go_num, Lib.hid (fun j hj => ?_), hbel⟩
          by_cases e : j = k
          · subst e; rw [hy.out]; exact he
          · exact hne.out j (by omega)
        case measure => simp [intOf]; omega
    · obtain rfl : k = n := by omega
      have hf : L.contains x = false := by
        rw [← Bool.not_eq_true, List.contains_iff_mem]
        intro hm
        obtain ⟨j, hj, e⟩ := List.getElem_of_mem hm
        refine hne.out j (by omega) ?_
        rw [List.getD_eq_getElem?_getD, List.getElem?_eq_getElem hj]
        simpa using e
      go_wp2
      go_ret
      exact ⟨by rw [hf]; rfl, hbel⟩
end Go.Proofs.Ytfckoeoohlgmiaa
