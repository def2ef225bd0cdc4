/- The facts found: the program's. -/
import Derived.Test.YtcilgohjeobamaaHear3
import Derived.Test.YtcilgohjeobamaaRow
import Derived.Test.YtcilgohjeobamaaMInt64
import Derived.RegionTactic
set_option linter.unusedSimpArgs false
set_option linter.unusedVariables false
namespace Go.Proofs.Ytcilgohjeobamaa
open Go.RowKit Go.Shelf

def wtV (sp : Int) : Int := if sp < 100 then 1 else 3
/-- The sum of what the first k statements say about a fact, but for those of one speaker. -/
def sumF (xs : Nat → Int) (wo : Int) : Nat → Nat → Int
  | 0, _ => 0
  | k + 1, f => if xs (k * 3) ≠ wo ∧ xs (k * 3 + 1) = f then sumF xs wo k f + wtV (xs (k * 3)) * xs (k * 3 + 2) else sumF xs wo k f
theorem sumF_bd {xs : Nat → Int} {wo : Int} {f : Nat} {n : Nat} (h : ∀ i, i < n → xs (i * 3 + 2) = 1 ∨ xs (i * 3 + 2) = -1) : ∀ k, k ≤ n → -3 * (k : Int) ≤ sumF xs wo k f ∧ sumF xs wo k f ≤ 3 * k := by
  intro k
  induction k with
  | zero => intro _; simp [sumF]
  | succ k ih =>
    intro hk
    have h1 := ih (by omega)
    have h2 := h k (by omega)
    unfold sumF wtV
    split
    · split <;> rcases h2 with e | e <;> rw [e] <;> omega
    · omega
theorem okT_t {pb pa : Int} {xs : Nat → Int} {i : Nat} (h : okT pb pa xs i = true) : 0 ≤ xs (i * 3 + 1) ∧ xs (i * 3 + 1) ≤ 7 ∧ (xs (i * 3 + 2) = 1 ∨ xs (i * 3 + 2) = -1) := by
  unfold okT at h
  simp only [Bool.and_eq_true, Bool.or_eq_true, beq_iff_eq] at h
  have := inB_t h.1.1.2
  exact ⟨this.1, this.2, h.1.2⟩
def sgnV (n : Int) : Int := if n < 0 then -1 else if 0 < n then 1 else 0
def factV (xs : Nat → Int) (wo : Int) (n : Nat) (f : Nat) : Int := sgnV (sumF xs wo n f)

theorem signV_any (n : Int) (w : World) : Calls Try.prog 79 #[.int .i64 n] w fun e w' => e = .returned (.int .i64 (sgnV n)) ∧ w = w' := by
  by_cases h1 : n < 0
  · rw [show sgnV n = -1 by unfold sgnV; rw [if_pos h1]]
    go_enter Try.func79, Try.ntmps79
    go_wp2
    all_goals (go_ret; exact ⟨rfl, rfl⟩)
  · by_cases h2 : 0 < n
    · rw [show sgnV n = 1 by unfold sgnV; rw [if_neg h1, if_pos h2]]
      go_enter Try.func79, Try.ntmps79
      go_wp2
      all_goals (go_ret; exact ⟨rfl, rfl⟩)
    · rw [show sgnV n = 0 by unfold sgnV; rw [if_neg h1, if_neg h2]]
      obtain rfl : n = 0 := by omega
      go_enter Try.func79, Try.ntmps79
      go_wp2
      all_goals (go_ret; exact ⟨rfl, rfl⟩)
/-- The cells of a row of sums. -/
def SumsAt (wr : World) (g : Nat) (v : Nat → Int) : Prop := ∃ cs, Whole wr g 2 cs ∧ cs.size = 8 ∧ ∀ j, j < 8 → cs[j]? = some (.int .i64 (v j))
theorem SumsAt.cells {wr : World} {g : Nat} {v : Nat → Int} (h : SumsAt wr g v) (j : Nat) (hj : j < 8) : wr.cell? ⟨g, j, none⟩ = some (.int .i64 (v j)) ∧ wr.frozen? ⟨g, j, none⟩ = false := by
  obtain ⟨cs, hW, hz, hc⟩ := h
  exact ⟨(hW.cell j).trans (hc j hj), hW.frz j⟩
theorem SumsAt.put {wr : World} {g : Nat} {v u : Nat → Int} (h : SumsAt wr g v) (i : Nat) (x : Int) (hu : ∀ j, j < 8 → u j = if j = i then x else v j) : SumsAt (wr.setCell ⟨g, i, none⟩ (.int .i64 x)) g u := by
  obtain ⟨cs, hW, hz, hc⟩ := h
  refine ⟨cs.setIfInBounds i (.int .i64 x), hW.put i _, by simpa using hz, fun j hj => ?_⟩
  rw [ints_put hc i x j hj, hu j hj]
theorem SumsAt.congr {wr : World} {g : Nat} {v u : Nat → Int} (h : SumsAt wr g v) (hu : ∀ j, j < 8 → u j = v j) : SumsAt wr g u := by
  obtain ⟨cs, hW, hz, hc⟩ := h
  exact ⟨cs, hW, hz, fun j hj => by rw [hc j hj, hu j hj]⟩
theorem SumsAt.alloc {wr : World} {g : Nat} {v : Nat → Int} (h : SumsAt wr g v) (o : Obj) : SumsAt (wr.alloc o) g v := by
  obtain ⟨cs, hW, hz, hc⟩ := h
  exact ⟨cs, hW.alloc o, hz, hc⟩
theorem SumsAt.lt {wr : World} {g : Nat} {v : Nat → Int} (h : SumsAt wr g v) : g < wr.heap.size := by
  obtain ⟨cs, hW, _⟩ := h
  exact hW.lt
theorem SumsAt.drew {wr : World} {g : Nat} {v : Nat → Int} (h : SumsAt wr g v) : SumsAt wr.drew g v := h
theorem SumsAt.zero (w : World) : SumsAt (w.alloc (.cells (zeros #[.int .i64 0] 8) 2)) w.heap.size (fun _ => 0) := by
  refine ⟨_, Whole.new w _ _, zeros_size _ _, fun j hj => ?_⟩
  simp [zeros, madeCells, hj, Nat.mod_one]
set_option maxRecDepth 100000 in
set_option maxHeartbeats 8000000 in
theorem findFacts_any (A : Option Addr) (n c B : Nat) (xs : Nat → Int) (wo : Int) (w : World) (hx : Ints w B A (n * 3) xs) (hB : B ≤ w.heap.size) (hn : n ≤ 60)
    (hs : ∀ i, i < n → 0 ≤ xs (i * 3 + 1) ∧ xs (i * 3 + 1) ≤ 7 ∧ (xs (i * 3 + 2) = 1 ∨ xs (i * 3 + 2) = -1)) :
    Calls Try.prog 63 #[.slice A n c, .int .i64 wo] w fun e w' => e = .returned (.slice (some ⟨w.heap.size, 0, none⟩) 8 8) ∧ SumsAt w' w.heap.size (factV xs wo n) ∧ Below w.heap.size w w' := by
  obtain ⟨i0, hi, hz0, hz1, hz2⟩ := info_parts infoInt64
  have hmk := fun W => make_eq (P := Try.prog) 31 2 i0 _ Try.underlying31 hi hz0 8 1 hz1 (by rw [hz2]; omega) (by omega) W
  have h8 : ((8 : Nat) : Int) = 8 := rfl
  rw [h8] at hmk
  clear hi hz0 hz1 hz2 h8
  replace hx := Lib.hid hx
  replace hs := Lib.hid hs
  go_enter Try.func63, Try.ntmps63
  go_wp2
  clear hmk
  go_loopw [13] (fun vi wr => ∃ k : Nat, k ≤ n ∧ vi = .int .i64 k ∧ SumsAt wr w.heap.size (sumF xs wo k) ∧ Below w.heap.size w wr) (fun vi _ => (n - intOf vi).toNat)
  case atStart => exact ⟨0, by omega, rfl, SumsAt.zero w, (Below.refl _ _).alloc (Nat.le_refl _) _⟩
  case round =>
    obtain ⟨k, hk, rfl, hS, hbel⟩ := hrel
    have hsz := hbel.size
    by_cases hlt : k < n
    · obtain ⟨b, o, rfl, hadB, hcode⟩ := hx.out (by omega)
      have g0 : wr.cell? ⟨b, o + k * 3, none⟩ = some (.int .i64 (xs (k * 3))) := by rw [hbel.cell (by simp; omega)]; exact hcode (k * 3) (by omega)
      have g1 : wr.cell? ⟨b, o + k * 3 + 1, none⟩ = some (.int .i64 (xs (k * 3 + 1))) := by rw [hbel.cell (by simp; omega)]; exact hcode (k * 3 + 1) (by omega)
      have g2 : wr.cell? ⟨b, o + k * 3 + 2, none⟩ = some (.int .i64 (xs (k * 3 + 2))) := by rw [hbel.cell (by simp; omega)]; exact hcode (k * 3 + 2) (by omega)
      have hbl : b < wr.heap.size := by omega
      obtain ⟨f0, f1, hsy⟩ := hs.out k hlt
      have hstep : ∀ j, sumF xs wo (k + 1) j = if xs (k * 3) ≠ wo ∧ xs (k * 3 + 1) = j then sumF xs wo k j + wtV (xs (k * 3)) * xs (k * 3 + 2) else sumF xs wo k j := fun _ => rfl
      obtain ⟨fn, hfn⟩ : ∃ fn : Nat, xs (k * 3 + 1) = fn := ⟨(xs (k * 3 + 1)).toNat, by omega⟩
      have hfn8 : fn < 8 := by omega
      have hbd := sumF_bd (wo := wo) (f := fn) (n := n) (fun i hi => (hs.out i hi).2.2) k (by omega)
      rw [hfn] at g1
      simp only [hfn] at hstep
      obtain ⟨y, fy⟩ := hS.cells fn hfn8
      have hFl : w.heap.size < wr.heap.size := by obtain ⟨cs, hW, _⟩ := hS; exact hW.lt
      clear hcode hfn f0 f1
      generalize xs (k * 3) = sp at g0 hstep
      generalize xs (k * 3 + 2) = sy at g2 hstep hsy
      have hsyb : -1 ≤ sy ∧ sy ≤ 1 := by omega
      clear hsy
      by_cases hw : sp = wo
      · have hw1 : (sp != wo) = false := by simpa using hw
        have hS1 : SumsAt wr w.heap.size (sumF xs wo (k + 1)) := hS.congr (fun j _ => by rw [hstep j, if_neg (by omega)])
        replace hstep := Lib.hid hstep
        clear hS y fy
        by_cases h1 : sp < 100
        · go_wp2
          go_roundw
          case rel => exact ⟨k + 1, by omega, by go_num, hS1.alloc _, hbel.alloc hsz _⟩
          case measure => simp [intOf]; omega
        · go_wp2
          go_roundw
          case rel => exact ⟨k + 1, by omega, by go_num, hS1.alloc _, hbel.alloc hsz _⟩
          case measure => simp [intOf]; omega
      · have hw1 : (sp != wo) = true := by simpa using hw
        replace hS := Lib.hid hS
        by_cases h1 : sp < 100
        · have hst : ∀ j, j < 8 → sumF xs wo (k + 1) j = if j = fn then sumF xs wo k fn + sy else sumF xs wo k j := fun j _ => by
            rw [hstep j]
            by_cases e : j = fn
            · subst e; rw [if_pos ⟨hw, rfl⟩, if_pos rfl]; simp [wtV, h1]
            · rw [if_neg (by omega), if_neg e]
          replace hst := Lib.hid hst
          clear hstep
          generalize sumF xs wo k fn = z at y hbd hst
          go_wp2
          go_region
          go_wp2
          go_roundw
          case rel => exact ⟨k + 1, by omega, by go_num, ((hS.out.put fn _ hst.out).alloc _).drew, ((hbel.setCell (p := ⟨w.heap.size, fn, none⟩) (Nat.le_refl _) _).alloc (by simp; omega) _).drew⟩
          case measure => simp [intOf]; omega
        · have hst : ∀ j, j < 8 → sumF xs wo (k + 1) j = if j = fn then sumF xs wo k fn + 3 * sy else sumF xs wo k j := fun j _ => by
            rw [hstep j]
            by_cases e : j = fn
            · subst e; rw [if_pos ⟨hw, rfl⟩, if_pos rfl]; simp [wtV, h1]
            · rw [if_neg (by omega), if_neg e]
          replace hst := Lib.hid hst
          clear hstep
          generalize sumF xs wo k fn = z at y hbd hst
          go_wp2
          go_region
          go_wp2
          go_roundw
          case rel => exact ⟨k + 1, by omega, by go_num, ((hS.out.put fn _ hst.out).alloc _).drew, ((hbel.setCell (p := ⟨w.heap.size, fn, none⟩) (Nat.le_refl _) _).alloc (by simp; omega) _).drew⟩
          case measure => simp [intOf]; omega
    · obtain rfl : k = n := by omega
      go_wp2_with fail
      have hS0 : SumsAt wr w.heap.size (fun i => if i < 0 then factV xs wo k i else sumF xs wo k i) := hS.congr (fun j _ => by simp)
      have hbel0 := hbel
      clear hS hbel
      go_loopw [38] (fun vi wx => ∃ j : Nat, j ≤ 8 ∧ vi = .int .i64 j ∧ SumsAt wx w.heap.size (fun i => if i < j then factV xs wo k i else sumF xs wo k i) ∧ Below w.heap.size w wx) (fun vi _ => (8 - intOf vi).toNat)
      case atStart => exact ⟨0, by omega, rfl, hS0, hbel0⟩
      case round =>
        clear hS0 hbel0
        obtain ⟨j, hj, rfl, hS, hbel⟩ := hrel
        by_cases hlt : j < 8
        · obtain ⟨y, fy⟩ := hS.cells j hlt
          rw [if_neg (by omega)] at y
          have hFl := hS.lt
          have hnx : ∀ i, i < 8 → (if i < j + 1 then factV xs wo k i else sumF xs wo k i) = if i = j then sgnV (sumF xs wo k j) else (if i < j then factV xs wo k i else sumF xs wo k i) := fun i _ => by
            by_cases e : i = j
            · subst e; rw [if_pos (by omega), if_pos rfl]; rfl
            · rw [if_neg e]
              by_cases h : i < j
              · rw [if_pos (by omega), if_pos h]
              · rw [if_neg (by omega), if_neg h]
          replace hnx := Lib.hid hnx
          have hS' := Lib.hid hS
          clear hS
          generalize sumF xs wo k j = z at y hnx
          go_wp2_with (go_at_call 79; refine (signV_any _ _).mono ?_; rintro e w' ⟨rfl, rfl⟩)
          go_roundw
          case rel => exact ⟨j + 1, by omega, by go_num, hS'.out.put j _ hnx.out, hbel.setCell (p := ⟨w.heap.size, j, none⟩) (Nat.le_refl _) _⟩
          case measure => simp [intOf]; omega
        · obtain rfl : j = 8 := by omega
          go_wp2
          go_ret
          exact ⟨rfl, hS.congr (fun i hi => by simp [hi]), hbel⟩
end Go.Proofs.Ytcilgohjeobamaa
