/- The draws of a curve and a wind. -/
import Derived.Test.YtjbioohpkmcmmaaDC
namespace Go.Proofs.Ytjbioohpkmcmmaa
open Go.RowKit

/-- The range of l24DrawWind. -/
theorem l24DrawWind_any (w : World) (B g m : Nat) (bs : Nat → Int) (h : SrcX w B g m bs) :
    Calls Try.prog 31 #[.pointer (some ⟨g, 0, none⟩)] w fun e w' => ∃ r : Int, e = .returned (.int .i64 r) ∧ -1 ≤ r ∧ r ≤ 1001 ∧ SrcX w' B g m bs ∧ w.grownBy w' (some g) := by
  have hgl := h.lt
  go_enter Try.func31, Try.ntmps31
  go_wp2_with fail
  refine (nextR _ _ _ _ _ _ h (by omega) (by omega)).mono ?_
  rintro e w1 ⟨r, rfl, r0, r1, hS1, hg1⟩
  have hz1 := hg1.size
  by_cases h0 : r = 0
  · subst h0
    go_wp2_with fail
    refine (nextR _ _ _ _ _ _ (hS1.new _) (by omega) (by omega)).mono ?_
    rintro e w2 ⟨k, rfl, k0, k1, hS2, hg2⟩
    obtain ⟨x, hx, hcell⟩ := ((Whole.new w1 2 _).grown hg2 (fun e => by injection e with e; omega)).pick [-1, 0, 1000, 1001] rfl k k0 (by simpa using k1)
    have hxb : -1 ≤ x ∧ x ≤ 1001 := by simp at hx; omega
    clear hx
    go_wp2
    go_ret
    exact ⟨x, rfl, hxb.1, hxb.2, hS2, only_trans (only_new hg1 _) hg2⟩
  · go_wp2_with fail
    refine (nextR _ _ _ _ _ _ hS1 (by omega) (by omega)).mono ?_
    rintro e w2 ⟨k, rfl, k0, k1, hS2, hg2⟩
    go_wp2
    go_ret
    exact ⟨_, rfl, by omega, by omega, hS2, only_trans hg1 hg2⟩


theorem drawPaceAt_any (A : Option Addr) (m c : Nat) (bs : Nat → Int) (w : World) (hc : Nums .u8 w w.heap.size A m bs) (hm : m ≤ 100000) (hb : ∀ j, 0 ≤ bs j ∧ bs j ≤ 255) :
    Calls Try.prog 17 #[.slice A m c] w fun e w' => ∃ A' n c' xs wnd, e = .returned (.tuple #[.slice A' n c', .int .i64 wnd]) ∧ 1 ≤ n ∧ n ≤ 10 ∧ Ints w' w'.heap.size A' (n * 2) xs ∧ -1 ≤ wnd ∧ wnd ≤ 1001 ∧ Below w.heap.size w w' := by
  go_enter Try.func17, Try.ntmps17
  go_wp2_with fail
  refine (fromR _ _ _ _ _ _ hc (Nat.le_refl _) hm hb).mono ?_
  rintro e w1 ⟨rfl, hS1, hb1⟩
  go_wp2_with fail
  refine (l24Draw_any _ _ _ _ _ hS1).mono ?_
  rintro e w2 ⟨A', n, c', xs, rfl, n0, n1, hI, hA, hS2, hg2⟩
  go_wp2_with fail
  refine (l24DrawWind_any _ _ _ _ _ hS2).mono ?_
  rintro e w3 ⟨wnd, rfl, d0, d1, hS3, hg3⟩
  go_wp2
  go_ret2
  exact ⟨_, n, _, xs, wnd, rfl, n0, n1, hI.past hA hg3 (Nat.le_refl _), d0, d1, hb1.trans ((below_only (only_trans hg2 hg3) hb1.size (fun k e => by injection e with e; omega)))⟩
end Go.Proofs.Ytjbioohpkmcmmaa
