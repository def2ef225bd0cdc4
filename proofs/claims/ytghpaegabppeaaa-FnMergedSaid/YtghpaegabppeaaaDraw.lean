/- The source of numbers of the reference's draws: what l01From and l01Next return, as functions of the code's bytes. -/
import Derived.Test.YtghpaegabppeaaaMem
import Derived.Handy
namespace Go.Proofs.Ytghpaegabppeaaa
open Go.RowKit

theorem ret_i {k : IntKind} {a b : Int} (h : a = b) : Ending.returned (.int k a) = .returned (.int k b) := by rw [h]
/-- The next seed. -/
def seedV (s : Int) : Int := (s * 48271 + 23) % 2147483647
theorem seedV_bd (s : Int) : 0 ≤ seedV s ∧ seedV s < 2147483647 := by unfold seedV; omega
/-- What l01Next returns at a state (the place in the code, the seed). -/
def nextV (n : Int) (m : Nat) (bs : Nat → Int) (st : Nat × Int) : Int :=
  if n ≤ 1 then 0 else if st.1 < m then (if n ≤ 256 ∧ (st.1 + 1) % 2 = 0 then bs st.1 % n else (seedV st.2 / 17 + bs st.1) % n) else (seedV st.2 / 17) % n
/-- The state behind it. -/
def nextS (n : Int) (m : Nat) (st : Nat × Int) : Nat × Int :=
  if n ≤ 1 then st else if st.1 < m then (st.1 + 1, seedV st.2) else (st.1, seedV st.2)
theorem nextV_bd (n : Int) (m : Nat) (bs : Nat → Int) (st : Nat × Int) (hn : 1 ≤ n) : 0 ≤ nextV n m bs st ∧ nextV n m bs st < n := by
  unfold nextV
  split
  · omega
  · split
    · split
      · exact ⟨Int.emod_nonneg _ (by omega), Int.emod_lt_of_pos _ (by omega)⟩
      · exact ⟨Int.emod_nonneg _ (by omega), Int.emod_lt_of_pos _ (by omega)⟩
    · exact ⟨Int.emod_nonneg _ (by omega), Int.emod_lt_of_pos _ (by omega)⟩
theorem nextV_one (n : Int) (m : Nat) (bs : Nat → Int) (st : Nat × Int) (hn : n ≤ 1) : nextV n m bs st = 0 := by unfold nextV; rw [if_pos hn]
/-- The seed behind k bytes. -/
def fromV (bs : Nat → Int) : Nat → Int
  | 0 => 61657
  | k + 1 => (fromV bs k * 53 + bs k) % 2147483647
theorem fromV_bd (bs : Nat → Int) (k : Nat) : 0 ≤ fromV bs k ∧ fromV bs k < 2147483647 := by cases k <;> simp only [fromV] <;> omega

/-- Block g holds a source over the code (m bytes bs, below block B). -/
def Src (w : World) (B g m : Nat) (bs : Nat → Int) (st : Nat × Int) : Prop :=
  ∃ A c, Whole w g 75 #[.slice A m c, .int .i64 st.1, .int .i64 st.2] ∧ Nums .u8 w B A m bs ∧ B ≤ g ∧ st.1 ≤ m ∧ m ≤ 100000 ∧ 0 ≤ st.2 ∧ st.2 < 2147483647 ∧ ∀ j, 0 ≤ bs j ∧ bs j ≤ 255

theorem Src.keep {w w' : World} {B g m : Nat} {bs : Nat → Int} {st : Nat × Int} (h : Src w B g m bs st) (hb : Below (g + 1) w w') : Src w' B g m bs st := by
  obtain ⟨A, c, h1, h2, h3, r⟩ := h
  exact ⟨A, c, h1.below hb (by omega), h2.below (hb.mono (by omega)), h3, r⟩
theorem Src.keepOnly {w w' : World} {B g m : Nat} {bs : Nat → Int} {st : Nat × Int} {row : Option Nat} (h : Src w B g m bs st) (hb : w.grownBy w' row) (hr : ∀ k, row = some k → g < k) : Src w' B g m bs st := by
  obtain ⟨A, c, h1, h2, h3, r⟩ := h
  have := h1.lt
  exact ⟨A, c, h1.grown hb (fun e => by have := hr _ e; omega), h2.only hb (by omega) (fun k e => by have := hr _ e; omega), h3, r⟩

theorem Src.dN {w : World} {B g m : Nat} {bs : Nat → Int} {st : Nat × Int} (h : Src w B g m bs st) (k : Nat) : Src (w.drewN k) B g m bs st := h
theorem Src.seed {w : World} {B g m : Nat} {bs : Nat → Int} {a : Nat} {s s' : Int} (h : Src w B g m bs (a, s)) (h0 : 0 ≤ s') (h1 : s' < 2147483647) : Src (w.setCell ⟨g, 2, none⟩ (.int .i64 s')) B g m bs (a, s') := by
  obtain ⟨A, c, hw, hc, hB, ha, hm, _, _, hb⟩ := h
  exact ⟨A, c, hw.put 2 (.int .i64 s'), hc.keep (fun p hp => World.cell?_setCell_other _ _ _ _ (fun e => by subst e; simp at hp; omega)), hB, ha, hm, h0, h1, hb⟩
theorem Src.ahead {w : World} {B g m : Nat} {bs : Nat → Int} {a : Nat} {s : Int} (h : Src w B g m bs (a, s)) (h0 : a < m) : Src (w.setCell ⟨g, 1, none⟩ (.int .i64 ((a : Int) + 1))) B g m bs (a + 1, s) := by
  obtain ⟨A, c, hw, hc, hB, ha, hm, hs0, hs1, hb⟩ := h
  exact ⟨A, c, hw.put 1 (.int .i64 ((a : Int) + 1)), hc.keep (fun p hp => World.cell?_setCell_other _ _ _ _ (fun e => by subst e; simp at hp; omega)), hB, by simp only; omega, hm, hs0, hs1, hb⟩

set_option maxHeartbeats 1000000 in
theorem next_any (n : Int) (w : World) (B g m : Nat) (bs : Nat → Int) (st : Nat × Int) (h : Src w B g m bs st) (hn : n ≤ 9223372036854775807) :
    Calls Try.prog 53 #[.pointer (some ⟨g, 0, none⟩), .int .i64 n] w fun e w' => e = .returned (.int .i64 (nextV n m bs st)) ∧ Src w' B g m bs (nextS n m st) ∧ w.grownBy w' (some g) := by
  by_cases h1 : n ≤ 1
  · rw [nextV_one _ _ _ _ h1]
    go_enter Try.func53, Try.ntmps53
    go_wp2
    go_ret
    exact ⟨rfl, by unfold nextS; rw [if_pos h1]; exact h, only_refl _ _⟩
  obtain ⟨at', s⟩ := st
  have hh := Lib.hid h
  obtain ⟨A, c, hw, hc, hB, ha, hm, hs0, hs1, hb⟩ := h
  simp only at ha hs0 hs1 hw
  have c0 := hw.cell 0
  have c1 := hw.cell 1
  have c2 := hw.cell 2
  have f1 := hw.frz 1
  have f2 := hw.frz 2
  simp at c0 c1 c2
  have sb := seedV_bd s
  have hnS : nextS n m (at', s) = if at' < m then (at' + 1, seedV s) else (at', seedV s) := by unfold nextS; rw [if_neg h1]
  have hnV : nextV n m bs (at', s) = if at' < m then (if n ≤ 256 ∧ (at' + 1) % 2 = 0 then bs at' % n else (seedV s / 17 + bs at') % n) else (seedV s / 17) % n := by unfold nextV; rw [if_neg h1]
  by_cases h2 : at' < m
  · rw [if_pos h2] at hnS hnV
    obtain ⟨ad, rfl, hadB, hcode⟩ := hc (by omega)
    obtain ⟨b0, b1⟩ := hb at'
    clear hc hb hw
    have k1 : ∀ u v k, (((w.setCell ⟨g, 2, none⟩ u).drewN k).setCell ⟨g, 1, none⟩ v).cell? (ad.add at') = some (.int .u8 (bs at')) := fun u v k => by
      rw [World.cell?_setCell_other _ _ _ _ (fun e => by have := congrArg Addr.block e; rw [block_add] at this; simp at this; omega)]
      show (w.setCell ⟨g, 2, none⟩ u).cell? (ad.add at') = _
      rw [World.cell?_setCell_other _ _ _ _ (fun e => by have := congrArg Addr.block e; rw [block_add] at this; simp at this; omega)]
      exact hcode at' h2
    have k2 : ∀ u, (w.setCell ⟨g, 2, none⟩ u).cell? (ad.add at') = some (.int .u8 (bs at')) := fun u => by
      rw [World.cell?_setCell_other _ _ _ _ (fun e => by have := congrArg Addr.block e; rw [block_add] at this; simp at this; omega)]
      exact hcode at' h2
    clear hcode
    by_cases h3 : n ≤ 256
    · by_cases h4 : (at' + 1) % 2 = 0
      · rw [if_pos ⟨h3, h4⟩] at hnV
        have d4 : (((at' : Int) + 1) % 2 == 0) = true := by rw [beq_iff_eq]; omega
        clear h4
        replace hnV := Lib.hid hnV
        replace hnS := Lib.hid hnS
        go_enter Try.func53, Try.ntmps53
        go_wp2
        go_quiet (fail)
        go_wp2
        go_quiet (fail)
        go_wp2
        have hwr : IntKind.i64.wrap (at' : Int) = at' := IntWalk.i64_in _ (by omega)
        go_quiet (fail)
        clear hwr
        go_wp2
        go_ret
        refine ⟨ret_i (by rw [hnV.out]), ?_, only_drewN' (only_put (only_drewN' (only_put (only_refl _ _) _ _) _) _ _) _⟩
        rw [hnS.out]
        exact (((hh.out.seed sb.1 sb.2).dN _).ahead h2).dN _
      · rw [if_neg (by omega)] at hnV
        have d4 : (((at' : Int) + 1) % 2 == 0) = false := by rw [beq_eq_false_iff_ne]; omega
        clear h4
        replace hnV := Lib.hid hnV
        replace hnS := Lib.hid hnS
        go_enter Try.func53, Try.ntmps53
        go_wp2
        go_quiet (fail)
        go_wp2
        go_quiet (fail)
        go_wp2
        go_ret
        refine ⟨ret_i (by rw [hnV.out]; rfl), ?_, only_put (only_drewN' (only_put (only_refl _ _) _ _) _) _ _⟩
        rw [hnS.out]
        exact ((hh.out.seed sb.1 sb.2).dN _).ahead h2
    · rw [if_neg (by omega)] at hnV
      replace hnV := Lib.hid hnV
      replace hnS := Lib.hid hnS
      go_enter Try.func53, Try.ntmps53
      go_wp2
      go_quiet (fail)
      go_wp2
      go_quiet (fail)
      go_wp2
      go_ret
      refine ⟨ret_i (by rw [hnV.out]; rfl), ?_, only_put (only_drewN' (only_put (only_refl _ _) _ _) _) _ _⟩
      rw [hnS.out]
      exact ((hh.out.seed sb.1 sb.2).dN _).ahead h2
  · rw [if_neg h2] at hnS hnV
    clear hc hb hw
    replace hnV := Lib.hid hnV
    replace hnS := Lib.hid hnS
    go_enter Try.func53, Try.ntmps53
    go_wp2
    go_quiet (fail)
    go_wp2
    go_ret
    refine ⟨ret_i (by rw [hnV.out]; rfl), ?_, only_drewN' (only_put (only_refl _ _) _ _) _⟩
    rw [hnS.out]
    exact (hh.out.seed sb.1 sb.2).dN _
end Go.Proofs.Ytghpaegabppeaaa
