/- A region that draws its order, by an invariant of the operations that have run. -/
import Derived.RegionTactic
import Derived.Test.YtbmclcajgplpnaaDoorBase
set_option linter.unusedSimpArgs false
set_option linter.unusedVariables false
namespace Go.Proofs.YtbmclcajgplpnaaDoor
open Go.RowKit

/-- What an operation waits for. -/
def waits (ops : Array Oper) (i : Nat) : List Nat :=
  match ops[i]? with
  | some o => (o.after.toList.filter fun e => Region.binds .any e).map (·.on)
  | none => []
def upB (L : Nat → Bool) (i : Nat) (j : Nat) : Bool := if j = i then true else L j
def upV (x : Nat → Value) (d : Option Tmp) (v : Value) : Nat → Value :=
  match d with
  | some t => fun j => if j = t then v else x j
  | none => x
/-- The frame with the temporaries of 'ds' out of x. -/
def fillL (ds : List Nat) (x : Nat → Value) : Nat → List Value → List Value
  | _, [] => []
  | k, y :: ys => (if ds.contains k then x k else y) :: fillL ds x (k + 1) ys
def fillA (a : Act) (ds : List Nat) (x : Nat → Value) : Act := { a with tmps := ⟨fillL ds x 0 a.tmps.toList⟩ }
theorem fillL_get (ds : List Nat) (x : Nat → Value) : ∀ (ys : List Value) (k j : Nat), (fillL ds x k ys)[j]? = (ys[j]?).map fun y => if ds.contains (k + j) then x (k + j) else y
  | [], k, j => by simp [fillL]
  | y :: ys, k, 0 => by simp [fillL]
  | y :: ys, k, j + 1 => by
    rw [fillL, List.getElem?_cons_succ, List.getElem?_cons_succ, fillL_get ds x ys (k + 1) j, show k + 1 + j = k + (j + 1) by omega]
theorem fillA_self (a : Act) (ds : List Nat) : fillA a ds (fun t => a.tmps.getD t undef) = a := by
  unfold fillA
  cases a with
  | mk tmps defers =>
    congr 1
    apply Array.ext_getElem?
    intro j
    rw [List.getElem?_toArray, fillL_get]
    simp only [Nat.zero_add]
    rw [Array.getElem?_toList]
    cases h : tmps[j]? with
    | none => rfl
    | some y => simp [h]
theorem fillA_put (a : Act) (ds : List Nat) (x : Nat → Value) (d : Option Tmp) (v : Value) (h : ∀ t, d = some t → ds.contains t = true) : (fillA a ds x).put d v = fillA a ds (upV x d v) := by
  cases d with
  | none => rfl
  | some t =>
    have ht := h t rfl
    unfold fillA Act.put upV
    simp only [Act.mk.injEq, and_true]
    apply Array.ext_getElem?
    intro j
    rw [Array.getElem?_setIfInBounds, List.getElem?_toArray, List.getElem?_toArray, fillL_get, fillL_get]
    simp only [Nat.zero_add]
    by_cases hj : t = j
    · subst hj
      rw [if_pos rfl]
      simp only [ht, if_true]
      by_cases hl : t < (fillL ds x 0 a.tmps.toList).length
      · have h1 : (fillL ds x 0 a.tmps.toList)[t]? = some (fillL ds x 0 a.tmps.toList)[t] := List.getElem?_eq_getElem hl
        rw [fillL_get] at h1
        cases h2 : a.tmps.toList[t]? with
        | none => rw [h2] at h1; cases h1
        | some y => simp [hl]
      · have h1 : (fillL ds x 0 a.tmps.toList)[t]? = none := List.getElem?_eq_none (Nat.le_of_not_lt hl)
        rw [fillL_get] at h1
        cases h2 : a.tmps.toList[t]? with
        | none => simp [hl]
        | some y => rw [h2] at h1; cases h1
    · rw [if_neg hj]
      have hj' : ¬ j = t := fun e => hj e.symm
      simp only [hj', if_false]

section
variable {P : Program} {ops : Array Oper} {Q : Exit → Act → World → Prop}
def InvAt (P : Program) (ops : Array Oper) (Q : Exit → Act → World → Prop) (S : (Nat → Bool) → (Nat → Value) → World → Prop) (a : Act) (ds : List Nat) (L : Nat → Bool) (x : Nat → Value) (w : World) (i : Nat) (d : List Nat) : Prop :=
  L i = false → (∀ j ∈ d, L j = true) → wpOp P ops Q i (fun a' w' => ∃ y, a' = fillA a ds y ∧ S (upB L i) y w') (fillA a ds x) w
theorem InvAt.mk {S : (Nat → Bool) → (Nat → Value) → World → Prop} {a : Act} {ds : List Nat} {L : Nat → Bool} {x : Nat → Value} {w : World} {i : Nat} {d : List Nat} {o : Oper} (ho : ops[i]? = some o) (hd : ∀ t, o.dst = some t → ds.contains t = true)
    (h : L i = false → (∀ j ∈ d, L j = true) → ∀ K : Act → World → Prop, (∀ v a' w', S (upB L i) (upV x o.dst v) w' → a' = (fillA a ds x).put o.dst v → K a' w') → if Region.wanted o (yielded ops (fillA a ds x).tmps) = true then Oper.wp P o (fillA a ds x) w K Q else K ((fillA a ds x).put o.dst undef) w) :
    InvAt P ops Q S a ds L x w i d := fun hL hj => wpOp_step ho fun K hK => h hL hj K fun v a' w' hS e => hK a' w' ⟨upV x o.dst v, by rw [e, fillA_put _ _ _ _ _ hd], hS⟩
def InvFrom (P : Program) (ops : Array Oper) (Q : Exit → Act → World → Prop) (S : (Nat → Bool) → (Nat → Value) → World → Prop) (a : Act) (ds : List Nat) (L : Nat → Bool) (x : Nat → Value) (w : World) : Nat → List (List Nat) → Prop
  | _, [] => True
  | k, d :: r => InvAt P ops Q S a ds L x w k d ∧ InvFrom P ops Q S a ds L x w (k + 1) r
theorem InvFrom.at {S : (Nat → Bool) → (Nat → Value) → World → Prop} {a : Act} {ds : List Nat} {L : Nat → Bool} {x : Nat → Value} {w : World} : ∀ (r : List (List Nat)) (k i : Nat) (d : List Nat), InvFrom P ops Q S a ds L x w k r → r[i]? = some d → InvAt P ops Q S a ds L x w (k + i) d
  | [], _, _, _, _, h => by simp at h
  | d :: r, k, 0, e, h, h1 => by simp at h1; subst h1; exact h.1
  | d :: r, k, i + 1, e, h, h1 => by
    have := InvFrom.at r (k + 1) i e h.2 (by simpa using h1)
    rw [show k + (i + 1) = k + 1 + i by omega]; exact this
theorem mem_waits {ops : Array Oper} {i : Nat} {o : Oper} {j : Nat} (ho : ops[i]? = some o) (hj : j ∈ waits ops i) : ∃ e ∈ o.after, Region.binds .any e = true ∧ e.on = j := by
  unfold waits at hj
  rw [ho] at hj
  simp only [List.mem_map, List.mem_filter] at hj
  obtain ⟨e, ⟨h1, h2⟩, rfl⟩ := hj
  exact ⟨e, by simpa using h1, h2, rfl⟩
theorem mem_ready' {ops : Array Oper} {listed : Array Bool} {i : Nat} (h : i ∈ Region.ready .any ops listed) : i < ops.size ∧ listed.getD i true = false ∧ ∀ j ∈ waits ops i, listed.getD j false = true := by
  simp only [Region.ready, List.mem_filter, List.mem_range, Bool.and_eq_true, Bool.not_eq_true'] at h
  obtain ⟨h1, h2, h3⟩ := h
  refine ⟨h1, h2, fun j hj => ?_⟩
  cases ho : ops[i]? with
  | none => rw [ho] at h3; simp at h3
  | some o =>
    rw [ho] at h3
    obtain ⟨e, he, hb, rfl⟩ := mem_waits ho hj
    simp only [Option.map_some, Option.getD_some, Array.all_eq_true_iff_forall_mem] at h3
    have := h3 e he
    simpa [hb] using this
theorem ready_first {ops : Array Oper} {listed : Array Bool} (hz : listed.size = ops.size) (hb : (List.range ops.size).all (fun i => (waits ops i).all fun j => decide (j < i)) = true) (hr : Region.ready .any ops listed = []) :
    ∀ i, i < ops.size → listed.getD i false = true := by
  intro i
  induction i using Nat.strongRecOn with
  | ind i ih =>
    intro hi
    cases hl : listed.getD i false with
    | true => rfl
    | false =>
      exfalso
      have hl2 : listed.getD i true = false := by
        have h1 : i < listed.size := by omega
        simpa [h1] using hl
      have : i ∈ Region.ready .any ops listed := by
        simp only [Region.ready, List.mem_filter, List.mem_range, Bool.and_eq_true, Bool.not_eq_true']
        refine ⟨hi, hl2, ?_⟩
        have ho : ops[i]? = some ops[i] := Array.getElem?_eq_getElem hi
        rw [ho]
        simp only [Option.map_some, Option.getD_some, Array.all_eq_true_iff_forall_mem]
        intro e he
        cases hbe : Region.binds .any e with
        | false => rfl
        | true =>
          have hw : e.on ∈ waits ops i := by
            unfold waits
            rw [ho]
            simp only [List.mem_map, List.mem_filter]
            exact ⟨e, ⟨by simpa using he, hbe⟩, rfl⟩
          simp only [List.all_eq_true, List.mem_range, decide_eq_true_eq] at hb
          have h3 := hb i hi e.on hw
          simpa using ih e.on h3 (by omega)
      rw [hr] at this
      cases this
theorem wpAny_inv (S : (Nat → Bool) → (Nat → Value) → World → Prop) {a : Act} (ds : List Nat) (deps : List (List Nat))
    (hdeps : (List.range ops.size).map (waits ops) = deps) (hb : (List.range ops.size).all (fun i => (waits ops i).all fun j => decide (j < i)) = true)
    (hs : ∀ L x w', S L x w' → InvFrom P ops Q S a ds L x w' 0 deps)
    (he : ∀ x w', S (fun i => decide (i < ops.size)) x w' → Q .normal (fillA a ds x) w') :
    ∀ (fuel : Nat) (listed : Array Bool) (x : Nat → Value) (w : World), listed.size = ops.size → (listed.toList.filter fun b => !b).length ≤ fuel → S (fun i => listed.getD i false) x w → wpAny P .any ops Q fuel listed (fillA a ds x) w := by
  have hend : ∀ (listed : Array Bool) (x : Nat → Value) (w : World), listed.size = ops.size → S (fun i => listed.getD i false) x w → Region.ready .any ops listed = [] → Q .normal (fillA a ds x) w := by
    intro listed x w hz hS hr
    have h1 := ready_first hz hb hr
    have h2 : (fun i => listed.getD i false) = (fun i => decide (i < ops.size)) := by
      funext i
      by_cases hi : i < ops.size
      · simp only [h1 i hi, decide_eq_true hi]
      · have h3 : ¬ i < listed.size := by omega
        simp [h3, hi]
    rw [h2] at hS
    exact he x w hS
  intro fuel
  induction fuel with
  | zero =>
    intro listed x w hz hf hS
    have hr : Region.ready .any ops listed = [] := by
      cases hr : Region.ready .any ops listed with
      | nil => rfl
      | cons i r =>
        have h1 := mem_ready' (ops := ops) (listed := listed) (i := i) (by rw [hr]; exact List.mem_cons_self ..)
        have h2 : i < listed.size := by omega
        have h3 := h1.2.1
        simp [h2] at h3
        have h4 : false ∈ listed.toList.filter fun b => !b := List.mem_filter.2 ⟨by rw [← h3]; simp, rfl⟩
        have h5 := List.length_pos_of_mem h4
        omega
    exact ⟨hr, hend listed x w hz hS hr⟩
  | succ fuel ih =>
    intro listed x w hz hf hS
    refine ⟨hend listed x w hz hS, fun i hi => ?_⟩
    obtain ⟨h1, h2, h3⟩ := mem_ready' hi
    have hlt : i < listed.size := by omega
    have hL : listed.getD i false = false := by simpa [hlt] using h2
    have hdi : deps[i]? = some (waits ops i) := by rw [← hdeps]; simp [h1]
    have hA := InvFrom.at _ _ _ _ (hs _ x w hS) hdi
    rw [Nat.zero_add] at hA
    refine wpOp_mono ?_ (hA hL h3)
    rintro a' w' ⟨y, rfl, hS'⟩
    refine ih _ y w' (by simpa using hz) ?_ ?_
    · have h5 : ∀ (l : List Bool) (i : Nat), l[i]? = some false → ((l.set i true).filter fun b => !b).length + 1 ≤ (l.filter fun b => !b).length := by
        intro l
        induction l with
        | nil => intro i h; simp at h
        | cons b l ihl =>
          intro i h
          cases i with
          | zero => simp at h; subst h; simp
          | succ i =>
            have := ihl i (by simpa using h)
            rw [List.set_cons_succ, List.filter_cons, List.filter_cons]
            cases b <;> simp <;> omega
      have h6 := h5 listed.toList i (by simp [hlt] at hL; simp [hlt, hL])
      rw [Array.toList_setIfInBounds]
      omega
    · have h7 : (fun j => (listed.setIfInBounds i true).getD j false) = upB (fun j => listed.getD j false) i := by
        funext j
        unfold upB
        by_cases hj : j = i
        · subst hj; simp [hlt]
        · rw [if_neg hj, getD_set_ne false (Ne.symm hj)]
      rw [h7]
      exact hS'
theorem wp_region_inv (S : (Nat → Bool) → (Nat → Value) → World → Prop) {id : Nat} {a : Act} {w : World} (ds : List Nat) (deps : List (List Nat)) (hm : P.follows .mixedOrders = true)
    (hdeps : (List.range ops.size).map (waits ops) = deps) (hb : (List.range ops.size).all (fun i => (waits ops i).all fun j => decide (j < i)) = true)
    (h0 : ∀ x, S (fun _ => false) x w.drew)
    (hs : ∀ L x w', S L x w' → InvFrom P ops Q S a ds L x w' 0 deps)
    (he : ∀ x w', S (fun i => decide (i < ops.size)) x w' → Q .normal (fillA a ds x) w') : (Code.region id ops true).wp P Q a w := by
  refine wp_region_any hm ?_
  have := wpAny_inv (a := a) S ds deps hdeps hb hs he ops.size (Array.replicate ops.size false) (fun t => a.tmps.getD t undef) w.drew (by simp) (by rw [Array.toList_replicate]; exact Nat.le_trans (List.length_filter_le _ _) (by simp)) (by
    have h7 : (fun j => (Array.replicate ops.size false).getD j false) = fun _ => false := by
      funext j
      by_cases hj : j < ops.size <;> simp [hj]
    rw [h7]; exact h0 _)
  rw [fillA_self] at this
  exact this
end
/-- What the operations that have run have left: 'G i' of the value of operation i, in the temporary 'D i'. -/
def Held (D : Nat → Nat) (G : Nat → Value → World → Prop) (n : Nat) (L : Nat → Bool) (x : Nat → Value) (w : World) : Prop := ∀ j, j < n → L j = true → G j (x (D j)) w
theorem Held.none {D : Nat → Nat} {G : Nat → Value → World → Prop} {n : Nat} {x : Nat → Value} {w : World} : Held D G n (fun _ => false) x w := fun _ _ h => by cases h
theorem Held.step {D : Nat → Nat} {G : Nat → Value → World → Prop} {n : Nat} {L : Nat → Bool} {x : Nat → Value} {w w' : World} (h : Held D G n L x w) (i d : Nat) (v : Value) (hd : D i = d) (hinj : ∀ j, j < n → j ≠ i → D j ≠ d) (hm : ∀ j y, G j y w → G j y w') (hG : G i v w') : Held D G n (upB L i) (upV x (some d) v) w' := by
  intro j hj hL
  unfold upB at hL
  by_cases hji : j = i
  · subst hji
    simp only [upV, hd, if_true]
    exact hG
  · rw [if_neg hji] at hL
    simp only [upV, if_neg (hinj j hj hji)]
    exact hm _ _ (h j hj hL)
end Go.Proofs.YtbmclcajgplpnaaDoor
