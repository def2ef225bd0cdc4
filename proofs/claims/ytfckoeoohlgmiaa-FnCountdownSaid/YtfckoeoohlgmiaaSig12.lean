/- LawfulKinds with its results as variables. -/
import Derived.Test.YtfckoeoohlgmiaaSig11
namespace Go.Proofs.Ytfckoeoohlgmiaa
open Go.RowKit

theorem lawfulKinds_val (A : Option Addr) (n c B : Nat) (xs : Nat → Int) (t : Int) (w : World) (K : Nat) (L : List Int) (co : Int) (hL : Hid (kindL n xs t = L)) (hc : Hid (forC n xs t = co)) (hK : Hid (L.length = K)) (hx : Ints w B A (n * 2) xs) (hB : B ≤ w.heap.size) (hn : n ≤ 9223372036854775807) :
    Calls Try.prog 20 #[.slice A n c, .int .i64 t] w fun e w' => Gave 2 1 K w w' e L co := by
  have h1 := hL.out
  have h2 := hc.out
  have h3 := hK.out
  clear hL hc hK
  subst h1; subst h2; subst h3
  exact lawfulKinds_any A n c B xs t w hx hB hn
theorem sLawfulKinds_val (A : Option Addr) (n c B : Nat) (xs : Nat → Int) (t : Int) (w : World) (K : Nat) (L : List Int) (co : Int) (hL : Hid (kindL n xs t = L)) (hc : Hid (forC n xs t = co)) (hK : Hid (L.length = K)) (hx : Ints w B A (n * 2) xs) (hB : B ≤ w.heap.size) (hn : n ≤ 9223372036854775807) :
    Calls Try.prog 19 #[.slice A n c, .int .i64 t] w fun e w' => Gave 2 1 K w w' e L co := by
  have h1 := hL.out
  have h2 := hc.out
  have h3 := hK.out
  clear hL hc hK
  subst h1; subst h2; subst h3
  exact sLawfulKinds_any A n c B xs t w hx hB hn
end Go.Proofs.Ytfckoeoohlgmiaa
