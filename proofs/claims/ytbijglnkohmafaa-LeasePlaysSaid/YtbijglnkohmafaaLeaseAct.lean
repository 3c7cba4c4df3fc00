
/-
  The acts of a script are ints through and through.
-/
import Derived.Test.YtbijglnkohmafaaRows
import Derived.Test.YtbijglnkohmafaaOpenI
namespace Go.Proofs.Ytbijglnkohmafaa
open Go.Joins Go.ChangeShapes Go.WideShapes Go.ChangeAt Go.RowKit Go.Deep

section
variable {H : Type} {enc : TypeId × Value → H} {w : World} {base : Nat} {spare : Nat → Bool} {held : Bool}
theorem int_ints : IntsT enc Try.prog w base spare held 3 := IntsT.int Try.underlying3
theorem stamp_ints : IntsT enc Try.prog w base spare held 29 :=
  IntsT.struct Try.underlying29 (fun j f hj => by
    match j, hj with
    | 0, hj => simp at hj; subst hj; exact int_ints
    | 1, hj => simp at hj; subst hj; exact int_ints
    | j + 2, hj => simp at hj) (by kernel_rfl)
theorem act_ints : IntsT enc Try.prog w base spare held 50 :=
  IntsT.struct Try.underlying50 (fun j f hj => by
    match j, hj with
    | 0, hj => simp at hj; subst hj; exact int_ints
    | 1, hj => simp at hj; subst hj; exact int_ints
    | 2, hj => simp at hj; subst hj; exact int_ints
    | 3, hj => simp at hj; subst hj; exact int_ints
    | 4, hj => simp at hj; subst hj; exact stamp_ints
    | j + 5, hj => simp at hj) (by kernel_rfl)
end
end Go.Proofs.Ytbijglnkohmafaa
