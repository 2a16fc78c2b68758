/- Texts behind ThreadCommon, part 6: contracts of the program's functions and the plain words for them. -/
import Derived.Test.YtagdbadljcongaaTpaa
import Derived.Test.YtagdbadljcongaaTpac
section
namespace Go.Proofs.YtagdbadljcongaaW.PrintLast
open Go.Proofs.YtagdbadljcongaaW.PrintWords (Aside0)
section
variable {md : Region.Mode} {ops : Array Oper} {T : Bool × List (List Nat × List Nat)} {l l' li lj lk : Array Bool} {ds : List Nat} {i j k : Nat}
theorem gd (l : Array Bool) (j : Nat) (b : Bool) : l.getD j b = l.toList.getD j b := by simp [Array.getD_eq_getD_getElem?, List.getD_eq_getElem?_getD]
end
end Go.Proofs.YtagdbadljcongaaW.PrintLast
end
