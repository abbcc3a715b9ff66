/- Functions of the law FnDiskCrash as plain Lean functions, and that the machine's calls do what they say. -/
import Derived.Test.YtjmdinhobhoojaaZFnDiskCrash0
import Derived.Test.YtjmdinhobhoojaaZFnDiskCrash4
namespace Go.Proofs.Ytjmdinhobhoojaa.P
open Go.RowKit Go.Proofs.YtjmdinhobhoojaaW.PrintWords Go.Proofs.YtjmdinhobhoojaaW.PrintLast Go.Proofs.YtjmdinhobhoojaaW.PrintMore
attribute [local go_sem] max2_int min2_int max_two min_two max_three min_three max_four min_four   -- for this text's walks alone
set_option linter.unusedVariables false
set_option linter.unusedSimpArgs false
def laws_eqWaitS.T6 : Bool × List (List Nat × List Nat) := (true, [([], []), ([], []), ([0, 1], [0, 1]), ([2], [2]), ([], []), ([], []), ([4, 5], [4, 5]), ([6], [6]), ([3, 7], [3, 7]), ([8], [8])])
def laws_eqWaitS.B6 : List Nat := [0, 0, 3, 7, 0, 0, 48, 112, 255, 511]
theorem laws_eqWaitS.tab6 : rtab .any (opsOf Try.f38 6) = laws_eqWaitS.T6 := by kernel_rfl
theorem laws_eqWaitS.bits6 : waitsOk laws_eqWaitS.T6.2 laws_eqWaitS.B6 = true := by kernel_rfl
end Go.Proofs.Ytjmdinhobhoojaa.P
