/- The plain statement of the law FnExactModelNew, proved. -/
import Derived.Test.YtgkgkpoeiojmeaaZFnExactModelNew3
import Derived.KernelRfl
/- The plain statement of FnExactModelNew: all is told by reckoning. -/
namespace Go.Proofs.Ytgkgkpoeiojmeaa.Pure
open Go.RowKit Go.Proofs.Ytgkgkpoeiojmeaa.P Go.Proofs.YtgkgkpoeiojmeaaW.PrintWords Go.Proofs.YtgkgkpoeiojmeaaW.PrintMore
theorem FnExactModelNew : laws_FnExactModelNew.Pure := by
  exact ⟨60, by kernel_rfl⟩
end Go.Proofs.Ytgkgkpoeiojmeaa.Pure
