/- The plain statement of the law FnExactConstants, proved. -/
import Derived.Test.YtjmdinhobhoojaaZFnExactConstants0
/- The program's constants are the reference's. No condition. -/
namespace Go.Proofs.Ytjmdinhobhoojaa.Pure
open Go.RowKit Go.Proofs.Ytjmdinhobhoojaa.P

theorem FnExactConstants : laws_FnExactConstants.Pure := rfl

end Go.Proofs.Ytjmdinhobhoojaa.Pure
