/- Plain: CtlFair's rounds, reckoned from the number 0 on: no losses, and one. -/
import Derived.Test.YtclodmcdimaccaaCtlFrP
namespace Go.Proofs.Ytclodmcdimaccaa

set_option maxRecDepth 1000000 in
theorem frCheck_all0 : ∀ w, w < 8 → ∀ n, n < 41 → frCheck w n 0 = true := by decide +kernel
set_option maxRecDepth 1000000 in
theorem frCheck_all1 : ∀ w, w < 8 → ∀ n, n < 41 → frCheck w n 1 = true := by decide +kernel
end Go.Proofs.Ytclodmcdimaccaa
