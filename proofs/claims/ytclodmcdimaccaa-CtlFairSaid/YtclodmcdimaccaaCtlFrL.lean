/- Plain: CtlFair's rounds, reckoned from the number 0 on: two losses, and three. -/
import Derived.Test.YtclodmcdimaccaaCtlFrP
namespace Go.Proofs.Ytclodmcdimaccaa

set_option maxRecDepth 1000000 in
theorem frCheck_all2 : ∀ w, w < 8 → ∀ n, n < 41 → frCheck w n 2 = true := by decide +kernel
set_option maxRecDepth 1000000 in
theorem frCheck_all3 : ∀ w, w < 8 → ∀ n, n < 41 → frCheck w n 3 = true := by decide +kernel
end Go.Proofs.Ytclodmcdimaccaa
