/- 'casematelaw13.BusKnown' gives true: the abstract run of its text, asked of the kernel. No condition. -/
import Derived.Test.YtfjcfjfgamajkaaAiEnv
namespace Go.Proofs.Ytfjcfjfgamajkaa.busKnown
open Go Go.Ai
theorem ran : isTrue (run env (99 + 1) 8) = true := by kernel_rfl
end Go.Proofs.Ytfjcfjfgamajkaa.busKnown
