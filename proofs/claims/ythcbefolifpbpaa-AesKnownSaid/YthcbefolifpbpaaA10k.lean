/- The examples of the chapter, reckoned. No condition but those in the theorems. -/
import Derived.Test.YthcbefolifpbpaaA9
namespace Go.Proofs.Ythcbefolifpbpaa
open Go Go.Ai Go.Aw Go.Proofs
def z16 : List Nat := [0, 0, 0, 0, 0, 0, 0, 0, 0, 0, 0, 0, 0, 0, 0, 0]
def z32 : List Nat := [0, 0, 0, 0, 0, 0, 0, 0, 0, 0, 0, 0, 0, 0, 0, 0, 0, 0, 0, 0, 0, 0, 0, 0, 0, 0, 0, 0, 0, 0, 0, 0]
theorem known1 : M (openK (keysL S0 kS) (sealK (keysL S0 kS) bS)) = M bS := by kernel_rfl
theorem known2 : M (sealK (keysL S0 z32) z16) = [0xdc, 0x95, 0xc0, 0x78, 0xa2, 0x40, 0x89, 0x89, 0xad, 0x48, 0xa2, 0x14, 0x92, 0x84, 0x20, 0x87] := by kernel_rfl
end Go.Proofs.Ythcbefolifpbpaa
