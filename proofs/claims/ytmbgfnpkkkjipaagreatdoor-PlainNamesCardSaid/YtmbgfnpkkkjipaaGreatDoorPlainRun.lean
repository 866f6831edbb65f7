/- The kernel runs the closed call PlainNames to its end: the fast executor answers true. -/
import Derived.KernelRfl
import Derived.Lib.TrailingZeros
import Derived.Test.YtmbgfnpkkkjipaaGreatDoorProg
import Derived.Test.YtmbgfnpkkkjipaaGreatDoorExA
namespace Go.Proofs.YtmbgfnpkkkjipaaGreatDoor
open Go.Ex
noncomputable def known : Nat → Option (List Value) := fun g => Nat.rec (some (Lib.deBruijn32tab.map fun n : Nat => .int .u8 n)) (fun _ _ => none) g
noncomputable def isTrue : Option W → Bool
  | some (.v (.c (.raw (.bool b)))) => b
  | _ => false
theorem plainNames_run : isTrue (runC Tryz.prog known 1000 3 []) = true := by kernel_rfl
end Go.Proofs.YtmbgfnpkkkjipaaGreatDoor
