/- The law's own run on the abstract machine, by the kernel. -/
import Derived.Test.YtnjdhcfonobpkabGreatDoorAbs
import Derived.Test.YtnjdhcfonobpkabGreatDoorPaleFast
import Derived.KernelRfl
set_option maxRecDepth 100000
namespace Go.Proofs.YtnjdhcfonobpkabGreatDoor
open Go Go.Proofs.YtnjdhcfonobpkabGreatDoor.Pale
theorem ran : isTrue (callF 1000 absProg (.func 3 [] []) [] AMem.empty) = true := by kernel_rfl
end Go.Proofs.YtnjdhcfonobpkabGreatDoor
