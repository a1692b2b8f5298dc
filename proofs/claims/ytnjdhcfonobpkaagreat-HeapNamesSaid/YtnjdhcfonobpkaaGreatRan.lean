/- The abstract machine's run of 'HeapNames' gives true: computed by the kernel. -/
import Derived.Test.YtnjdhcfonobpkaaGreatAbs
import Derived.Test.YtnjdhcfonobpkaaGreatPaleFast
namespace Go.Proofs.YtnjdhcfonobpkaaGreat
open Go Go.Proofs.YtnjdhcfonobpkaaGreat.Pale
theorem ran : isTrue (callF 1000 absProg (.func 3 [] []) [] AMem.empty) = true := by kernel_rfl
end Go.Proofs.YtnjdhcfonobpkaaGreat
