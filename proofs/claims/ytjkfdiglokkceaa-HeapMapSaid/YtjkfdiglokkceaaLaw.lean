/- The abstract program with the calls that are calls of values, and the law's own example that is known. -/
import Derived.Test.YtjkfdiglokkceaaAbs
import Derived.Test.YtjkfdiglokkceaaPaleBook
import Derived.KernelRfl
set_option maxRecDepth 100000
namespace Go.Proofs.Ytjkfdiglokkceaa
open Go Go.Proofs.Ytjkfdiglokkceaa.Pale
noncomputable def valT : Tr Unit := (.node none (.node none (.node none (.node none (.node (some ()) (.node (some ()) (.node (some ()) .nil .nil) (.node (some ()) .nil .nil)) .nil) (.node (some ()) (.node (some ()) (.node (some ()) .nil .nil) .nil) (.node none (.node (some ()) .nil .nil) .nil))) (.node (some ()) (.node (some ()) (.node (some ()) .nil .nil) .nil) (.node (some ()) (.node (some ()) (.node (some ()) .nil .nil) .nil) (.node none (.node (some ()) .nil .nil) .nil)))) (.node none (.node none (.node (some ()) (.node (some ()) .nil .nil) .nil) (.node (some ()) (.node (some ()) (.node (some ()) .nil .nil) .nil) (.node (some ()) .nil .nil))) (.node (some ()) (.node (some ()) (.node (some ()) .nil .nil) .nil) (.node (some ()) (.node (some ()) .nil .nil) (.node none (.node (some ()) .nil .nil) .nil))))) (.node none (.node none (.node none (.node (some ()) (.node (some ()) .nil (.node (some ()) .nil .nil)) .nil) (.node (some ()) (.node (some ()) (.node (some ()) .nil .nil) .nil) (.node (some ()) (.node (some ()) .nil .nil) .nil))) (.node (some ()) (.node (some ()) (.node (some ()) .nil .nil) .nil) (.node (some ()) (.node (some ()) (.node (some ()) .nil .nil) .nil) (.node none (.node (some ()) .nil .nil) .nil)))) (.node none (.node none (.node (some ()) (.node (some ()) .nil .nil) (.node (some ()) .nil .nil)) (.node (some ()) (.node (some ()) (.node (some ()) .nil .nil) .nil) .nil)) (.node (some ()) (.node (some ()) (.node (some ()) .nil .nil) (.node none (.node (some ()) .nil .nil) .nil)) (.node (some ()) .nil .nil)))))
def notL : List (Nat × Nat) := [(21, 16), (29, 16), (31, 16), (33, 16)]
noncomputable def valB (c g : Nat) : Bool := match valT.get g with
  | some _ => !(notL.any fun p => p.1 == c && p.2 == g)
  | none => false
def awakePage : Page := ([], .bool true, true)
theorem awakeRan : ranB absProg 1000 12 awakePage = true := by kernel_rfl
noncomputable def bookL : Tr (List Page) := (.node none .nil (.node none (.node none .nil (.node (some [awakePage]) .nil .nil)) .nil))
theorem bookL_eq : bookL = bookOf [(12, awakePage)] := by kernel_rfl
noncomputable def lawProg : AProg := absProg.withBook valB bookL
theorem lawOk : AOk Try.prog lawProg := absOk.withBook valB bookL (by rw [bookL_eq]; exact bookOf_ok _ (.cons (PageOk.of_ran absOk awakeRan) .nil))
end Go.Proofs.Ytjkfdiglokkceaa
