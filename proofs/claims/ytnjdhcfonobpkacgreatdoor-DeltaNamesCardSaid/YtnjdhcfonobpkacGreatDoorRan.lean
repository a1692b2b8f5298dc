/- The law's own run on the abstract machine, with the calls that are known, by the kernel. -/
import Derived.Test.YtnjdhcfonobpkacGreatDoorBook3
set_option maxRecDepth 100000
set_option linter.unusedVariables false
namespace Go.Proofs.YtnjdhcfonobpkacGreatDoor
open Go Go.Proofs.YtnjdhcfonobpkacGreatDoor.Pale
noncomputable def book4 : Tr (List Page) := (.node none (.node none (.node none (.node none (.node none (.node none (.node (some [pg1, pg4, pg5, pg7, pg16, pg21, pg22, pg24, pg31, pg32, pg36, pg37, pg41, pg42, pg44, pg48, pg50, pg54, pg56]) .nil .nil) (.node (some [pg0, pg3, pg20, pg30, pg35, pg40, pg53]) .nil .nil)) .nil) .nil) .nil) (.node none (.node none (.node none (.node none (.node (some [pg6, pg8, pg10, pg12, pg13, pg15, pg17, pg23, pg25, pg27, pg28, pg29, pg33, pg38, pg43, pg45, pg49, pg51, pg57]) .nil .nil) .nil) .nil) .nil) .nil)) (.node none (.node (some [pg46]) (.node none (.node (some [pg2, pg19, pg39, pg47, pg52, pg55, pg58]) .nil .nil) (.node none (.node none .nil (.node (some [pg9, pg11, pg14, pg18, pg26, pg34]) .nil .nil)) .nil)) .nil) .nil))
noncomputable def list4 : List (Nat × Page) := [(95, pg0), (63, pg1), (16, pg2), (95, pg3), (63, pg4), (63, pg5), (65, pg6), (63, pg7), (65, pg8), (104, pg9), (65, pg10), (104, pg11), (65, pg12), (65, pg13), (104, pg14), (65, pg15), (63, pg16), (65, pg17), (104, pg18), (16, pg19), (95, pg20), (63, pg21), (63, pg22), (65, pg23), (63, pg24), (65, pg25), (104, pg26), (65, pg27), (65, pg28), (65, pg29), (95, pg30), (63, pg31), (63, pg32), (65, pg33), (104, pg34), (95, pg35), (63, pg36), (63, pg37), (65, pg38), (16, pg39), (95, pg40), (63, pg41), (63, pg42), (65, pg43), (63, pg44), (65, pg45), (4, pg46), (16, pg47), (63, pg48), (65, pg49), (63, pg50), (65, pg51), (16, pg52), (95, pg53), (63, pg54), (16, pg55), (63, pg56), (65, pg57), (16, pg58)]
theorem book4_eq : book4 = bookOf list4 := by kernel_rfl
theorem list4_ok : BookOk Tryz.prog absProg.glob list4 :=
  (.cons ok0 (.cons ok1 (.cons ok2 (.cons ok3 (.cons ok4 (.cons ok5 (.cons ok6 (.cons ok7 (.cons ok8 (.cons ok9 (.cons ok10 (.cons ok11 (.cons ok12 (.cons ok13 (.cons ok14 (.cons ok15 (.cons ok16 (.cons ok17 (.cons ok18 (.cons ok19 (.cons ok20 (.cons ok21 (.cons ok22 (.cons ok23 (.cons ok24 (.cons ok25 (.cons ok26 (.cons ok27 (.cons ok28 (.cons ok29 (.cons ok30 (.cons ok31 (.cons ok32 (.cons ok33 (.cons ok34 (.cons ok35 (.cons ok36 (.cons ok37 (.cons ok38 (.cons ok39 (.cons ok40 (.cons ok41 (.cons ok42 (.cons ok43 (.cons ok44 (.cons ok45 (.cons ok46 (.cons ok47 (.cons ok48 (.cons ok49 (.cons ok50 (.cons ok51 (.cons ok52 (.cons ok53 (.cons ok54 (.cons ok55 (.cons ok56 (.cons ok57 (.cons ok58 BookOk.nil)))))))))))))))))))))))))))))))))))))))))))))))))))))))))))
noncomputable def prog4 : AProg := absProg.withBook valB book4
theorem ok_prog4 : AOk Tryz.prog prog4 := absOk.withBook valB book4 (by rw [book4_eq]; exact bookOf_ok list4 list4_ok)
theorem ran : isTrue (callF 1000 prog4 (.func 3 [] []) [] AMem.empty) = true := by kernel_rfl
noncomputable def topProg : AProg := prog4
theorem topOk : AOk Tryz.prog topProg := ok_prog4
theorem topRan : isTrue (callF 1000 topProg (.func 3 [] []) [] AMem.empty) = true := ran
end Go.Proofs.YtnjdhcfonobpkacGreatDoor
