/- What the proofs of this seat ask of its program. -/
import Derived.Test.YtikhidpcaefjiaaGreatDoorLaw
import Derived.Test.YtikhidpcaefjiaaGreatDoorPaleSym
import Derived.KernelRfl
set_option maxRecDepth 100000
namespace Go.Proofs.YtikhidpcaefjiaaGreatDoor
open Go Go.Proofs.YtikhidpcaefjiaaGreatDoor.Pale
theorem ty3 : lawProg.ty 3 = some (⟨.int .i64, 1, 8, [.int .i64 0]⟩ : TyI) := by kernel_rfl
theorem ty4 : lawProg.ty 4 = some (⟨.bool, 1, 1, [.bool false]⟩ : TyI) := by kernel_rfl
theorem ty5 : lawProg.ty 5 = some (⟨.int .u8, 1, 1, [.int .u8 0]⟩ : TyI) := by kernel_rfl
theorem ty9 : lawProg.ty 9 = some (⟨.string, 1, 16, [.str []]⟩ : TyI) := by kernel_rfl
theorem ty22 : lawProg.ty 22 = some (⟨.slice 5, 1, 24, [.vs .nil []]⟩ : TyI) := by kernel_rfl
theorem ty24 : lawProg.ty 24 = some (⟨.slice 32, 1, 24, [.vs .nil []]⟩ : TyI) := by kernel_rfl
theorem ty25 : lawProg.ty 25 = some (⟨.int .i64, 1, 8, [.int .i64 0]⟩ : TyI) := by kernel_rfl
theorem ty32 : lawProg.ty 32 = some (⟨.struct [(0, 3), (1, 3), (2, 3), (3, 22)], 4, 48, [.int .i64 0, .int .i64 0, .int .i64 0, .vs .nil []]⟩ : TyI) := by kernel_rfl
theorem fn3 : lawProg.func 3 = some Tryz.f3 := by kernel_rfl
theorem fn9 : lawProg.func 9 = some Tryz.f9 := by kernel_rfl
theorem fn10 : lawProg.func 10 = some Tryz.f10 := by kernel_rfl
theorem fn11 : lawProg.func 11 = some Tryz.f11 := by kernel_rfl
theorem fn12 : lawProg.func 12 = some Tryz.f12 := by kernel_rfl
theorem fn13 : lawProg.func 13 = some Tryz.f13 := by kernel_rfl
theorem fn14 : lawProg.func 14 = some Tryz.f14 := by kernel_rfl
theorem fn20 : lawProg.func 20 = some Tryz.f20 := by kernel_rfl
theorem fn49 : lawProg.func 49 = some Tryz.f49 := by kernel_rfl
theorem fn50 : lawProg.func 50 = some Tryz.f50 := by kernel_rfl
theorem fn51 : lawProg.func 51 = some Tryz.f51 := by kernel_rfl
theorem fn52 : lawProg.func 52 = some Tryz.f52 := by kernel_rfl
theorem fn98 : lawProg.func 98 = some Tryz.f98 := by kernel_rfl
theorem bookNo3 : bookL.get 3 = none := by kernel_rfl
theorem memo3 (args : List AVal) : lawProg.memo 3 args = none := by show lookB bookL 3 args = none; unfold lookB; rw [bookNo3]
theorem valA3 : valB 0 3 = false := by kernel_rfl
theorem val3 (c : Nat) : lawProg.isVal c 3 = false := valA3
theorem memo9 : lawProg.memo 9 [] = some (.bool true, true) := by kernel_rfl
theorem valA9 : valB 0 9 = true := by kernel_rfl
theorem val9 (c : Nat) : lawProg.isVal c 9 = true := valA9
theorem bookNo10 : bookL.get 10 = none := by kernel_rfl
theorem memo10 (args : List AVal) : lawProg.memo 10 args = none := by show lookB bookL 10 args = none; unfold lookB; rw [bookNo10]
theorem valA10 : valB 0 10 = true := by kernel_rfl
theorem val10 (c : Nat) : lawProg.isVal c 10 = true := valA10
theorem bookNo11 : bookL.get 11 = none := by kernel_rfl
theorem memo11 (args : List AVal) : lawProg.memo 11 args = none := by show lookB bookL 11 args = none; unfold lookB; rw [bookNo11]
theorem valA11 : valB 0 11 = true := by kernel_rfl
theorem val11 (c : Nat) : lawProg.isVal c 11 = true := valA11
theorem bookNo12 : bookL.get 12 = none := by kernel_rfl
theorem memo12 (args : List AVal) : lawProg.memo 12 args = none := by show lookB bookL 12 args = none; unfold lookB; rw [bookNo12]
theorem valA12 : valB 0 12 = true := by kernel_rfl
theorem val12 (c : Nat) : lawProg.isVal c 12 = true := valA12
theorem bookNo13 : bookL.get 13 = none := by kernel_rfl
theorem memo13 (args : List AVal) : lawProg.memo 13 args = none := by show lookB bookL 13 args = none; unfold lookB; rw [bookNo13]
theorem valA13 : valB 0 13 = true := by kernel_rfl
theorem val13 (c : Nat) : lawProg.isVal c 13 = true := valA13
theorem bookNo14 : bookL.get 14 = none := by kernel_rfl
theorem memo14 (args : List AVal) : lawProg.memo 14 args = none := by show lookB bookL 14 args = none; unfold lookB; rw [bookNo14]
theorem valA14 : valB 0 14 = true := by kernel_rfl
theorem val14 (c : Nat) : lawProg.isVal c 14 = true := valA14
theorem bookNo20 : bookL.get 20 = none := by kernel_rfl
theorem memo20 (args : List AVal) : lawProg.memo 20 args = none := by show lookB bookL 20 args = none; unfold lookB; rw [bookNo20]
theorem valA20 : valB 0 20 = true := by kernel_rfl
theorem val20 (c : Nat) : lawProg.isVal c 20 = true := valA20
theorem bookNo49 : bookL.get 49 = none := by kernel_rfl
theorem memo49 (args : List AVal) : lawProg.memo 49 args = none := by show lookB bookL 49 args = none; unfold lookB; rw [bookNo49]
theorem valA49 : valB 0 49 = true := by kernel_rfl
theorem val49 (c : Nat) : lawProg.isVal c 49 = true := valA49
theorem bookNo50 : bookL.get 50 = none := by kernel_rfl
theorem memo50 (args : List AVal) : lawProg.memo 50 args = none := by show lookB bookL 50 args = none; unfold lookB; rw [bookNo50]
theorem valA50 : valB 0 50 = false := by kernel_rfl
theorem val50 (c : Nat) : lawProg.isVal c 50 = false := valA50
theorem bookNo51 : bookL.get 51 = none := by kernel_rfl
theorem memo51 (args : List AVal) : lawProg.memo 51 args = none := by show lookB bookL 51 args = none; unfold lookB; rw [bookNo51]
theorem valA51 : valB 0 51 = true := by kernel_rfl
theorem val51 (c : Nat) : lawProg.isVal c 51 = true := valA51
theorem bookNo52 : bookL.get 52 = none := by kernel_rfl
theorem memo52 (args : List AVal) : lawProg.memo 52 args = none := by show lookB bookL 52 args = none; unfold lookB; rw [bookNo52]
theorem valA52 : valB 0 52 = true := by kernel_rfl
theorem val52 (c : Nat) : lawProg.isVal c 52 = true := valA52
theorem bookNo98 : bookL.get 98 = none := by kernel_rfl
theorem memo98 (args : List AVal) : lawProg.memo 98 args = none := by show lookB bookL 98 args = none; unfold lookB; rw [bookNo98]
theorem valA98 : valB 0 98 = false := by kernel_rfl
theorem val98 (c : Nat) : lawProg.isVal c 98 = false := valA98
theorem ord10_9 : lawProg.ord 10 9 = some ⟨[(0, []), (1, []), (2, []), (3, []), (4, []), (5, [0, 1, 2]), (6, []), (7, []), (8, []), (9, [])], [[], [], [], [2], [], [4], [1, 2, 3, 4, 5], [1, 2, 3, 4, 5, 6], [0, 1, 2, 3, 4, 5, 6, 7], [0, 1, 2, 3, 4, 5, 6, 7, 8]]⟩ := by kernel_rfl
theorem ord14_6 : lawProg.ord 14 6 = some ⟨[(0, []), (1, []), (2, []), (3, []), (4, []), (5, []), (6, []), (7, []), (8, []), (9, [])], [[], [], [0, 1], [0, 1, 2], [], [], [4, 5], [4, 5, 6], [0, 1, 2, 3, 4, 5, 6, 7], [0, 1, 2, 3, 4, 5, 6, 7, 8]]⟩ := by kernel_rfl
theorem ord98_3 : lawProg.ord 98 3 = some ⟨[(0, []), (1, []), (2, []), (3, []), (4, []), (5, []), (6, [])], [[], [], [], [1, 2], [1, 2, 3], [0, 1, 2, 3, 4], [0, 1, 2, 3, 4, 5]]⟩ := by kernel_rfl
end Go.Proofs.YtikhidpcaefjiaaGreatDoor
