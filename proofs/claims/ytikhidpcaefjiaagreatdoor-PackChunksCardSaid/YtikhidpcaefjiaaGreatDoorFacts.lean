/- What the proofs of this seat ask of its program. -/
import Derived.Test.YtikhidpcaefjiaaGreatDoorLaw
import Derived.Test.YtikhidpcaefjiaaGreatDoorPaleSym
import Derived.KernelRfl
set_option maxRecDepth 100000
namespace Go.Proofs.YtikhidpcaefjiaaGreatDoor
open Go Go.Proofs.YtikhidpcaefjiaaGreatDoor.Pale
theorem ty3 : lawProg.ty 3 = some (⟨.int .i64, 1, 8, [.int .i64 0]⟩ : TyI) := by kernel_rfl
theorem ty4 : lawProg.ty 4 = some (⟨.bool, 1, 1, [.bool false]⟩ : TyI) := by kernel_rfl
theorem ty5 : lawProg.ty 5 = some (⟨.int .u8, 1, 1, [.int .u8 0]⟩ : TyI) := by kernel_rfl
theorem ty9 : lawProg.ty 9 = some (⟨.string, 1, 16, [.str []]⟩ : TyI) := by kernel_rfl
theorem ty22 : lawProg.ty 22 = some (⟨.slice 5, 1, 24, [.vs .nil []]⟩ : TyI) := by kernel_rfl
theorem ty24 : lawProg.ty 24 = some (⟨.slice 32, 1, 24, [.vs .nil []]⟩ : TyI) := by kernel_rfl
theorem ty25 : lawProg.ty 25 = some (⟨.int .i64, 1, 8, [.int .i64 0]⟩ : TyI) := by kernel_rfl
theorem ty32 : lawProg.ty 32 = some (⟨.struct [(0, 3), (1, 3), (2, 3), (3, 22)], 4, 48, [.int .i64 0, .int .i64 0, .int .i64 0, .vs .nil []]⟩ : TyI) := by kernel_rfl
theorem ty111 : lawProg.ty 111 = some (⟨.struct [(0, 22)], 1, 24, [.vs .nil []]⟩ : TyI) := by kernel_rfl
theorem ty116 : lawProg.ty 116 = some (⟨.struct [(0, 22)], 1, 24, [.vs .nil []]⟩ : TyI) := by kernel_rfl
theorem fn3 : lawProg.func 3 = some Tryz.f3 := by kernel_rfl
theorem fn4 : lawProg.func 4 = some Tryz.f4 := by kernel_rfl
theorem fn9 : lawProg.func 9 = some Tryz.f9 := by kernel_rfl
theorem fn10 : lawProg.func 10 = some Tryz.f10 := by kernel_rfl
theorem fn11 : lawProg.func 11 = some Tryz.f11 := by kernel_rfl
theorem fn12 : lawProg.func 12 = some Tryz.f12 := by kernel_rfl
theorem fn13 : lawProg.func 13 = some Tryz.f13 := by kernel_rfl
theorem fn14 : lawProg.func 14 = some Tryz.f14 := by kernel_rfl
theorem fn15 : lawProg.func 15 = some Tryz.f15 := by kernel_rfl
theorem fn16 : lawProg.func 16 = some Tryz.f16 := by kernel_rfl
theorem fn17 : lawProg.func 17 = some Tryz.f17 := by kernel_rfl
theorem fn18 : lawProg.func 18 = some Tryz.f18 := by kernel_rfl
theorem fn19 : lawProg.func 19 = some Tryz.f19 := by kernel_rfl
theorem fn20 : lawProg.func 20 = some Tryz.f20 := by kernel_rfl
theorem fn40 : lawProg.func 40 = some Tryz.f40 := by kernel_rfl
theorem fn49 : lawProg.func 49 = some Tryz.f49 := by kernel_rfl
theorem fn50 : lawProg.func 50 = some Tryz.f50 := by kernel_rfl
theorem fn51 : lawProg.func 51 = some Tryz.f51 := by kernel_rfl
theorem fn52 : lawProg.func 52 = some Tryz.f52 := by kernel_rfl
theorem fn53 : lawProg.func 53 = some Tryz.f53 := by kernel_rfl
theorem fn54 : lawProg.func 54 = some Tryz.f54 := by kernel_rfl
theorem fn55 : lawProg.func 55 = some Tryz.f55 := by kernel_rfl
theorem fn56 : lawProg.func 56 = some Tryz.f56 := by kernel_rfl
theorem fn57 : lawProg.func 57 = some Tryz.f57 := by kernel_rfl
theorem fn58 : lawProg.func 58 = some Tryz.f58 := by kernel_rfl
theorem fn59 : lawProg.func 59 = some Tryz.f59 := by kernel_rfl
theorem fn60 : lawProg.func 60 = some Tryz.f60 := by kernel_rfl
theorem fn61 : lawProg.func 61 = some Tryz.f61 := by kernel_rfl
theorem fn98 : lawProg.func 98 = some Tryz.f98 := by kernel_rfl
theorem bookNo3 : bookL.get 3 = none := by kernel_rfl
theorem memo3 (args : List AVal) : lawProg.memo 3 args = none := by show lookB bookL 3 args = none; unfold lookB; rw [bookNo3]
theorem valA3 : valB 0 3 = false := by kernel_rfl
theorem val3 (c : Nat) : lawProg.isVal c 3 = false := valA3
theorem bookNo4 : bookL.get 4 = none := by kernel_rfl
theorem memo4 (args : List AVal) : lawProg.memo 4 args = none := by show lookB bookL 4 args = none; unfold lookB; rw [bookNo4]
theorem valA4 : valB 0 4 = false := by kernel_rfl
theorem val4 (c : Nat) : lawProg.isVal c 4 = false := valA4
theorem memo9 : lawProg.memo 9 [] = some (.bool true, true) := by kernel_rfl
theorem valA9 : valB 0 9 = true := by kernel_rfl
theorem val9 (c : Nat) : lawProg.isVal c 9 = true := valA9
theorem bookNo10 : bookL.get 10 = none := by kernel_rfl
theorem memo10 (args : List AVal) : lawProg.memo 10 args = none := by show lookB bookL 10 args = none; unfold lookB; rw [bookNo10]
theorem valA10 : valB 0 10 = true := by kernel_rfl
theorem val10 (c : Nat) : lawProg.isVal c 10 = true := valA10
theorem bookNo11 : bookL.get 11 = none := by kernel_rfl
theorem memo11 (args : List AVal) : lawProg.memo 11 args = none := by show lookB bookL 11 args = none; unfold lookB; rw [bookNo11]
theorem valA11 : valB 0 11 = true := by kernel_rfl
theorem val11 (c : Nat) : lawProg.isVal c 11 = true := valA11
theorem bookNo12 : bookL.get 12 = none := by kernel_rfl
theorem memo12 (args : List AVal) : lawProg.memo 12 args = none := by show lookB bookL 12 args = none; unfold lookB; rw [bookNo12]
theorem valA12 : valB 0 12 = true := by kernel_rfl
theorem val12 (c : Nat) : lawProg.isVal c 12 = true := valA12
theorem bookNo13 : bookL.get 13 = none := by kernel_rfl
theorem memo13 (args : List AVal) : lawProg.memo 13 args = none := by show lookB bookL 13 args = none; unfold lookB; rw [bookNo13]
theorem valA13 : valB 0 13 = true := by kernel_rfl
theorem val13 (c : Nat) : lawProg.isVal c 13 = true := valA13
theorem bookNo14 : bookL.get 14 = none := by kernel_rfl
theorem memo14 (args : List AVal) : lawProg.memo 14 args = none := by show lookB bookL 14 args = none; unfold lookB; rw [bookNo14]
theorem valA14 : valB 0 14 = true := by kernel_rfl
theorem val14 (c : Nat) : lawProg.isVal c 14 = true := valA14
theorem bookNo15 : bookL.get 15 = none := by kernel_rfl
theorem memo15 (args : List AVal) : lawProg.memo 15 args = none := by show lookB bookL 15 args = none; unfold lookB; rw [bookNo15]
theorem valA15 : valB 0 15 = true := by kernel_rfl
theorem val15 (c : Nat) : lawProg.isVal c 15 = true := valA15
theorem bookNo16 : bookL.get 16 = none := by kernel_rfl
theorem memo16 (args : List AVal) : lawProg.memo 16 args = none := by show lookB bookL 16 args = none; unfold lookB; rw [bookNo16]
theorem valA16 : valB 0 16 = true := by kernel_rfl
theorem val16 (c : Nat) : lawProg.isVal c 16 = true := valA16
theorem bookNo17 : bookL.get 17 = none := by kernel_rfl
theorem memo17 (args : List AVal) : lawProg.memo 17 args = none := by show lookB bookL 17 args = none; unfold lookB; rw [bookNo17]
theorem valA17 : valB 0 17 = true := by kernel_rfl
theorem val17 (c : Nat) : lawProg.isVal c 17 = true := valA17
theorem bookNo18 : bookL.get 18 = none := by kernel_rfl
theorem memo18 (args : List AVal) : lawProg.memo 18 args = none := by show lookB bookL 18 args = none; unfold lookB; rw [bookNo18]
theorem valA18 : valB 0 18 = true := by kernel_rfl
theorem val18 (c : Nat) : lawProg.isVal c 18 = true := valA18
theorem bookNo19 : bookL.get 19 = none := by kernel_rfl
theorem memo19 (args : List AVal) : lawProg.memo 19 args = none := by show lookB bookL 19 args = none; unfold lookB; rw [bookNo19]
theorem valA19 : valB 0 19 = true := by kernel_rfl
theorem val19 (c : Nat) : lawProg.isVal c 19 = true := valA19
theorem bookNo20 : bookL.get 20 = none := by kernel_rfl
theorem memo20 (args : List AVal) : lawProg.memo 20 args = none := by show lookB bookL 20 args = none; unfold lookB; rw [bookNo20]
theorem valA20 : valB 0 20 = true := by kernel_rfl
theorem val20 (c : Nat) : lawProg.isVal c 20 = true := valA20
theorem bookNo40 : bookL.get 40 = none := by kernel_rfl
theorem memo40 (args : List AVal) : lawProg.memo 40 args = none := by show lookB bookL 40 args = none; unfold lookB; rw [bookNo40]
theorem valA40 : valB 0 40 = true := by kernel_rfl
theorem val40 (c : Nat) : lawProg.isVal c 40 = true := valA40
theorem bookNo49 : bookL.get 49 = none := by kernel_rfl
theorem memo49 (args : List AVal) : lawProg.memo 49 args = none := by show lookB bookL 49 args = none; unfold lookB; rw [bookNo49]
theorem valA49 : valB 0 49 = true := by kernel_rfl
theorem val49 (c : Nat) : lawProg.isVal c 49 = true := valA49
theorem bookNo50 : bookL.get 50 = none := by kernel_rfl
theorem memo50 (args : List AVal) : lawProg.memo 50 args = none := by show lookB bookL 50 args = none; unfold lookB; rw [bookNo50]
theorem valA50 : valB 0 50 = false := by kernel_rfl
theorem val50 (c : Nat) : lawProg.isVal c 50 = false := valA50
theorem bookNo51 : bookL.get 51 = none := by kernel_rfl
theorem memo51 (args : List AVal) : lawProg.memo 51 args = none := by show lookB bookL 51 args = none; unfold lookB; rw [bookNo51]
theorem valA51 : valB 0 51 = true := by kernel_rfl
theorem val51 (c : Nat) : lawProg.isVal c 51 = true := valA51
theorem bookNo52 : bookL.get 52 = none := by kernel_rfl
theorem memo52 (args : List AVal) : lawProg.memo 52 args = none := by show lookB bookL 52 args = none; unfold lookB; rw [bookNo52]
theorem valA52 : valB 0 52 = true := by kernel_rfl
theorem val52 (c : Nat) : lawProg.isVal c 52 = true := valA52
theorem bookNo53 : bookL.get 53 = none := by kernel_rfl
theorem memo53 (args : List AVal) : lawProg.memo 53 args = none := by show lookB bookL 53 args = none; unfold lookB; rw [bookNo53]
theorem valA53 : valB 0 53 = true := by kernel_rfl
theorem val53 (c : Nat) : lawProg.isVal c 53 = true := valA53
theorem bookNo54 : bookL.get 54 = none := by kernel_rfl
theorem memo54 (args : List AVal) : lawProg.memo 54 args = none := by show lookB bookL 54 args = none; unfold lookB; rw [bookNo54]
theorem valA54 : valB 0 54 = false := by kernel_rfl
theorem val54 (c : Nat) : lawProg.isVal c 54 = false := valA54
theorem bookNo55 : bookL.get 55 = none := by kernel_rfl
theorem memo55 (args : List AVal) : lawProg.memo 55 args = none := by show lookB bookL 55 args = none; unfold lookB; rw [bookNo55]
theorem valA55 : valB 0 55 = false := by kernel_rfl
theorem val55 (c : Nat) : lawProg.isVal c 55 = false := valA55
theorem bookNo56 : bookL.get 56 = none := by kernel_rfl
theorem memo56 (args : List AVal) : lawProg.memo 56 args = none := by show lookB bookL 56 args = none; unfold lookB; rw [bookNo56]
theorem valA56 : valB 0 56 = false := by kernel_rfl
theorem val56 (c : Nat) : lawProg.isVal c 56 = false := valA56
theorem bookNo57 : bookL.get 57 = none := by kernel_rfl
theorem memo57 (args : List AVal) : lawProg.memo 57 args = none := by show lookB bookL 57 args = none; unfold lookB; rw [bookNo57]
theorem valA57 : valB 0 57 = false := by kernel_rfl
theorem val57 (c : Nat) : lawProg.isVal c 57 = false := valA57
theorem bookNo58 : bookL.get 58 = none := by kernel_rfl
theorem memo58 (args : List AVal) : lawProg.memo 58 args = none := by show lookB bookL 58 args = none; unfold lookB; rw [bookNo58]
theorem valA58 : valB 0 58 = false := by kernel_rfl
theorem val58 (c : Nat) : lawProg.isVal c 58 = false := valA58
theorem bookNo59 : bookL.get 59 = none := by kernel_rfl
theorem memo59 (args : List AVal) : lawProg.memo 59 args = none := by show lookB bookL 59 args = none; unfold lookB; rw [bookNo59]
theorem valA59 : valB 0 59 = false := by kernel_rfl
theorem val59 (c : Nat) : lawProg.isVal c 59 = false := valA59
theorem bookNo60 : bookL.get 60 = none := by kernel_rfl
theorem memo60 (args : List AVal) : lawProg.memo 60 args = none := by show lookB bookL 60 args = none; unfold lookB; rw [bookNo60]
theorem valA60 : valB 0 60 = true := by kernel_rfl
theorem val60 (c : Nat) : lawProg.isVal c 60 = true := valA60
theorem bookNo61 : bookL.get 61 = none := by kernel_rfl
theorem memo61 (args : List AVal) : lawProg.memo 61 args = none := by show lookB bookL 61 args = none; unfold lookB; rw [bookNo61]
theorem valA61 : valB 0 61 = false := by kernel_rfl
theorem val61 (c : Nat) : lawProg.isVal c 61 = false := valA61
theorem bookNo98 : bookL.get 98 = none := by kernel_rfl
theorem memo98 (args : List AVal) : lawProg.memo 98 args = none := by show lookB bookL 98 args = none; unfold lookB; rw [bookNo98]
theorem valA98 : valB 0 98 = false := by kernel_rfl
theorem val98 (c : Nat) : lawProg.isVal c 98 = false := valA98
theorem ord10_9 : lawProg.ord 10 9 = some ⟨[(0, []), (1, []), (2, []), (3, []), (4, []), (5, [0, 1, 2]), (6, []), (7, []), (8, []), (9, [])], [[], [], [], [2], [], [4], [1, 2, 3, 4, 5], [1, 2, 3, 4, 5, 6], [0, 1, 2, 3, 4, 5, 6, 7], [0, 1, 2, 3, 4, 5, 6, 7, 8]]⟩ := by kernel_rfl
theorem ord14_6 : lawProg.ord 14 6 = some ⟨[(0, []), (1, []), (2, []), (3, []), (4, []), (5, []), (6, []), (7, []), (8, []), (9, [])], [[], [], [0, 1], [0, 1, 2], [], [], [4, 5], [4, 5, 6], [0, 1, 2, 3, 4, 5, 6, 7], [0, 1, 2, 3, 4, 5, 6, 7, 8]]⟩ := by kernel_rfl
theorem ord19_3 : lawProg.ord 19 3 = some ⟨[(0, []), (1, []), (2, []), (3, []), (4, []), (5, []), (6, []), (7, []), (8, []), (9, []), (10, []), (11, []), (12, []), (13, []), (14, []), (15, []), (16, []), (17, []), (18, []), (19, []), (20, []), (21, []), (22, []), (23, []), (26, []), (24, [2, 7, 12, 16]), (25, []), (27, [])], [[], [0], [0, 1], [0, 1, 2], [0, 1, 2, 3], [], [5], [5, 6], [5, 6, 7], [0, 1, 2, 3, 4, 5, 6, 7, 8], [], [10], [10, 11], [10, 11, 12], [], [14], [14, 15], [14, 15, 16], [], [], [], [20], [20, 21], [19, 20, 21, 22], [18, 19, 20, 21, 22, 23], [0, 1, 2, 3, 4, 5, 6, 7, 8, 9, 10, 11, 12, 13, 14, 15, 16, 17, 18, 19, 20, 21, 22, 23, 24], [], [0, 1, 2, 3, 4, 5, 6, 7, 8, 9, 10, 11, 12, 13, 14, 15, 16, 17, 18, 19, 20, 21, 22, 23, 24, 25, 26]]⟩ := by kernel_rfl
theorem ord60_6 : lawProg.ord 60 6 = some ⟨[(0, []), (1, []), (2, []), (3, []), (4, []), (5, []), (6, []), (7, []), (8, [])], [[], [], [0, 1], [0, 1, 2], [], [], [4, 5], [4, 5, 6], [0, 1, 2, 3, 4, 5, 6, 7]]⟩ := by kernel_rfl
theorem ord98_3 : lawProg.ord 98 3 = some ⟨[(0, []), (1, []), (2, []), (3, []), (4, []), (5, []), (6, [])], [[], [], [], [1, 2], [1, 2, 3], [0, 1, 2, 3, 4], [0, 1, 2, 3, 4, 5]]⟩ := by kernel_rfl
end Go.Proofs.YtikhidpcaefjiaaGreatDoor
