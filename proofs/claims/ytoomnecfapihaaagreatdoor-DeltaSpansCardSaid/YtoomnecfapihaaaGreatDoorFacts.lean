/- What the proofs of this seat ask of its program. -/
import Derived.Test.YtoomnecfapihaaaGreatDoorLaw
import Derived.Test.YtoomnecfapihaaaGreatDoorPaleSym
import Derived.KernelRfl
set_option maxRecDepth 100000
namespace Go.Proofs.YtoomnecfapihaaaGreatDoor
open Go Go.Proofs.YtoomnecfapihaaaGreatDoor.Pale
theorem ty3 : lawProg.ty 3 = some (⟨.int .i64, 1, 8, [.int .i64 0]⟩ : TyI) := by kernel_rfl
theorem ty4 : lawProg.ty 4 = some (⟨.bool, 1, 1, [.bool false]⟩ : TyI) := by kernel_rfl
theorem ty5 : lawProg.ty 5 = some (⟨.int .u8, 1, 1, [.int .u8 0]⟩ : TyI) := by kernel_rfl
theorem ty22 : lawProg.ty 22 = some (⟨.slice 64, 1, 24, [.vs .nil []]⟩ : TyI) := by kernel_rfl
theorem ty24 : lawProg.ty 24 = some (⟨.int .i64, 1, 8, [.int .i64 0]⟩ : TyI) := by kernel_rfl
theorem ty31 : lawProg.ty 31 = some (⟨.slice 4, 1, 24, [.vs .nil []]⟩ : TyI) := by kernel_rfl
theorem ty64 : lawProg.ty 64 = some (⟨.struct [(0, 3), (1, 3)], 2, 16, [.int .i64 0, .int .i64 0]⟩ : TyI) := by kernel_rfl
theorem ty65 : lawProg.ty 65 = some (⟨.int .u64, 1, 8, [.int .u64 0]⟩ : TyI) := by kernel_rfl
theorem ty66 : lawProg.ty 66 = some (⟨.int .u64, 1, 8, [.int .u64 0]⟩ : TyI) := by kernel_rfl
theorem ty97 : lawProg.ty 97 = some (⟨.slice 66, 1, 24, [.vs .nil []]⟩ : TyI) := by kernel_rfl
theorem ty155 : lawProg.ty 155 = some (⟨.array 64 5, 64, 64, [.int .u8 0, .int .u8 0, .int .u8 0, .int .u8 0, .int .u8 0, .int .u8 0, .int .u8 0, .int .u8 0, .int .u8 0, .int .u8 0, .int .u8 0, .int .u8 0, .int .u8 0, .int .u8 0, .int .u8 0, .int .u8 0, .int .u8 0, .int .u8 0, .int .u8 0, .int .u8 0, .int .u8 0, .int .u8 0, .int .u8 0, .int .u8 0, .int .u8 0, .int .u8 0, .int .u8 0, .int .u8 0, .int .u8 0, .int .u8 0, .int .u8 0, .int .u8 0, .int .u8 0, .int .u8 0, .int .u8 0, .int .u8 0, .int .u8 0, .int .u8 0, .int .u8 0, .int .u8 0, .int .u8 0, .int .u8 0, .int .u8 0, .int .u8 0, .int .u8 0, .int .u8 0, .int .u8 0, .int .u8 0, .int .u8 0, .int .u8 0, .int .u8 0, .int .u8 0, .int .u8 0, .int .u8 0, .int .u8 0, .int .u8 0, .int .u8 0, .int .u8 0, .int .u8 0, .int .u8 0, .int .u8 0, .int .u8 0, .int .u8 0, .int .u8 0]⟩ : TyI) := by kernel_rfl
theorem fn3 : lawProg.func 3 = some Tryz.f3 := by kernel_rfl
theorem fn4 : lawProg.func 4 = some Tryz.f4 := by kernel_rfl
theorem fn5 : lawProg.func 5 = some Tryz.f5 := by kernel_rfl
theorem fn6 : lawProg.func 6 = some Tryz.f6 := by kernel_rfl
theorem fn7 : lawProg.func 7 = some Tryz.f7 := by kernel_rfl
theorem fn8 : lawProg.func 8 = some Tryz.f8 := by kernel_rfl
theorem fn9 : lawProg.func 9 = some Tryz.f9 := by kernel_rfl
theorem fn10 : lawProg.func 10 = some Tryz.f10 := by kernel_rfl
theorem fn11 : lawProg.func 11 = some Tryz.f11 := by kernel_rfl
theorem fn12 : lawProg.func 12 = some Tryz.f12 := by kernel_rfl
theorem fn22 : lawProg.func 22 = some Tryz.f22 := by kernel_rfl
theorem fn23 : lawProg.func 23 = some Tryz.f23 := by kernel_rfl
theorem fn24 : lawProg.func 24 = some Tryz.f24 := by kernel_rfl
theorem fn25 : lawProg.func 25 = some Tryz.f25 := by kernel_rfl
theorem fn26 : lawProg.func 26 = some Tryz.f26 := by kernel_rfl
theorem fn27 : lawProg.func 27 = some Tryz.f27 := by kernel_rfl
theorem fn50 : lawProg.func 50 = some Tryz.f50 := by kernel_rfl
theorem fn51 : lawProg.func 51 = some Tryz.f51 := by kernel_rfl
theorem fn52 : lawProg.func 52 = some Tryz.f52 := by kernel_rfl
theorem fn68 : lawProg.func 68 = some Tryz.f68 := by kernel_rfl
theorem fn69 : lawProg.func 69 = some Tryz.f69 := by kernel_rfl
theorem bookNo3 : bookL.get 3 = none := by kernel_rfl
theorem memo3 (args : List AVal) : lawProg.memo 3 args = none := by show lookB bookL 3 args = none; unfold lookB; rw [bookNo3]
theorem bookNo4 : bookL.get 4 = none := by kernel_rfl
theorem memo4 (args : List AVal) : lawProg.memo 4 args = none := by show lookB bookL 4 args = none; unfold lookB; rw [bookNo4]
theorem memo5 : lawProg.memo 5 [] = some (.bool true, true) := by kernel_rfl
theorem bookNo6 : bookL.get 6 = none := by kernel_rfl
theorem memo6 (args : List AVal) : lawProg.memo 6 args = none := by show lookB bookL 6 args = none; unfold lookB; rw [bookNo6]
theorem bookNo7 : bookL.get 7 = none := by kernel_rfl
theorem memo7 (args : List AVal) : lawProg.memo 7 args = none := by show lookB bookL 7 args = none; unfold lookB; rw [bookNo7]
theorem bookNo8 : bookL.get 8 = none := by kernel_rfl
theorem memo8 (args : List AVal) : lawProg.memo 8 args = none := by show lookB bookL 8 args = none; unfold lookB; rw [bookNo8]
theorem bookNo9 : bookL.get 9 = none := by kernel_rfl
theorem memo9 (args : List AVal) : lawProg.memo 9 args = none := by show lookB bookL 9 args = none; unfold lookB; rw [bookNo9]
theorem bookNo10 : bookL.get 10 = none := by kernel_rfl
theorem memo10 (args : List AVal) : lawProg.memo 10 args = none := by show lookB bookL 10 args = none; unfold lookB; rw [bookNo10]
theorem bookNo11 : bookL.get 11 = none := by kernel_rfl
theorem memo11 (args : List AVal) : lawProg.memo 11 args = none := by show lookB bookL 11 args = none; unfold lookB; rw [bookNo11]
theorem bookNo12 : bookL.get 12 = none := by kernel_rfl
theorem memo12 (args : List AVal) : lawProg.memo 12 args = none := by show lookB bookL 12 args = none; unfold lookB; rw [bookNo12]
theorem bookNo22 : bookL.get 22 = none := by kernel_rfl
theorem memo22 (args : List AVal) : lawProg.memo 22 args = none := by show lookB bookL 22 args = none; unfold lookB; rw [bookNo22]
theorem bookNo23 : bookL.get 23 = none := by kernel_rfl
theorem memo23 (args : List AVal) : lawProg.memo 23 args = none := by show lookB bookL 23 args = none; unfold lookB; rw [bookNo23]
theorem bookNo24 : bookL.get 24 = none := by kernel_rfl
theorem memo24 (args : List AVal) : lawProg.memo 24 args = none := by show lookB bookL 24 args = none; unfold lookB; rw [bookNo24]
theorem bookNo25 : bookL.get 25 = none := by kernel_rfl
theorem memo25 (args : List AVal) : lawProg.memo 25 args = none := by show lookB bookL 25 args = none; unfold lookB; rw [bookNo25]
theorem bookNo26 : bookL.get 26 = none := by kernel_rfl
theorem memo26 (args : List AVal) : lawProg.memo 26 args = none := by show lookB bookL 26 args = none; unfold lookB; rw [bookNo26]
theorem bookNo27 : bookL.get 27 = none := by kernel_rfl
theorem memo27 (args : List AVal) : lawProg.memo 27 args = none := by show lookB bookL 27 args = none; unfold lookB; rw [bookNo27]
theorem bookNo50 : bookL.get 50 = none := by kernel_rfl
theorem memo50 (args : List AVal) : lawProg.memo 50 args = none := by show lookB bookL 50 args = none; unfold lookB; rw [bookNo50]
theorem bookNo51 : bookL.get 51 = none := by kernel_rfl
theorem memo51 (args : List AVal) : lawProg.memo 51 args = none := by show lookB bookL 51 args = none; unfold lookB; rw [bookNo51]
theorem bookNo52 : bookL.get 52 = none := by kernel_rfl
theorem memo52 (args : List AVal) : lawProg.memo 52 args = none := by show lookB bookL 52 args = none; unfold lookB; rw [bookNo52]
theorem bookNo68 : bookL.get 68 = none := by kernel_rfl
theorem memo68 (args : List AVal) : lawProg.memo 68 args = none := by show lookB bookL 68 args = none; unfold lookB; rw [bookNo68]
theorem bookNo69 : bookL.get 69 = none := by kernel_rfl
theorem memo69 (args : List AVal) : lawProg.memo 69 args = none := by show lookB bookL 69 args = none; unfold lookB; rw [bookNo69]
theorem vp3_5 : lawProg.isVal 3 5 = true := by kernel_rfl
theorem vp3_6 : lawProg.isVal 3 6 = true := by kernel_rfl
theorem vp3_7 : lawProg.isVal 3 7 = true := by kernel_rfl
theorem vp3_8 : lawProg.isVal 3 8 = true := by kernel_rfl
theorem vp3_9 : lawProg.isVal 3 9 = true := by kernel_rfl
theorem vp3_10 : lawProg.isVal 3 10 = true := by kernel_rfl
theorem vp4_5 : lawProg.isVal 4 5 = true := by kernel_rfl
theorem vp4_6 : lawProg.isVal 4 6 = true := by kernel_rfl
theorem vp4_7 : lawProg.isVal 4 7 = true := by kernel_rfl
theorem vp4_10 : lawProg.isVal 4 10 = true := by kernel_rfl
theorem vp4_11 : lawProg.isVal 4 11 = true := by kernel_rfl
theorem vp4_12 : lawProg.isVal 4 12 = true := by kernel_rfl
theorem vp6_22 : lawProg.isVal 6 22 = true := by kernel_rfl
theorem vp6_23 : lawProg.isVal 6 23 = false := by kernel_rfl
theorem vp7_22 : lawProg.isVal 7 22 = true := by kernel_rfl
theorem vp7_23 : lawProg.isVal 7 23 = false := by kernel_rfl
theorem vp7_24 : lawProg.isVal 7 24 = true := by kernel_rfl
theorem vp8_11 : lawProg.isVal 8 11 = true := by kernel_rfl
theorem vp8_25 : lawProg.isVal 8 25 = true := by kernel_rfl
theorem vp9_11 : lawProg.isVal 9 11 = true := by kernel_rfl
theorem vp9_26 : lawProg.isVal 9 26 = true := by kernel_rfl
theorem vp9_27 : lawProg.isVal 9 27 = true := by kernel_rfl
theorem vp22_50 : lawProg.isVal 22 50 = true := by kernel_rfl
theorem vp23_51 : lawProg.isVal 23 51 = false := by kernel_rfl
theorem vp25_12 : lawProg.isVal 25 12 = false := by kernel_rfl
theorem vp25_52 : lawProg.isVal 25 52 = true := by kernel_rfl
theorem vp27_12 : lawProg.isVal 27 12 = false := by kernel_rfl
theorem vp27_52 : lawProg.isVal 27 52 = true := by kernel_rfl
theorem vp50_24 : lawProg.isVal 50 24 = true := by kernel_rfl
theorem vp68_50 : lawProg.isVal 68 50 = true := by kernel_rfl
theorem vp68_69 : lawProg.isVal 68 69 = true := by kernel_rfl
theorem ord4_17 : lawProg.ord 4 17 = some ⟨[(0, []), (1, []), (2, []), (3, []), (4, []), (5, []), (6, []), (7, []), (8, []), (9, []), (10, []), (11, []), (12, []), (13, []), (14, []), (15, []), (16, []), (17, []), (18, []), (19, []), (20, []), (21, []), (22, []), (23, []), (24, []), (25, []), (26, []), (27, []), (28, []), (29, []), (30, []), (31, []), (32, []), (33, []), (34, []), (35, []), (36, []), (37, []), (38, []), (39, []), (40, []), (41, []), (42, []), (43, []), (44, []), (45, []), (46, []), (47, [])], [[], [], [0, 1], [0, 1, 2], [], [], [4, 5], [4, 5, 6], [4, 5, 6, 7], [4, 5, 6, 7, 8], [4, 5, 6, 7, 8], [4, 5, 6, 7, 8, 9, 10], [4, 5, 6, 7, 8, 9, 10, 11], [4, 5, 6, 7, 8, 9, 10, 11, 12], [0, 1, 2, 3, 4, 5, 6, 7, 8, 9, 10, 11, 12, 13], [0, 1, 2, 3, 4, 5, 6, 7, 8, 9, 10, 11, 12, 13, 14], [0, 1, 2, 3, 4, 5, 6, 7, 8, 9, 10, 11, 12, 13, 14, 15], [0, 1, 2, 3, 4, 5, 6, 7, 8, 9, 10, 11, 12, 13, 14, 15], [0, 1, 2, 3, 4, 5, 6, 7, 8, 9, 10, 11, 12, 13, 14, 15, 16, 17], [0, 1, 2, 3, 4, 5, 6, 7, 8, 9, 10, 11, 12, 13, 14, 15, 16, 17, 18], [0, 1, 2, 3, 4, 5, 6, 7, 8, 9, 10, 11, 12, 13, 14, 15], [0, 1, 2, 3, 4, 5, 6, 7, 8, 9, 10, 11, 12, 13, 14, 15], [0, 1, 2, 3, 4, 5, 6, 7, 8, 9, 10, 11, 12, 13, 14, 15, 20, 21], [0, 1, 2, 3, 4, 5, 6, 7, 8, 9, 10, 11, 12, 13, 14, 15, 20, 21, 22], [0, 1, 2, 3, 4, 5, 6, 7, 8, 9, 10, 11, 12, 13, 14, 15, 20, 21, 22, 23], [0, 1, 2, 3, 4, 5, 6, 7, 8, 9, 10, 11, 12, 13, 14, 15, 20, 21, 22, 23, 24], [0, 1, 2, 3, 4, 5, 6, 7, 8, 9, 10, 11, 12, 13, 14, 15, 20, 21, 22, 23, 24, 25], [0, 1, 2, 3, 4, 5, 6, 7, 8, 9, 10, 11, 12, 13, 14, 15, 20, 21, 22, 23, 24, 25], [0, 1, 2, 3, 4, 5, 6, 7, 8, 9, 10, 11, 12, 13, 14, 15, 20, 21, 22, 23, 24, 25, 26, 27], [0, 1, 2, 3, 4, 5, 6, 7, 8, 9, 10, 11, 12, 13, 14, 15, 20, 21, 22, 23, 24, 25, 26, 27, 28], [0, 1, 2, 3, 4, 5, 6, 7, 8, 9, 10, 11, 12, 13, 14, 15, 16, 17, 18, 19, 20, 21, 22, 23, 24, 25, 26, 27, 28, 29], [0, 1, 2, 3, 4, 5, 6, 7, 8, 9, 10, 11, 12, 13, 14, 15, 16, 17, 18, 19, 20, 21, 22, 23, 24, 25, 26, 27, 28, 29, 30], [0, 1, 2, 3, 4, 5, 6, 7, 8, 9, 10, 11, 12, 13, 14, 15, 16, 17, 18, 19, 20, 21, 22, 23, 24, 25, 26, 27, 28, 29, 30, 31], [0, 1, 2, 3, 4, 5, 6, 7, 8, 9, 10, 11, 12, 13, 14, 15, 16, 17, 18, 19, 20, 21, 22, 23, 24, 25, 26, 27, 28, 29, 30, 31, 32], [0, 1, 2, 3, 4, 5, 6, 7, 8, 9, 10, 11, 12, 13, 14, 15, 16, 17, 18, 19, 20, 21, 22, 23, 24, 25, 26, 27, 28, 29, 30, 31, 32], [0, 1, 2, 3, 4, 5, 6, 7, 8, 9, 10, 11, 12, 13, 14, 15, 16, 17, 18, 19, 20, 21, 22, 23, 24, 25, 26, 27, 28, 29, 30, 31, 32, 33, 34], [0, 1, 2, 3, 4, 5, 6, 7, 8, 9, 10, 11, 12, 13, 14, 15, 16, 17, 18, 19, 20, 21, 22, 23, 24, 25, 26, 27, 28, 29, 30, 31, 32, 33, 34, 35], [0, 1, 2, 3, 4, 5, 6, 7, 8, 9, 10, 11, 12, 13, 14, 15, 16, 17, 18, 19, 20, 21, 22, 23, 24, 25, 26, 27, 28, 29, 30, 31, 32], [0, 1, 2, 3, 4, 5, 6, 7, 8, 9, 10, 11, 12, 13, 14, 15, 16, 17, 18, 19, 20, 21, 22, 23, 24, 25, 26, 27, 28, 29, 30, 31, 32], [0, 1, 2, 3, 4, 5, 6, 7, 8, 9, 10, 11, 12, 13, 14, 15, 16, 17, 18, 19, 20, 21, 22, 23, 24, 25, 26, 27, 28, 29, 30, 31, 32, 37, 38], [0, 1, 2, 3, 4, 5, 6, 7, 8, 9, 10, 11, 12, 13, 14, 15, 16, 17, 18, 19, 20, 21, 22, 23, 24, 25, 26, 27, 28, 29, 30, 31, 32, 37, 38, 39], [0, 1, 2, 3, 4, 5, 6, 7, 8, 9, 10, 11, 12, 13, 14, 15, 16, 17, 18, 19, 20, 21, 22, 23, 24, 25, 26, 27, 28, 29, 30, 31, 32, 37, 38, 39, 40], [0, 1, 2, 3, 4, 5, 6, 7, 8, 9, 10, 11, 12, 13, 14, 15, 16, 17, 18, 19, 20, 21, 22, 23, 24, 25, 26, 27, 28, 29, 30, 31, 32, 37, 38, 39, 40, 41], [0, 1, 2, 3, 4, 5, 6, 7, 8, 9, 10, 11, 12, 13, 14, 15, 16, 17, 18, 19, 20, 21, 22, 23, 24, 25, 26, 27, 28, 29, 30, 31, 32, 37, 38, 39, 40, 41], [0, 1, 2, 3, 4, 5, 6, 7, 8, 9, 10, 11, 12, 13, 14, 15, 16, 17, 18, 19, 20, 21, 22, 23, 24, 25, 26, 27, 28, 29, 30, 31, 32, 37, 38, 39, 40, 41, 42, 43], [0, 1, 2, 3, 4, 5, 6, 7, 8, 9, 10, 11, 12, 13, 14, 15, 16, 17, 18, 19, 20, 21, 22, 23, 24, 25, 26, 27, 28, 29, 30, 31, 32, 37, 38, 39, 40, 41, 42, 43, 44], [0, 1, 2, 3, 4, 5, 6, 7, 8, 9, 10, 11, 12, 13, 14, 15, 16, 17, 18, 19, 20, 21, 22, 23, 24, 25, 26, 27, 28, 29, 30, 31, 32, 33, 34, 35, 36, 37, 38, 39, 40, 41, 42, 43, 44, 45], [0, 1, 2, 3, 4, 5, 6, 7, 8, 9, 10, 11, 12, 13, 14, 15, 16, 17, 18, 19, 20, 21, 22, 23, 24, 25, 26, 27, 28, 29, 30, 31, 32, 33, 34, 35, 36, 37, 38, 39, 40, 41, 42, 43, 44, 45, 46]]⟩ := by kernel_rfl
theorem ord10_6 : lawProg.ord 10 6 = some ⟨[(0, []), (1, []), (2, []), (3, []), (4, []), (5, []), (6, []), (7, []), (8, [])], [[], [], [0, 1], [0, 1, 2], [], [], [4, 5], [4, 5, 6], [0, 1, 2, 3, 4, 5, 6, 7]]⟩ := by kernel_rfl
theorem ord11_5 : lawProg.ord 11 5 = some ⟨[(0, []), (1, []), (2, []), (3, []), (4, []), (5, []), (6, []), (7, []), (8, []), (9, []), (10, []), (11, []), (12, []), (13, []), (14, []), (15, []), (16, []), (17, []), (18, []), (19, []), (20, []), (21, []), (22, []), (23, []), (24, []), (25, []), (26, []), (27, []), (28, []), (29, [])], [[], [], [0, 1], [0, 1, 2], [0, 1, 2, 3], [], [5], [5, 6], [0, 1, 2, 3, 4, 5, 6, 7], [0, 1, 2, 3, 4, 5, 6, 7, 8], [0, 1, 2, 3, 4, 5, 6, 7, 8, 9], [0, 1, 2, 3, 4, 5, 6, 7, 8, 9], [0, 1, 2, 3, 4, 5, 6, 7, 8, 9, 10, 11], [0, 1, 2, 3, 4, 5, 6, 7, 8, 9, 10, 11, 12], [0, 1, 2, 3, 4, 5, 6, 7, 8, 9, 10, 11, 12, 13], [0, 1, 2, 3, 4, 5, 6, 7, 8, 9], [0, 1, 2, 3, 4, 5, 6, 7, 8, 9], [0, 1, 2, 3, 4, 5, 6, 7, 8, 9, 15, 16], [0, 1, 2, 3, 4, 5, 6, 7, 8, 9, 15, 16, 17], [0, 1, 2, 3, 4, 5, 6, 7, 8, 9, 15, 16, 17, 18], [0, 1, 2, 3, 4, 5, 6, 7, 8, 9, 10, 11, 12, 13, 14, 15, 16, 17, 18, 19], [0, 1, 2, 3, 4, 5, 6, 7, 8, 9, 10, 11, 12, 13, 14, 15, 16, 17, 18, 19, 20], [0, 1, 2, 3, 4, 5, 6, 7, 8, 9, 10, 11, 12, 13, 14, 15, 16, 17, 18, 19, 20, 21], [0, 1, 2, 3, 4, 5, 6, 7, 8, 9, 10, 11, 12, 13, 14, 15, 16, 17, 18, 19, 20, 21, 22], [0, 1, 2, 3, 4, 5, 6, 7, 8, 9, 10, 11, 12, 13, 14, 15, 16, 17, 18, 19, 20, 21, 22], [0, 1, 2, 3, 4, 5, 6, 7, 8, 9, 10, 11, 12, 13, 14, 15, 16, 17, 18, 19, 20, 21, 22, 23, 24], [0, 1, 2, 3, 4, 5, 6, 7, 8, 9, 10, 11, 12, 13, 14, 15, 16, 17, 18, 19, 20, 21, 22, 23, 24, 25], [0, 1, 2, 3, 4, 5, 6, 7, 8, 9, 10, 11, 12, 13, 14, 15, 16, 17, 18, 19, 20, 21, 22, 23, 24, 25, 26], [0, 1, 2, 3, 4, 5, 6, 7, 8, 9, 10, 11, 12, 13, 14, 15, 16, 17, 18, 19, 20, 21, 22, 23, 24, 25, 26, 27], [0, 1, 2, 3, 4, 5, 6, 7, 8, 9, 10, 11, 12, 13, 14, 15, 16, 17, 18, 19, 20, 21, 22, 23, 24, 25, 26, 27, 28]]⟩ := by kernel_rfl
theorem ord68_4 : lawProg.ord 68 4 = some ⟨[(0, []), (1, []), (2, []), (3, [0]), (4, []), (5, [])], [[], [], [], [1, 2], [0, 1, 2, 3], [0, 1, 2, 3, 4]]⟩ := by kernel_rfl
set_option linter.defProp false
def sx := And.intro @q_seq (And.intro @q_cond (And.intro @q_block (And.intro @q_region (And.intro @q_drawn (And.intro @q_skip (And.intro @q_exit (And.intro @q_ret (And.intro @lenB_vs (And.intro @lenB_sl (And.intro @lenB_str (And.intro @cells_bool (And.intro @one_bool (And.intro @cells_int (And.intro @one_int (And.intro @cells_str (And.intro @one_str (And.intro @cells_ptr (And.intro @one_ptr (And.intro @cells_nilptr (And.intro @one_nilptr (And.intro @cells_slice (And.intro @one_slice (And.intro @cells_vs (And.intro @one_vs (And.intro @cells_vptr (And.intro @one_vptr (And.intro @cells_func (And.intro @one_func (And.intro @cells_yield (And.intro @one_yield (And.intro @cells_nilfn (And.intro @one_nilfn (And.intro @cells_nilmap (And.intro @one_nilmap (And.intro @cells_map (And.intro @one_map (And.intro @cells_agg (And.intro @Tr.get_set (And.intro @AMem.get_put (And.intro @AMem.get_push (And.intro @AMem.next_put (And.intro @AMem.next_push (And.intro @AMem.get_empty (And.intro @next_empty (And.intro @Option.map_some.{0, 0} (And.intro @Option.map_none.{0, 0} (And.intro @Option.bind_some.{0, 0} (And.intro @Nat.zero_add (And.intro @Nat.add_zero (And.intro @Nat.mul_one (And.intro @Nat.one_mul (And.intro @Nat.zero_mul (And.intro @and_self (And.intro @and_true (And.intro @true_and (And.intro @false_and (And.intro @and_false (And.intro @Bool.and_true (And.intro @Bool.true_and (And.intro @Bool.and_false (And.intro @Bool.false_and (And.intro @if_true.{1} (And.intro @if_false.{1} (And.intro @Bool.false_eq_true (And.intro @Bool.not_true (And.intro @Bool.not_false (And.intro @BEq.rfl.{0} (And.intro @beq_true_true (And.intro @beq_true_false (And.intro @beq_false_true (And.intro @beq_false_false (And.intro @List.length_cons.{0} (And.intro @List.length_nil.{0} (And.intro @List.all_cons.{0} (And.intro @List.all_nil.{0} (And.intro @List.getElem?_cons_zero.{0} (And.intro @List.getElem?_cons_succ.{0} (And.intro @List.getElem?_nil.{0} (And.intro @List.getElem?_toArray.{0} (And.intro @List.take_succ_cons.{0} (And.intro @List.take_zero.{0} (And.intro @List.drop_succ_cons.{0} (And.intro @List.drop_zero.{0} (And.intro @List.set_cons_zero.{0} (And.intro @List.set_cons_succ.{0} (And.intro @List.append_nil.{0} (And.intro @List.nil_append.{0} (And.intro @List.cons_append.{0} (And.intro @decide_true (And.intro @decide_false (And.intro @decide_eq_true_eq (And.intro @Option.isNone_none.{0} (And.intro @Option.isNone_some.{0} (And.intro @Option.isSome_none.{0} (And.intro @Option.isSome_some.{0} (And.intro @Bool.or_true (And.intro @Bool.true_or (And.intro @Bool.or_false (And.intro @Bool.false_or (And.intro @ne_eq.{1} (And.intro @not_false_eq_true (And.intro @not_true_eq_false (And.intro @eq_self.{1} (@beq_refl))))))))))))))))))))))))))))))))))))))))))))))))))))))))))))))))))))))))))))))))))))))))))))))))))))))))
def fx3 := And.intro @vp3_5 (And.intro @vp3_6 (And.intro @vp3_7 (And.intro @vp3_8 (And.intro @vp3_9 (And.intro @vp3_10 (And.intro @ty3 (And.intro @ty22 (And.intro @ty24 (@ty64)))))))))
def fx4 := And.intro @vp4_5 (And.intro @vp4_6 (And.intro @vp4_7 (And.intro @vp4_10 (And.intro @vp4_11 (And.intro @vp4_12 (And.intro @ty3 (And.intro @ty4 (And.intro @ty5 (And.intro @ty22 (And.intro @ty24 (And.intro @ty31 (And.intro @ty64 (@ord4_17)))))))))))))
def fx6 := And.intro @vp6_22 (And.intro @vp6_23 (And.intro @ty4 (And.intro @ty66 (@ty97))))
def fx7 := And.intro @vp7_22 (And.intro @vp7_23 (And.intro @vp7_24 (And.intro @ty3 (And.intro @ty4 (And.intro @ty66 (@ty97))))))
def fx8 := And.intro @vp8_11 (And.intro @vp8_25 (@ty4))
def fx9 := And.intro @vp9_11 (And.intro @vp9_26 (And.intro @vp9_27 (@ty4)))
def fx10 := And.intro @ty3 (And.intro @ty22 (And.intro @ty64 (@ord10_6)))
def fx11 := And.intro @ty3 (And.intro @ty22 (And.intro @ty64 (@ord11_5)))
def fx12 := And.intro @ty3 (And.intro @ty4 (And.intro @ty22 (And.intro @ty31 (@ty64))))
def fx22 := And.intro @vp22_50 (And.intro @ty3 (And.intro @ty22 (And.intro @ty64 (@ty66))))
def fx23 := And.intro @vp23_51 (And.intro @ty3 (And.intro @ty22 (And.intro @ty64 (And.intro @ty66 (@ty97)))))
def fx24 := And.intro @ty3 (@ty66)
def fx25 := And.intro @vp25_12 (And.intro @vp25_52 (And.intro @ty3 (And.intro @ty4 (@ty31))))
def fx26 := @ty3
def fx27 := And.intro @vp27_12 (And.intro @vp27_52 (And.intro @ty3 (And.intro @ty4 (@ty31))))
def fx50 := And.intro @vp50_24 (And.intro @ty3 (@ty66))
def fx51 := @ty66
def fx52 := And.intro @ty3 (And.intro @ty4 (And.intro @ty22 (And.intro @ty31 (@ty64))))
def fx68 := And.intro @vp68_50 (And.intro @vp68_69 (And.intro @ty3 (And.intro @ty4 (And.intro @ty64 (And.intro @ty65 (And.intro @ty66 (@ord68_4)))))))
def fx69 := And.intro @ty3 (And.intro @ty5 (And.intro @ty65 (@ty155)))
end Go.Proofs.YtoomnecfapihaaaGreatDoor
