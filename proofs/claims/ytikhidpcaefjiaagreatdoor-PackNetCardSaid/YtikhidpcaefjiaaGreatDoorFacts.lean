/- What the proofs of this seat ask of its program. -/
import Derived.Test.YtikhidpcaefjiaaGreatDoorLaw
import Derived.Test.YtikhidpcaefjiaaGreatDoorPaleSym
import Derived.KernelRfl
set_option maxRecDepth 100000
namespace Go.Proofs.YtikhidpcaefjiaaGreatDoor
open Go Go.Proofs.YtikhidpcaefjiaaGreatDoor.Pale
theorem ty3 : lawProg.ty 3 = some (⟨.int .i64, 1, 8, [.int .i64 0]⟩ : TyI) := by kernel_rfl
theorem ty4 : lawProg.ty 4 = some (⟨.bool, 1, 1, [.bool false]⟩ : TyI) := by kernel_rfl
theorem ty5 : lawProg.ty 5 = some (⟨.int .u8, 1, 1, [.int .u8 0]⟩ : TyI) := by kernel_rfl
theorem ty9 : lawProg.ty 9 = some (⟨.string, 1, 16, [.str []]⟩ : TyI) := by kernel_rfl
theorem ty22 : lawProg.ty 22 = some (⟨.slice 5, 1, 24, [.vs .nil []]⟩ : TyI) := by kernel_rfl
theorem ty25 : lawProg.ty 25 = some (⟨.int .i64, 1, 8, [.int .i64 0]⟩ : TyI) := by kernel_rfl
theorem ty40 : lawProg.ty 40 = some (⟨.slice 44, 1, 24, [.vs .nil []]⟩ : TyI) := by kernel_rfl
theorem ty42 : lawProg.ty 42 = some (⟨.struct [(0, 3), (1, 40)], 2, 32, [.int .i64 0, .vs .nil []]⟩ : TyI) := by kernel_rfl
theorem ty44 : lawProg.ty 44 = some (⟨.struct [(0, 3), (1, 3), (2, 22)], 3, 40, [.int .i64 0, .int .i64 0, .vs .nil []]⟩ : TyI) := by kernel_rfl
theorem ty50 : lawProg.ty 50 = some (⟨.slice 3, 1, 24, [.vs .nil []]⟩ : TyI) := by kernel_rfl
theorem ty58 : lawProg.ty 58 = some (⟨.struct [(0, 5), (1, 3), (2, 3), (3, 3)], 4, 32, [.int .u8 0, .int .i64 0, .int .i64 0, .int .i64 0]⟩ : TyI) := by kernel_rfl
theorem ty63 : lawProg.ty 63 = some (⟨.slice 67, 1, 24, [.vs .nil []]⟩ : TyI) := by kernel_rfl
theorem ty64 : lawProg.ty 64 = some (⟨.slice 68, 1, 24, [.vs .nil []]⟩ : TyI) := by kernel_rfl
theorem ty66 : lawProg.ty 66 = some (⟨.struct [(0, 63), (1, 64)], 2, 48, [.vs .nil [], .vs .nil []]⟩ : TyI) := by kernel_rfl
theorem ty67 : lawProg.ty 67 = some (⟨.array 3 5, 3, 3, [.int .u8 0, .int .u8 0, .int .u8 0]⟩ : TyI) := by kernel_rfl
theorem ty68 : lawProg.ty 68 = some (⟨.array 4 5, 4, 4, [.int .u8 0, .int .u8 0, .int .u8 0, .int .u8 0]⟩ : TyI) := by kernel_rfl
theorem fn7 : lawProg.func 7 = some Tryz.f7 := by kernel_rfl
theorem fn9 : lawProg.func 9 = some Tryz.f9 := by kernel_rfl
theorem fn12 : lawProg.func 12 = some Tryz.f12 := by kernel_rfl
theorem fn21 : lawProg.func 21 = some Tryz.f21 := by kernel_rfl
theorem fn22 : lawProg.func 22 = some Tryz.f22 := by kernel_rfl
theorem fn23 : lawProg.func 23 = some Tryz.f23 := by kernel_rfl
theorem fn24 : lawProg.func 24 = some Tryz.f24 := by kernel_rfl
theorem fn25 : lawProg.func 25 = some Tryz.f25 := by kernel_rfl
theorem fn27 : lawProg.func 27 = some Tryz.f27 := by kernel_rfl
theorem fn28 : lawProg.func 28 = some Tryz.f28 := by kernel_rfl
theorem fn29 : lawProg.func 29 = some Tryz.f29 := by kernel_rfl
theorem fn30 : lawProg.func 30 = some Tryz.f30 := by kernel_rfl
theorem fn31 : lawProg.func 31 = some Tryz.f31 := by kernel_rfl
theorem fn33 : lawProg.func 33 = some Tryz.f33 := by kernel_rfl
theorem fn34 : lawProg.func 34 = some Tryz.f34 := by kernel_rfl
theorem fn35 : lawProg.func 35 = some Tryz.f35 := by kernel_rfl
theorem fn49 : lawProg.func 49 = some Tryz.f49 := by kernel_rfl
theorem fn51 : lawProg.func 51 = some Tryz.f51 := by kernel_rfl
theorem fn52 : lawProg.func 52 = some Tryz.f52 := by kernel_rfl
theorem fn62 : lawProg.func 62 = some Tryz.f62 := by kernel_rfl
theorem fn63 : lawProg.func 63 = some Tryz.f63 := by kernel_rfl
theorem fn64 : lawProg.func 64 = some Tryz.f64 := by kernel_rfl
theorem fn65 : lawProg.func 65 = some Tryz.f65 := by kernel_rfl
theorem fn66 : lawProg.func 66 = some Tryz.f66 := by kernel_rfl
theorem fn67 : lawProg.func 67 = some Tryz.f67 := by kernel_rfl
theorem fn68 : lawProg.func 68 = some Tryz.f68 := by kernel_rfl
theorem fn69 : lawProg.func 69 = some Tryz.f69 := by kernel_rfl
theorem fn70 : lawProg.func 70 = some Tryz.f70 := by kernel_rfl
theorem fn99 : lawProg.func 99 = some Tryz.f99 := by kernel_rfl
theorem bookNo7 : bookL.get 7 = none := by kernel_rfl
theorem memo7 (args : List AVal) : lawProg.memo 7 args = none := by show lookB bookL 7 args = none; unfold lookB; rw [bookNo7]
theorem memo9 : lawProg.memo 9 [] = some (.bool true, true) := by kernel_rfl
theorem bookNo12 : bookL.get 12 = none := by kernel_rfl
theorem memo12 (args : List AVal) : lawProg.memo 12 args = none := by show lookB bookL 12 args = none; unfold lookB; rw [bookNo12]
theorem bookNo21 : bookL.get 21 = none := by kernel_rfl
theorem memo21 (args : List AVal) : lawProg.memo 21 args = none := by show lookB bookL 21 args = none; unfold lookB; rw [bookNo21]
theorem bookNo22 : bookL.get 22 = none := by kernel_rfl
theorem memo22 (args : List AVal) : lawProg.memo 22 args = none := by show lookB bookL 22 args = none; unfold lookB; rw [bookNo22]
theorem bookNo23 : bookL.get 23 = none := by kernel_rfl
theorem memo23 (args : List AVal) : lawProg.memo 23 args = none := by show lookB bookL 23 args = none; unfold lookB; rw [bookNo23]
theorem bookNo24 : bookL.get 24 = none := by kernel_rfl
theorem memo24 (args : List AVal) : lawProg.memo 24 args = none := by show lookB bookL 24 args = none; unfold lookB; rw [bookNo24]
theorem bookNo25 : bookL.get 25 = none := by kernel_rfl
theorem memo25 (args : List AVal) : lawProg.memo 25 args = none := by show lookB bookL 25 args = none; unfold lookB; rw [bookNo25]
theorem bookNo27 : bookL.get 27 = none := by kernel_rfl
theorem memo27 (args : List AVal) : lawProg.memo 27 args = none := by show lookB bookL 27 args = none; unfold lookB; rw [bookNo27]
theorem bookNo28 : bookL.get 28 = none := by kernel_rfl
theorem memo28 (args : List AVal) : lawProg.memo 28 args = none := by show lookB bookL 28 args = none; unfold lookB; rw [bookNo28]
theorem bookNo29 : bookL.get 29 = none := by kernel_rfl
theorem memo29 (args : List AVal) : lawProg.memo 29 args = none := by show lookB bookL 29 args = none; unfold lookB; rw [bookNo29]
theorem bookNo30 : bookL.get 30 = none := by kernel_rfl
theorem memo30 (args : List AVal) : lawProg.memo 30 args = none := by show lookB bookL 30 args = none; unfold lookB; rw [bookNo30]
theorem bookNo31 : bookL.get 31 = none := by kernel_rfl
theorem memo31 (args : List AVal) : lawProg.memo 31 args = none := by show lookB bookL 31 args = none; unfold lookB; rw [bookNo31]
theorem bookNo33 : bookL.get 33 = none := by kernel_rfl
theorem memo33 (args : List AVal) : lawProg.memo 33 args = none := by show lookB bookL 33 args = none; unfold lookB; rw [bookNo33]
theorem bookNo34 : bookL.get 34 = none := by kernel_rfl
theorem memo34 (args : List AVal) : lawProg.memo 34 args = none := by show lookB bookL 34 args = none; unfold lookB; rw [bookNo34]
theorem bookNo35 : bookL.get 35 = none := by kernel_rfl
theorem memo35 (args : List AVal) : lawProg.memo 35 args = none := by show lookB bookL 35 args = none; unfold lookB; rw [bookNo35]
theorem bookNo49 : bookL.get 49 = none := by kernel_rfl
theorem memo49 (args : List AVal) : lawProg.memo 49 args = none := by show lookB bookL 49 args = none; unfold lookB; rw [bookNo49]
theorem bookNo51 : bookL.get 51 = none := by kernel_rfl
theorem memo51 (args : List AVal) : lawProg.memo 51 args = none := by show lookB bookL 51 args = none; unfold lookB; rw [bookNo51]
theorem bookNo52 : bookL.get 52 = none := by kernel_rfl
theorem memo52 (args : List AVal) : lawProg.memo 52 args = none := by show lookB bookL 52 args = none; unfold lookB; rw [bookNo52]
theorem bookNo62 : bookL.get 62 = none := by kernel_rfl
theorem memo62 (args : List AVal) : lawProg.memo 62 args = none := by show lookB bookL 62 args = none; unfold lookB; rw [bookNo62]
theorem bookNo63 : bookL.get 63 = none := by kernel_rfl
theorem memo63 (args : List AVal) : lawProg.memo 63 args = none := by show lookB bookL 63 args = none; unfold lookB; rw [bookNo63]
theorem bookNo64 : bookL.get 64 = none := by kernel_rfl
theorem memo64 (args : List AVal) : lawProg.memo 64 args = none := by show lookB bookL 64 args = none; unfold lookB; rw [bookNo64]
theorem bookNo65 : bookL.get 65 = none := by kernel_rfl
theorem memo65 (args : List AVal) : lawProg.memo 65 args = none := by show lookB bookL 65 args = none; unfold lookB; rw [bookNo65]
theorem bookNo66 : bookL.get 66 = none := by kernel_rfl
theorem memo66 (args : List AVal) : lawProg.memo 66 args = none := by show lookB bookL 66 args = none; unfold lookB; rw [bookNo66]
theorem bookNo67 : bookL.get 67 = none := by kernel_rfl
theorem memo67 (args : List AVal) : lawProg.memo 67 args = none := by show lookB bookL 67 args = none; unfold lookB; rw [bookNo67]
theorem bookNo68 : bookL.get 68 = none := by kernel_rfl
theorem memo68 (args : List AVal) : lawProg.memo 68 args = none := by show lookB bookL 68 args = none; unfold lookB; rw [bookNo68]
theorem bookNo69 : bookL.get 69 = none := by kernel_rfl
theorem memo69 (args : List AVal) : lawProg.memo 69 args = none := by show lookB bookL 69 args = none; unfold lookB; rw [bookNo69]
theorem bookNo70 : bookL.get 70 = none := by kernel_rfl
theorem memo70 (args : List AVal) : lawProg.memo 70 args = none := by show lookB bookL 70 args = none; unfold lookB; rw [bookNo70]
theorem bookNo99 : bookL.get 99 = none := by kernel_rfl
theorem memo99 (args : List AVal) : lawProg.memo 99 args = none := by show lookB bookL 99 args = none; unfold lookB; rw [bookNo99]
theorem vp7_9 : lawProg.isVal 7 9 = true := by kernel_rfl
theorem vp7_22 : lawProg.isVal 7 22 = true := by kernel_rfl
theorem vp7_23 : lawProg.isVal 7 23 = true := by kernel_rfl
theorem vp7_24 : lawProg.isVal 7 24 = true := by kernel_rfl
theorem vp7_28 : lawProg.isVal 7 28 = true := by kernel_rfl
theorem vp7_31 : lawProg.isVal 7 31 = true := by kernel_rfl
theorem vp7_34 : lawProg.isVal 7 34 = true := by kernel_rfl
theorem vp7_35 : lawProg.isVal 7 35 = true := by kernel_rfl
theorem vp22_29 : lawProg.isVal 22 29 = true := by kernel_rfl
theorem vp22_62 : lawProg.isVal 22 62 = true := by kernel_rfl
theorem vp22_63 : lawProg.isVal 22 63 = false := by kernel_rfl
theorem vp22_64 : lawProg.isVal 22 64 = false := by kernel_rfl
theorem vp23_24 : lawProg.isVal 23 24 = false := by kernel_rfl
theorem vp25_29 : lawProg.isVal 25 29 = true := by kernel_rfl
theorem vp25_49 : lawProg.isVal 25 49 = true := by kernel_rfl
theorem vp27_33 : lawProg.isVal 27 33 = true := by kernel_rfl
theorem vp28_52 : lawProg.isVal 28 52 = true := by kernel_rfl
theorem vp28_65 : lawProg.isVal 28 65 = true := by kernel_rfl
theorem vp29_49 : lawProg.isVal 29 49 = true := by kernel_rfl
theorem vp29_67 : lawProg.isVal 29 67 = false := by kernel_rfl
theorem vp31_29 : lawProg.isVal 31 29 = true := by kernel_rfl
theorem vp31_63 : lawProg.isVal 31 63 = false := by kernel_rfl
theorem vp31_64 : lawProg.isVal 31 64 = false := by kernel_rfl
theorem vp31_68 : lawProg.isVal 31 68 = true := by kernel_rfl
theorem vp31_69 : lawProg.isVal 31 69 = false := by kernel_rfl
theorem vp62_49 : lawProg.isVal 62 49 = true := by kernel_rfl
theorem vp63_64 : lawProg.isVal 63 64 = false := by kernel_rfl
theorem vp64_51 : lawProg.isVal 64 51 = false := by kernel_rfl
theorem vp65_52 : lawProg.isVal 65 52 = true := by kernel_rfl
theorem vp66_62 : lawProg.isVal 66 62 = true := by kernel_rfl
theorem vp67_99 : lawProg.isVal 67 99 = false := by kernel_rfl
theorem vp68_49 : lawProg.isVal 68 49 = true := by kernel_rfl
theorem vp70_52 : lawProg.isVal 70 52 = true := by kernel_rfl
theorem ord7_8 : lawProg.ord 7 8 = some ⟨[(0, []), (1, []), (2, []), (3, []), (4, []), (5, []), (6, []), (7, []), (8, []), (9, []), (10, []), (11, []), (12, []), (13, []), (14, []), (15, []), (16, []), (17, []), (18, []), (19, []), (20, []), (21, []), (22, []), (23, []), (24, []), (25, []), (26, []), (27, [])], [[], [0], [], [0, 1, 2], [0, 1, 2, 3], [0, 1, 2, 3, 4], [0, 1, 2, 3, 4, 5], [0, 1, 2, 3, 4, 5, 6], [], [8], [], [8, 9, 10], [8, 9, 10, 11], [8, 9, 10, 11, 12], [8, 9, 10, 11, 12, 13], [8, 9, 10, 11, 12, 13, 14], [], [16], [], [16, 17, 18], [16, 17, 18, 19], [16, 17, 18, 19, 20], [], [22], [16, 17, 18, 19, 20, 21, 22, 23], [0, 1, 2, 3, 4, 5, 6, 7, 8, 9, 10, 11, 12, 13, 14, 15, 16, 17, 18, 19, 20, 21, 22, 23, 24], [], [0, 1, 2, 3, 4, 5, 6, 7, 8, 9, 10, 11, 12, 13, 14, 15, 16, 17, 18, 19, 20, 21, 22, 23, 24, 25, 26]]⟩ := by kernel_rfl
theorem ord7_9 : lawProg.ord 7 9 = some ⟨[(0, []), (2, []), (8, []), (1, [2]), (3, []), (4, []), (5, []), (6, []), (7, []), (9, []), (10, [])], [[], [0], [], [0, 1, 2], [0, 1, 2, 3], [0, 1, 2, 3, 4], [0, 1, 2, 3, 4, 5], [0, 1, 2, 3, 4, 5], [], [0, 1, 2, 3, 4, 5, 6, 8], [0, 1, 2, 3, 4, 5, 6, 7, 8, 9]]⟩ := by kernel_rfl
theorem ord7_10 : lawProg.ord 7 10 = some ⟨[(0, []), (1, []), (2, []), (3, []), (5, []), (6, []), (4, [0]), (7, []), (8, []), (9, [])], [[], [], [], [2], [1, 2, 3], [], [5], [0, 1, 2, 3, 4], [0, 1, 2, 3, 4, 7], [0, 1, 2, 3, 4, 5, 6, 7, 8]]⟩ := by kernel_rfl
theorem ord7_15 : lawProg.ord 7 15 = some ⟨[(0, []), (1, []), (2, []), (3, []), (4, []), (5, []), (6, []), (7, []), (8, []), (9, []), (10, []), (11, []), (12, []), (13, []), (14, []), (15, []), (16, []), (17, []), (18, []), (19, []), (20, []), (21, [])], [[], [0], [], [0, 1, 2], [0, 1, 2, 3], [0, 1, 2, 3, 4], [0, 1, 2, 3, 4, 5], [0, 1, 2, 3, 4, 5, 6], [], [8], [], [8, 9, 10], [8, 9, 10, 11], [8, 9, 10, 11, 12], [8, 9, 10, 11, 12, 13], [], [15], [15, 16], [8, 9, 10, 11, 12, 13, 14, 15, 16, 17], [0, 1, 2, 3, 4, 5, 6, 7, 8, 9, 10, 11, 12, 13, 14, 15, 16, 17, 18], [], [0, 1, 2, 3, 4, 5, 6, 7, 8, 9, 10, 11, 12, 13, 14, 15, 16, 17, 18, 19, 20]]⟩ := by kernel_rfl
theorem ord7_17 : lawProg.ord 7 17 = some ⟨[(0, []), (1, []), (2, []), (3, []), (4, []), (5, []), (6, []), (7, []), (8, []), (9, []), (10, []), (11, []), (12, []), (13, []), (14, []), (15, []), (16, []), (17, []), (18, [9, 13]), (19, []), (20, []), (21, [])], [[], [0], [], [0, 1, 2], [0, 1, 2, 3], [0, 1, 2, 3, 4], [0, 1, 2, 3, 4, 5], [0, 1, 2, 3, 4, 5, 6], [], [8], [], [8, 9, 10], [8, 9, 10, 11], [8, 9, 10, 11, 12], [8, 9, 10, 11, 12, 13], [8, 9, 10, 11, 12, 13, 14], [8, 9, 10, 11, 12, 13, 14, 15], [0, 1, 2, 3, 4, 5, 6, 7], [0, 1, 2, 3, 4, 5, 6, 7, 17], [0, 1, 2, 3, 4, 5, 6, 7, 8, 9, 10, 11, 12, 13, 14, 15, 16, 17, 18], [0, 1, 2, 3, 4, 5, 6, 7, 8, 9, 10, 11, 12, 13, 14, 15, 16, 17, 18, 19], [0, 1, 2, 3, 4, 5, 6, 7, 8, 9, 10, 11, 12, 13, 14, 15, 16, 17, 18, 19, 20]]⟩ := by kernel_rfl
theorem ord7_18 : lawProg.ord 7 18 = some ⟨[(0, []), (2, []), (8, []), (1, [2]), (3, []), (4, []), (5, []), (6, []), (7, []), (9, []), (10, []), (11, [])], [[], [0], [], [0, 1, 2], [0, 1, 2, 3], [0, 1, 2, 3, 4], [0, 1, 2, 3, 4], [0, 1, 2, 3, 4], [], [0, 1, 2, 3, 4, 5, 8], [0, 1, 2, 3, 4, 5, 6, 8, 9], [0, 1, 2, 3, 4, 5, 6, 7, 8, 9, 10]]⟩ := by kernel_rfl
theorem ord7_22 : lawProg.ord 7 22 = some ⟨[(0, []), (1, []), (2, []), (3, []), (5, []), (6, []), (7, []), (4, [6]), (8, []), (9, []), (10, []), (11, []), (12, []), (13, []), (14, []), (15, []), (16, [])], [[], [], [1], [1, 2], [1, 2, 3], [], [5], [5, 6], [1, 2, 3, 4, 5, 6, 7], [1, 2, 3, 4, 5, 6, 7, 8], [1, 2, 3, 4, 5, 6, 7, 8, 9], [1, 2, 3, 4, 5, 6, 7, 8, 9, 10], [1, 2, 3, 4, 5, 6, 7, 8, 9, 10, 11], [1, 2, 3, 4, 5, 6, 7, 8, 9, 10, 11, 12], [1, 2, 3, 4, 5, 6, 7, 8, 9, 10, 11, 12, 13], [0, 1, 2, 3, 4, 5, 6, 7, 8, 9, 10, 11, 12, 13, 14], [0, 1, 2, 3, 4, 5, 6, 7, 8, 9, 10, 11, 12, 13, 14, 15]]⟩ := by kernel_rfl
theorem ord22_9 : lawProg.ord 22 9 = some ⟨[(0, []), (1, []), (2, []), (3, [1]), (4, []), (5, []), (6, []), (7, [])], [[], [0], [], [2], [2, 3], [0, 1, 2, 3, 4], [0, 1, 2, 3, 4, 5], [0, 1, 2, 3, 4, 5, 6]]⟩ := by kernel_rfl
theorem ord23_5 : lawProg.ord 23 5 = some ⟨[(0, []), (1, []), (2, []), (3, []), (4, []), (5, []), (6, []), (7, [1]), (8, []), (9, []), (10, []), (11, [])], [[], [0], [], [2], [], [2, 3, 4], [2, 3, 4, 5], [2, 3, 4, 5, 6], [2, 3, 4, 5, 6, 7], [0, 1, 2, 3, 4, 5, 6, 7, 8], [0, 1, 2, 3, 4, 5, 6, 7, 8, 9], [0, 1, 2, 3, 4, 5, 6, 7, 8, 9, 10]]⟩ := by kernel_rfl
theorem ord28_6 : lawProg.ord 28 6 = some ⟨[(0, []), (1, []), (2, []), (3, []), (4, []), (5, []), (6, []), (7, [])], [[], [], [1], [], [1, 2, 3], [1, 2, 3, 4], [0, 1, 2, 3, 4, 5], [0, 1, 2, 3, 4, 5, 6]]⟩ := by kernel_rfl
theorem ord31_15 : lawProg.ord 31 15 = some ⟨[(0, []), (1, []), (2, []), (3, []), (4, []), (5, []), (6, []), (7, []), (8, [1]), (9, []), (10, []), (11, []), (12, [])], [[], [0], [], [2], [], [4], [2, 3, 4, 5], [2, 3, 4, 5, 6], [2, 3, 4, 5, 6, 7], [2, 3, 4, 5, 6, 7, 8], [0, 1, 2, 3, 4, 5, 6, 7, 8, 9], [0, 1, 2, 3, 4, 5, 6, 7, 8, 9, 10], [0, 1, 2, 3, 4, 5, 6, 7, 8, 9, 10, 11]]⟩ := by kernel_rfl
theorem ord31_16 : lawProg.ord 31 16 = some ⟨[(0, []), (1, []), (2, []), (3, []), (4, []), (5, []), (6, []), (7, []), (8, []), (9, []), (10, []), (11, []), (12, []), (13, []), (14, []), (15, []), (16, [])], [[], [0], [], [2], [0, 1, 2, 3], [0, 1, 2, 3, 4], [0, 1, 2, 3, 4, 5], [], [7], [0, 1, 2, 3, 4, 5, 6, 7, 8], [0, 1, 2, 3, 4, 5, 6, 7, 8, 9], [], [11], [11, 12], [0, 1, 2, 3, 4, 5, 6, 7, 8, 9, 10, 11, 12, 13], [0, 1, 2, 3, 4, 5, 6, 7, 8, 9, 10, 11, 12, 13, 14], [0, 1, 2, 3, 4, 5, 6, 7, 8, 9, 10, 11, 12, 13, 14, 15]]⟩ := by kernel_rfl
theorem ord33_6 : lawProg.ord 33 6 = some ⟨[(0, []), (1, []), (2, []), (3, []), (4, []), (5, []), (6, []), (7, []), (8, []), (9, []), (10, []), (11, []), (12, []), (13, []), (14, []), (15, []), (16, []), (17, []), (18, []), (19, []), (20, []), (21, []), (22, []), (23, []), (24, []), (25, []), (26, []), (27, []), (28, []), (29, []), (30, []), (31, []), (32, []), (33, []), (34, []), (35, []), (36, []), (37, []), (38, [])], [[], [], [0, 1], [0, 1, 2], [0, 1, 2, 3], [], [], [5, 6], [5, 6, 7], [5, 6, 7, 8], [0, 1, 2, 3, 4, 5, 6, 7, 8, 9], [0, 1, 2, 3, 4, 5, 6, 7, 8, 9, 10], [0, 1, 2, 3, 4, 5, 6, 7, 8, 9, 10, 11], [0, 1, 2, 3, 4, 5, 6, 7, 8, 9, 10, 11], [0, 1, 2, 3, 4, 5, 6, 7, 8, 9, 10, 11, 12, 13], [0, 1, 2, 3, 4, 5, 6, 7, 8, 9, 10, 11, 12, 13, 14], [0, 1, 2, 3, 4, 5, 6, 7, 8, 9, 10, 11, 12, 13, 14, 15], [0, 1, 2, 3, 4, 5, 6, 7, 8, 9, 10, 11], [0, 1, 2, 3, 4, 5, 6, 7, 8, 9, 10, 11], [0, 1, 2, 3, 4, 5, 6, 7, 8, 9, 10, 11, 17, 18], [0, 1, 2, 3, 4, 5, 6, 7, 8, 9, 10, 11, 17, 18, 19], [0, 1, 2, 3, 4, 5, 6, 7, 8, 9, 10, 11, 17, 18, 19, 20], [0, 1, 2, 3, 4, 5, 6, 7, 8, 9, 10, 11, 12, 13, 14, 15, 16, 17, 18, 19, 20, 21], [0, 1, 2, 3, 4, 5, 6, 7, 8, 9, 10, 11, 12, 13, 14, 15, 16, 17, 18, 19, 20, 21, 22], [0, 1, 2, 3, 4, 5, 6, 7, 8, 9, 10, 11, 12, 13, 14, 15, 16, 17, 18, 19, 20, 21, 22, 23], [0, 1, 2, 3, 4, 5, 6, 7, 8, 9, 10, 11, 12, 13, 14, 15, 16, 17, 18, 19, 20, 21, 22, 23, 24], [0, 1, 2, 3, 4, 5, 6, 7, 8, 9, 10, 11, 12, 13, 14, 15, 16, 17, 18, 19, 20, 21, 22, 23, 24], [0, 1, 2, 3, 4, 5, 6, 7, 8, 9, 10, 11, 12, 13, 14, 15, 16, 17, 18, 19, 20, 21, 22, 23, 24, 25, 26], [0, 1, 2, 3, 4, 5, 6, 7, 8, 9, 10, 11, 12, 13, 14, 15, 16, 17, 18, 19, 20, 21, 22, 23, 24, 25, 26, 27], [0, 1, 2, 3, 4, 5, 6, 7, 8, 9, 10, 11, 12, 13, 14, 15, 16, 17, 18, 19, 20, 21, 22, 23, 24, 25, 26, 27, 28], [0, 1, 2, 3, 4, 5, 6, 7, 8, 9, 10, 11, 12, 13, 14, 15, 16, 17, 18, 19, 20, 21, 22, 23, 24, 25, 26, 27, 28, 29], [0, 1, 2, 3, 4, 5, 6, 7, 8, 9, 10, 11, 12, 13, 14, 15, 16, 17, 18, 19, 20, 21, 22, 23, 24], [0, 1, 2, 3, 4, 5, 6, 7, 8, 9, 10, 11, 12, 13, 14, 15, 16, 17, 18, 19, 20, 21, 22, 23, 24], [0, 1, 2, 3, 4, 5, 6, 7, 8, 9, 10, 11, 12, 13, 14, 15, 16, 17, 18, 19, 20, 21, 22, 23, 24, 31, 32], [0, 1, 2, 3, 4, 5, 6, 7, 8, 9, 10, 11, 12, 13, 14, 15, 16, 17, 18, 19, 20, 21, 22, 23, 24, 31, 32, 33], [0, 1, 2, 3, 4, 5, 6, 7, 8, 9, 10, 11, 12, 13, 14, 15, 16, 17, 18, 19, 20, 21, 22, 23, 24, 31, 32, 33, 34], [0, 1, 2, 3, 4, 5, 6, 7, 8, 9, 10, 11, 12, 13, 14, 15, 16, 17, 18, 19, 20, 21, 22, 23, 24, 31, 32, 33, 34, 35], [0, 1, 2, 3, 4, 5, 6, 7, 8, 9, 10, 11, 12, 13, 14, 15, 16, 17, 18, 19, 20, 21, 22, 23, 24, 25, 26, 27, 28, 29, 30, 31, 32, 33, 34, 35, 36], [0, 1, 2, 3, 4, 5, 6, 7, 8, 9, 10, 11, 12, 13, 14, 15, 16, 17, 18, 19, 20, 21, 22, 23, 24, 25, 26, 27, 28, 29, 30, 31, 32, 33, 34, 35, 36, 37]]⟩ := by kernel_rfl
theorem ord35_4 : lawProg.ord 35 4 = some ⟨[(0, []), (1, []), (2, []), (3, []), (4, []), (5, []), (6, []), (7, []), (8, []), (9, []), (10, []), (11, []), (12, []), (13, []), (14, []), (15, []), (16, []), (17, []), (18, []), (19, []), (20, []), (21, []), (22, []), (23, []), (24, []), (25, []), (26, []), (27, []), (28, []), (29, []), (30, []), (31, []), (32, []), (33, []), (34, []), (35, []), (36, []), (37, []), (38, []), (39, []), (40, []), (41, []), (42, []), (43, []), (44, [])], [[], [], [0, 1], [0, 1, 2], [0, 1, 2, 3], [], [5], [0, 1, 2, 3, 4, 5, 6], [0, 1, 2, 3, 4, 5, 6, 7], [0, 1, 2, 3, 4, 5, 6, 7, 8], [0, 1, 2, 3, 4, 5, 6, 7, 8], [0, 1, 2, 3, 4, 5, 6, 7, 8, 9, 10], [0, 1, 2, 3, 4, 5, 6, 7, 8, 9, 10, 11], [0, 1, 2, 3, 4, 5, 6, 7, 8, 9, 10, 11, 12], [0, 1, 2, 3, 4, 5, 6, 7, 8], [0, 1, 2, 3, 4, 5, 6, 7, 8, 14], [0, 1, 2, 3, 4, 5, 6, 7, 8, 9, 10, 11, 12, 13, 14, 15], [0, 1, 2, 3, 4, 5, 6, 7, 8, 9, 10, 11, 12, 13, 14, 15, 16], [0, 1, 2, 3, 4, 5, 6, 7, 8, 9, 10, 11, 12, 13, 14, 15, 16, 17], [0, 1, 2, 3, 4, 5, 6, 7, 8, 9, 10, 11, 12, 13, 14, 15, 16, 17, 18], [0, 1, 2, 3, 4, 5, 6, 7, 8, 9, 10, 11, 12, 13, 14, 15, 16, 17, 18, 19], [0, 1, 2, 3, 4, 5, 6, 7, 8, 9, 10, 11, 12, 13, 14, 15, 16, 17, 18, 19, 20], [0, 1, 2, 3, 4, 5, 6, 7, 8, 9, 10, 11, 12, 13, 14, 15, 16, 17, 18, 19, 20, 21], [0, 1, 2, 3, 4, 5, 6, 7, 8, 9, 10, 11, 12, 13, 14, 15, 16, 17, 18, 19, 20, 21, 22], [0, 1, 2, 3, 4, 5, 6, 7, 8, 9, 10, 11, 12, 13, 14, 15, 16, 17, 18, 19, 20], [0, 1, 2, 3, 4, 5, 6, 7, 8, 9, 10, 11, 12, 13, 14, 15, 16, 17, 18, 19, 20], [0, 1, 2, 3, 4, 5, 6, 7, 8, 9, 10, 11, 12, 13, 14, 15, 16, 17, 18, 19, 20, 24, 25], [0, 1, 2, 3, 4, 5, 6, 7, 8, 9, 10, 11, 12, 13, 14, 15, 16, 17, 18, 19, 20, 24, 25, 26], [0, 1, 2, 3, 4, 5, 6, 7, 8, 9, 10, 11, 12, 13, 14, 15, 16, 17, 18, 19, 20, 24, 25, 26, 27], [0, 1, 2, 3, 4, 5, 6, 7, 8, 9, 10, 11, 12, 13, 14, 15, 16, 17, 18, 19, 20, 24, 25, 26, 27, 28], [0, 1, 2, 3, 4, 5, 6, 7, 8, 9, 10, 11, 12, 13, 14, 15, 16, 17, 18, 19, 20, 21, 22, 23, 24, 25, 26, 27, 28, 29], [0, 1, 2, 3, 4, 5, 6, 7, 8, 9, 10, 11, 12, 13, 14, 15, 16, 17, 18, 19, 20, 21, 22, 23, 24, 25, 26, 27, 28, 29, 30], [0, 1, 2, 3, 4, 5, 6, 7, 8, 9, 10, 11, 12, 13, 14, 15, 16, 17, 18, 19, 20, 21, 22, 23, 24, 25, 26, 27, 28, 29, 30, 31], [0, 1, 2, 3, 4, 5, 6, 7, 8, 9, 10, 11, 12, 13, 14, 15, 16, 17, 18, 19, 20, 21, 22, 23, 24, 25, 26, 27, 28, 29, 30, 31, 32], [0, 1, 2, 3, 4, 5, 6, 7, 8, 9, 10, 11, 12, 13, 14, 15, 16, 17, 18, 19, 20, 21, 22, 23, 24, 25, 26, 27, 28, 29, 30, 31, 32], [0, 1, 2, 3, 4, 5, 6, 7, 8, 9, 10, 11, 12, 13, 14, 15, 16, 17, 18, 19, 20, 21, 22, 23, 24, 25, 26, 27, 28, 29, 30, 31, 32, 33, 34], [0, 1, 2, 3, 4, 5, 6, 7, 8, 9, 10, 11, 12, 13, 14, 15, 16, 17, 18, 19, 20, 21, 22, 23, 24, 25, 26, 27, 28, 29, 30, 31, 32, 33, 34, 35], [0, 1, 2, 3, 4, 5, 6, 7, 8, 9, 10, 11, 12, 13, 14, 15, 16, 17, 18, 19, 20, 21, 22, 23, 24, 25, 26, 27, 28, 29, 30, 31, 32, 33, 34, 35, 36], [0, 1, 2, 3, 4, 5, 6, 7, 8, 9, 10, 11, 12, 13, 14, 15, 16, 17, 18, 19, 20, 21, 22, 23, 24, 25, 26, 27, 28, 29, 30, 31, 32, 33, 34, 35, 36, 37], [0, 1, 2, 3, 4, 5, 6, 7, 8, 9, 10, 11, 12, 13, 14, 15, 16, 17, 18, 19, 20, 21, 22, 23, 24, 25, 26, 27, 28, 29, 30, 31, 32], [0, 1, 2, 3, 4, 5, 6, 7, 8, 9, 10, 11, 12, 13, 14, 15, 16, 17, 18, 19, 20, 21, 22, 23, 24, 25, 26, 27, 28, 29, 30, 31, 32, 39], [0, 1, 2, 3, 4, 5, 6, 7, 8, 9, 10, 11, 12, 13, 14, 15, 16, 17, 18, 19, 20, 21, 22, 23, 24, 25, 26, 27, 28, 29, 30, 31, 32, 39, 40], [0, 1, 2, 3, 4, 5, 6, 7, 8, 9, 10, 11, 12, 13, 14, 15, 16, 17, 18, 19, 20, 21, 22, 23, 24, 25, 26, 27, 28, 29, 30, 31, 32, 33, 34, 35, 36, 37, 38, 39, 40, 41], [0, 1, 2, 3, 4, 5, 6, 7, 8, 9, 10, 11, 12, 13, 14, 15, 16, 17, 18, 19, 20, 21, 22, 23, 24, 25, 26, 27, 28, 29, 30, 31, 32, 33, 34, 35, 36, 37, 38, 39, 40, 41, 42], [0, 1, 2, 3, 4, 5, 6, 7, 8, 9, 10, 11, 12, 13, 14, 15, 16, 17, 18, 19, 20, 21, 22, 23, 24, 25, 26, 27, 28, 29, 30, 31, 32, 33, 34, 35, 36, 37, 38, 39, 40, 41, 42, 43]]⟩ := by kernel_rfl
theorem ord63_5 : lawProg.ord 63 5 = some ⟨[(0, []), (1, []), (2, []), (3, [1]), (4, []), (5, []), (6, []), (7, [])], [[], [0], [], [2], [2, 3], [0, 1, 2, 3, 4], [0, 1, 2, 3, 4, 5], [0, 1, 2, 3, 4, 5, 6]]⟩ := by kernel_rfl
theorem ord68_9 : lawProg.ord 68 9 = some ⟨[(0, []), (1, []), (2, []), (3, []), (4, []), (5, []), (6, []), (7, []), (8, []), (9, []), (10, []), (11, []), (12, []), (13, []), (14, []), (15, []), (16, []), (17, [])], [[], [0], [], [2], [0, 1, 2, 3], [0, 1, 2, 3, 4], [0, 1, 2, 3, 4, 5], [0, 1, 2, 3, 4, 5, 6], [0, 1, 2, 3, 4, 5, 6, 7], [], [9], [0, 1, 2, 3, 4, 5, 6, 7, 8, 9, 10], [0, 1, 2, 3, 4, 5, 6, 7, 8, 9, 10, 11], [0, 1, 2, 3, 4, 5, 6, 7, 8, 9, 10, 11, 12], [0, 1, 2, 3, 4, 5, 6, 7, 8, 9, 10, 11, 12, 13], [0, 1, 2, 3, 4, 5, 6, 7, 8, 9, 10, 11, 12, 13, 14], [0, 1, 2, 3, 4, 5, 6, 7, 8, 9, 10, 11, 12, 13, 14, 15], [0, 1, 2, 3, 4, 5, 6, 7, 8, 9, 10, 11, 12, 13, 14, 15, 16]]⟩ := by kernel_rfl
theorem ord69_5 : lawProg.ord 69 5 = some ⟨[(0, []), (1, []), (2, []), (3, []), (4, []), (5, []), (6, []), (7, [])], [[], [], [0, 1], [], [], [3, 4], [0, 1, 2, 3, 4, 5], [0, 1, 2, 3, 4, 5, 6]]⟩ := by kernel_rfl
theorem ord70_4 : lawProg.ord 70 4 = some ⟨[(0, []), (1, []), (2, []), (3, []), (4, []), (5, []), (6, []), (7, []), (8, []), (9, []), (10, []), (11, []), (12, []), (13, []), (14, []), (15, []), (16, []), (17, [])], [[], [0], [], [2], [], [4], [2, 3, 4, 5], [2, 3, 4, 5, 6], [2, 3, 4, 5, 6, 7], [2, 3, 4, 5, 6, 7, 8], [2, 3, 4, 5, 6, 7, 8, 9], [0, 1, 2, 3, 4, 5, 6, 7, 8, 9, 10], [0, 1, 2, 3, 4, 5, 6, 7, 8, 9, 10, 11], [0, 1, 2, 3, 4, 5, 6, 7, 8, 9, 10, 11, 12], [0, 1, 2, 3, 4, 5, 6, 7, 8, 9, 10, 11, 12, 13], [0, 1, 2, 3, 4, 5, 6, 7, 8, 9, 10, 11, 12, 13, 14], [0, 1, 2, 3, 4, 5, 6, 7, 8, 9, 10, 11, 12, 13, 14, 15], [0, 1, 2, 3, 4, 5, 6, 7, 8, 9, 10, 11, 12, 13, 14, 15, 16]]⟩ := by kernel_rfl
end Go.Proofs.YtikhidpcaefjiaaGreatDoor
