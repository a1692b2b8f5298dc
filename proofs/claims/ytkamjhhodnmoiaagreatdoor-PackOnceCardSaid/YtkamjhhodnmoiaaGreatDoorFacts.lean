/- What the proofs of this seat ask of its program. -/
import Derived.Test.YtkamjhhodnmoiaaGreatDoorLaw
import Derived.Test.YtkamjhhodnmoiaaGreatDoorPaleSym
import Derived.KernelRfl
set_option maxRecDepth 100000
namespace Go.Proofs.YtkamjhhodnmoiaaGreatDoor
open Go Go.Proofs.YtkamjhhodnmoiaaGreatDoor.Pale
theorem ty3 : lawProg.ty 3 = some (⟨.int .i64, 1, 8, [.int .i64 0]⟩ : TyI) := by kernel_rfl
theorem ty4 : lawProg.ty 4 = some (⟨.bool, 1, 1, [.bool false]⟩ : TyI) := by kernel_rfl
theorem ty5 : lawProg.ty 5 = some (⟨.int .u8, 1, 1, [.int .u8 0]⟩ : TyI) := by kernel_rfl
theorem ty9 : lawProg.ty 9 = some (⟨.string, 1, 16, [.str []]⟩ : TyI) := by kernel_rfl
theorem ty22 : lawProg.ty 22 = some (⟨.slice 53, 1, 24, [.vs .nil []]⟩ : TyI) := by kernel_rfl
theorem ty24 : lawProg.ty 24 = some (⟨.struct [(0, 22)], 1, 24, [.vs .nil []]⟩ : TyI) := by kernel_rfl
theorem ty25 : lawProg.ty 25 = some (⟨.slice 5, 1, 24, [.vs .nil []]⟩ : TyI) := by kernel_rfl
theorem ty27 : lawProg.ty 27 = some (⟨.struct [(0, 3), (1, 3), (2, 3), (3, 25)], 4, 48, [.int .i64 0, .int .i64 0, .int .i64 0, .vs .nil []]⟩ : TyI) := by kernel_rfl
theorem ty30 : lawProg.ty 30 = some (⟨.int .i64, 1, 8, [.int .i64 0]⟩ : TyI) := by kernel_rfl
theorem ty41 : lawProg.ty 41 = some (⟨.slice 25, 1, 24, [.vs .nil []]⟩ : TyI) := by kernel_rfl
theorem ty43 : lawProg.ty 43 = some (⟨.struct [(0, 5), (1, 41), (2, 25)], 3, 56, [.int .u8 0, .vs .nil [], .vs .nil []]⟩ : TyI) := by kernel_rfl
theorem ty44 : lawProg.ty 44 = some (⟨.slice 27, 1, 24, [.vs .nil []]⟩ : TyI) := by kernel_rfl
theorem ty47 : lawProg.ty 47 = some (⟨.slice 3, 1, 24, [.vs .nil []]⟩ : TyI) := by kernel_rfl
theorem ty53 : lawProg.ty 53 = some (⟨.struct [(0, 3), (1, 41)], 2, 32, [.int .i64 0, .vs .nil []]⟩ : TyI) := by kernel_rfl
theorem ty82 : lawProg.ty 82 = some (⟨.struct [(0, 24)], 1, 24, [.vs .nil []]⟩ : TyI) := by kernel_rfl
theorem fn4 : lawProg.func 4 = some Tryz.f4 := by kernel_rfl
theorem fn8 : lawProg.func 8 = some Tryz.f8 := by kernel_rfl
theorem fn9 : lawProg.func 9 = some Tryz.f9 := by kernel_rfl
theorem fn10 : lawProg.func 10 = some Tryz.f10 := by kernel_rfl
theorem fn11 : lawProg.func 11 = some Tryz.f11 := by kernel_rfl
theorem fn12 : lawProg.func 12 = some Tryz.f12 := by kernel_rfl
theorem fn13 : lawProg.func 13 = some Tryz.f13 := by kernel_rfl
theorem fn15 : lawProg.func 15 = some Tryz.f15 := by kernel_rfl
theorem fn16 : lawProg.func 16 = some Tryz.f16 := by kernel_rfl
theorem fn17 : lawProg.func 17 = some Tryz.f17 := by kernel_rfl
theorem fn18 : lawProg.func 18 = some Tryz.f18 := by kernel_rfl
theorem fn23 : lawProg.func 23 = some Tryz.f23 := by kernel_rfl
theorem fn26 : lawProg.func 26 = some Tryz.f26 := by kernel_rfl
theorem fn27 : lawProg.func 27 = some Tryz.f27 := by kernel_rfl
theorem fn28 : lawProg.func 28 = some Tryz.f28 := by kernel_rfl
theorem fn29 : lawProg.func 29 = some Tryz.f29 := by kernel_rfl
theorem fn30 : lawProg.func 30 = some Tryz.f30 := by kernel_rfl
theorem fn31 : lawProg.func 31 = some Tryz.f31 := by kernel_rfl
theorem fn32 : lawProg.func 32 = some Tryz.f32 := by kernel_rfl
theorem fn33 : lawProg.func 33 = some Tryz.f33 := by kernel_rfl
theorem fn34 : lawProg.func 34 = some Tryz.f34 := by kernel_rfl
theorem fn35 : lawProg.func 35 = some Tryz.f35 := by kernel_rfl
theorem fn36 : lawProg.func 36 = some Tryz.f36 := by kernel_rfl
theorem fn38 : lawProg.func 38 = some Tryz.f38 := by kernel_rfl
theorem fn39 : lawProg.func 39 = some Tryz.f39 := by kernel_rfl
theorem fn40 : lawProg.func 40 = some Tryz.f40 := by kernel_rfl
theorem fn41 : lawProg.func 41 = some Tryz.f41 := by kernel_rfl
theorem fn42 : lawProg.func 42 = some Tryz.f42 := by kernel_rfl
theorem fn43 : lawProg.func 43 = some Tryz.f43 := by kernel_rfl
theorem fn44 : lawProg.func 44 = some Tryz.f44 := by kernel_rfl
theorem fn45 : lawProg.func 45 = some Tryz.f45 := by kernel_rfl
theorem fn59 : lawProg.func 59 = some Tryz.f59 := by kernel_rfl
theorem fn64 : lawProg.func 64 = some Tryz.f64 := by kernel_rfl
theorem fn65 : lawProg.func 65 = some Tryz.f65 := by kernel_rfl
theorem fn66 : lawProg.func 66 = some Tryz.f66 := by kernel_rfl
theorem fn67 : lawProg.func 67 = some Tryz.f67 := by kernel_rfl
theorem fn68 : lawProg.func 68 = some Tryz.f68 := by kernel_rfl
theorem fn69 : lawProg.func 69 = some Tryz.f69 := by kernel_rfl
theorem fn91 : lawProg.func 91 = some Tryz.f91 := by kernel_rfl
theorem bookNo4 : bookL.get 4 = none := by kernel_rfl
theorem memo4 (args : List AVal) : lawProg.memo 4 args = none := by show lookB bookL 4 args = none; unfold lookB; rw [bookNo4]
theorem memo8 : lawProg.memo 8 [] = some (.bool true, true) := by kernel_rfl
theorem bookNo9 : bookL.get 9 = none := by kernel_rfl
theorem memo9 (args : List AVal) : lawProg.memo 9 args = none := by show lookB bookL 9 args = none; unfold lookB; rw [bookNo9]
theorem bookNo10 : bookL.get 10 = none := by kernel_rfl
theorem memo10 (args : List AVal) : lawProg.memo 10 args = none := by show lookB bookL 10 args = none; unfold lookB; rw [bookNo10]
theorem bookNo11 : bookL.get 11 = none := by kernel_rfl
theorem memo11 (args : List AVal) : lawProg.memo 11 args = none := by show lookB bookL 11 args = none; unfold lookB; rw [bookNo11]
theorem bookNo12 : bookL.get 12 = none := by kernel_rfl
theorem memo12 (args : List AVal) : lawProg.memo 12 args = none := by show lookB bookL 12 args = none; unfold lookB; rw [bookNo12]
theorem bookNo13 : bookL.get 13 = none := by kernel_rfl
theorem memo13 (args : List AVal) : lawProg.memo 13 args = none := by show lookB bookL 13 args = none; unfold lookB; rw [bookNo13]
theorem bookNo15 : bookL.get 15 = none := by kernel_rfl
theorem memo15 (args : List AVal) : lawProg.memo 15 args = none := by show lookB bookL 15 args = none; unfold lookB; rw [bookNo15]
theorem bookNo16 : bookL.get 16 = none := by kernel_rfl
theorem memo16 (args : List AVal) : lawProg.memo 16 args = none := by show lookB bookL 16 args = none; unfold lookB; rw [bookNo16]
theorem bookNo17 : bookL.get 17 = none := by kernel_rfl
theorem memo17 (args : List AVal) : lawProg.memo 17 args = none := by show lookB bookL 17 args = none; unfold lookB; rw [bookNo17]
theorem bookNo18 : bookL.get 18 = none := by kernel_rfl
theorem memo18 (args : List AVal) : lawProg.memo 18 args = none := by show lookB bookL 18 args = none; unfold lookB; rw [bookNo18]
theorem bookNo23 : bookL.get 23 = none := by kernel_rfl
theorem memo23 (args : List AVal) : lawProg.memo 23 args = none := by show lookB bookL 23 args = none; unfold lookB; rw [bookNo23]
theorem bookNo26 : bookL.get 26 = none := by kernel_rfl
theorem memo26 (args : List AVal) : lawProg.memo 26 args = none := by show lookB bookL 26 args = none; unfold lookB; rw [bookNo26]
theorem bookNo27 : bookL.get 27 = none := by kernel_rfl
theorem memo27 (args : List AVal) : lawProg.memo 27 args = none := by show lookB bookL 27 args = none; unfold lookB; rw [bookNo27]
theorem bookNo28 : bookL.get 28 = none := by kernel_rfl
theorem memo28 (args : List AVal) : lawProg.memo 28 args = none := by show lookB bookL 28 args = none; unfold lookB; rw [bookNo28]
theorem bookNo29 : bookL.get 29 = none := by kernel_rfl
theorem memo29 (args : List AVal) : lawProg.memo 29 args = none := by show lookB bookL 29 args = none; unfold lookB; rw [bookNo29]
theorem bookNo30 : bookL.get 30 = none := by kernel_rfl
theorem memo30 (args : List AVal) : lawProg.memo 30 args = none := by show lookB bookL 30 args = none; unfold lookB; rw [bookNo30]
theorem bookNo31 : bookL.get 31 = none := by kernel_rfl
theorem memo31 (args : List AVal) : lawProg.memo 31 args = none := by show lookB bookL 31 args = none; unfold lookB; rw [bookNo31]
theorem bookNo32 : bookL.get 32 = none := by kernel_rfl
theorem memo32 (args : List AVal) : lawProg.memo 32 args = none := by show lookB bookL 32 args = none; unfold lookB; rw [bookNo32]
theorem bookNo33 : bookL.get 33 = none := by kernel_rfl
theorem memo33 (args : List AVal) : lawProg.memo 33 args = none := by show lookB bookL 33 args = none; unfold lookB; rw [bookNo33]
theorem bookNo34 : bookL.get 34 = none := by kernel_rfl
theorem memo34 (args : List AVal) : lawProg.memo 34 args = none := by show lookB bookL 34 args = none; unfold lookB; rw [bookNo34]
theorem bookNo35 : bookL.get 35 = none := by kernel_rfl
theorem memo35 (args : List AVal) : lawProg.memo 35 args = none := by show lookB bookL 35 args = none; unfold lookB; rw [bookNo35]
theorem bookNo36 : bookL.get 36 = none := by kernel_rfl
theorem memo36 (args : List AVal) : lawProg.memo 36 args = none := by show lookB bookL 36 args = none; unfold lookB; rw [bookNo36]
theorem bookNo38 : bookL.get 38 = none := by kernel_rfl
theorem memo38 (args : List AVal) : lawProg.memo 38 args = none := by show lookB bookL 38 args = none; unfold lookB; rw [bookNo38]
theorem bookNo39 : bookL.get 39 = none := by kernel_rfl
theorem memo39 (args : List AVal) : lawProg.memo 39 args = none := by show lookB bookL 39 args = none; unfold lookB; rw [bookNo39]
theorem bookNo40 : bookL.get 40 = none := by kernel_rfl
theorem memo40 (args : List AVal) : lawProg.memo 40 args = none := by show lookB bookL 40 args = none; unfold lookB; rw [bookNo40]
theorem bookNo41 : bookL.get 41 = none := by kernel_rfl
theorem memo41 (args : List AVal) : lawProg.memo 41 args = none := by show lookB bookL 41 args = none; unfold lookB; rw [bookNo41]
theorem bookNo42 : bookL.get 42 = none := by kernel_rfl
theorem memo42 (args : List AVal) : lawProg.memo 42 args = none := by show lookB bookL 42 args = none; unfold lookB; rw [bookNo42]
theorem bookNo43 : bookL.get 43 = none := by kernel_rfl
theorem memo43 (args : List AVal) : lawProg.memo 43 args = none := by show lookB bookL 43 args = none; unfold lookB; rw [bookNo43]
theorem bookNo44 : bookL.get 44 = none := by kernel_rfl
theorem memo44 (args : List AVal) : lawProg.memo 44 args = none := by show lookB bookL 44 args = none; unfold lookB; rw [bookNo44]
theorem bookNo45 : bookL.get 45 = none := by kernel_rfl
theorem memo45 (args : List AVal) : lawProg.memo 45 args = none := by show lookB bookL 45 args = none; unfold lookB; rw [bookNo45]
theorem bookNo59 : bookL.get 59 = none := by kernel_rfl
theorem memo59 (args : List AVal) : lawProg.memo 59 args = none := by show lookB bookL 59 args = none; unfold lookB; rw [bookNo59]
theorem bookNo64 : bookL.get 64 = none := by kernel_rfl
theorem memo64 (args : List AVal) : lawProg.memo 64 args = none := by show lookB bookL 64 args = none; unfold lookB; rw [bookNo64]
theorem bookNo65 : bookL.get 65 = none := by kernel_rfl
theorem memo65 (args : List AVal) : lawProg.memo 65 args = none := by show lookB bookL 65 args = none; unfold lookB; rw [bookNo65]
theorem bookNo66 : bookL.get 66 = none := by kernel_rfl
theorem memo66 (args : List AVal) : lawProg.memo 66 args = none := by show lookB bookL 66 args = none; unfold lookB; rw [bookNo66]
theorem bookNo67 : bookL.get 67 = none := by kernel_rfl
theorem memo67 (args : List AVal) : lawProg.memo 67 args = none := by show lookB bookL 67 args = none; unfold lookB; rw [bookNo67]
theorem bookNo68 : bookL.get 68 = none := by kernel_rfl
theorem memo68 (args : List AVal) : lawProg.memo 68 args = none := by show lookB bookL 68 args = none; unfold lookB; rw [bookNo68]
theorem bookNo69 : bookL.get 69 = none := by kernel_rfl
theorem memo69 (args : List AVal) : lawProg.memo 69 args = none := by show lookB bookL 69 args = none; unfold lookB; rw [bookNo69]
theorem bookNo91 : bookL.get 91 = none := by kernel_rfl
theorem memo91 (args : List AVal) : lawProg.memo 91 args = none := by show lookB bookL 91 args = none; unfold lookB; rw [bookNo91]
theorem vp4_8 : lawProg.isVal 4 8 = true := by kernel_rfl
theorem vp4_9 : lawProg.isVal 4 9 = true := by kernel_rfl
theorem vp4_10 : lawProg.isVal 4 10 = true := by kernel_rfl
theorem vp4_11 : lawProg.isVal 4 11 = true := by kernel_rfl
theorem vp4_12 : lawProg.isVal 4 12 = true := by kernel_rfl
theorem vp4_17 : lawProg.isVal 4 17 = true := by kernel_rfl
theorem vp9_15 : lawProg.isVal 9 15 = true := by kernel_rfl
theorem vp9_27 : lawProg.isVal 9 27 = true := by kernel_rfl
theorem vp9_28 : lawProg.isVal 9 28 = false := by kernel_rfl
theorem vp9_29 : lawProg.isVal 9 29 = false := by kernel_rfl
theorem vp9_30 : lawProg.isVal 9 30 = false := by kernel_rfl
theorem vp9_31 : lawProg.isVal 9 31 = true := by kernel_rfl
theorem vp9_32 : lawProg.isVal 9 32 = false := by kernel_rfl
theorem vp9_33 : lawProg.isVal 9 33 = false := by kernel_rfl
theorem vp9_34 : lawProg.isVal 9 34 = true := by kernel_rfl
theorem vp12_18 : lawProg.isVal 12 18 = true := by kernel_rfl
theorem vp12_35 : lawProg.isVal 12 35 = true := by kernel_rfl
theorem vp13_36 : lawProg.isVal 13 36 = true := by kernel_rfl
theorem vp15_45 : lawProg.isVal 15 45 = false := by kernel_rfl
theorem vp17_23 : lawProg.isVal 17 23 = true := by kernel_rfl
theorem vp23_31 : lawProg.isVal 23 31 = true := by kernel_rfl
theorem vp23_44 : lawProg.isVal 23 44 = true := by kernel_rfl
theorem vp23_59 : lawProg.isVal 23 59 = false := by kernel_rfl
theorem vp27_44 : lawProg.isVal 27 44 = true := by kernel_rfl
theorem vp28_31 : lawProg.isVal 28 31 = true := by kernel_rfl
theorem vp29_64 : lawProg.isVal 29 64 = false := by kernel_rfl
theorem vp29_66 : lawProg.isVal 29 66 = false := by kernel_rfl
theorem vp32_68 : lawProg.isVal 32 68 = false := by kernel_rfl
theorem vp34_69 : lawProg.isVal 34 69 = false := by kernel_rfl
theorem vp35_36 : lawProg.isVal 35 36 = true := by kernel_rfl
theorem vp38_39 : lawProg.isVal 38 39 = false := by kernel_rfl
theorem vp39_66 : lawProg.isVal 39 66 = false := by kernel_rfl
theorem vp41_32 : lawProg.isVal 41 32 = false := by kernel_rfl
theorem vp41_44 : lawProg.isVal 41 44 = true := by kernel_rfl
theorem vp42_30 : lawProg.isVal 42 30 = false := by kernel_rfl
theorem vp64_66 : lawProg.isVal 64 66 = false := by kernel_rfl
theorem ord4_15 : lawProg.ord 4 15 = some ⟨[(0, []), (2, []), (9, []), (1, [2]), (3, []), (4, []), (5, []), (6, []), (7, []), (8, []), (10, []), (11, []), (12, [])], [[], [0], [], [0, 1, 2], [0, 1, 2, 3], [0, 1, 2, 3, 4], [0, 1, 2, 3, 4, 5], [0, 1, 2, 3, 4, 5], [0, 1, 2, 3, 4, 5], [], [0, 1, 2, 3, 4, 5, 6, 9], [0, 1, 2, 3, 4, 5, 6, 7, 9, 10], [0, 1, 2, 3, 4, 5, 6, 7, 8, 9, 10, 11]]⟩ := by kernel_rfl
theorem ord4_16 : lawProg.ord 4 16 = some ⟨[(0, []), (1, []), (2, []), (3, []), (5, []), (6, []), (7, []), (8, []), (4, [8]), (9, []), (10, [])], [[], [], [], [1, 2], [0, 1, 2, 3], [], [], [6], [5, 6, 7], [0, 1, 2, 3, 4, 5, 6, 7, 8], [0, 1, 2, 3, 4, 5, 6, 7, 8, 9]]⟩ := by kernel_rfl
theorem ord4_21 : lawProg.ord 4 21 = some ⟨[(0, []), (1, []), (2, []), (3, []), (4, []), (5, []), (6, []), (7, [])], [[], [], [0, 1], [0, 1, 2], [0, 1, 2, 3], [], [5], [0, 1, 2, 3, 4, 5, 6]]⟩ := by kernel_rfl
theorem ord4_23 : lawProg.ord 4 23 = some ⟨[(0, []), (1, []), (2, []), (3, []), (4, []), (5, []), (6, []), (7, []), (8, []), (9, []), (10, []), (11, []), (12, []), (13, []), (14, []), (15, []), (16, []), (17, []), (18, []), (19, []), (20, []), (21, []), (22, []), (23, []), (24, []), (25, []), (26, []), (27, []), (28, []), (29, [])], [[], [0], [0, 1], [0, 1, 2], [0, 1, 2, 3], [0, 1, 2, 3, 4], [0, 1, 2, 3, 4, 5], [0, 1, 2, 3, 4, 5, 6], [0, 1, 2, 3, 4, 5, 6, 7], [0, 1, 2, 3, 4, 5, 6, 7, 8], [0, 1, 2, 3, 4, 5, 6, 7, 8, 9], [0, 1, 2, 3, 4, 5, 6, 7], [0, 1, 2, 3, 4, 5, 6, 7, 11], [0, 1, 2, 3, 4, 5, 6, 7, 8, 9, 10, 11, 12], [0, 1, 2, 3, 4, 5, 6, 7, 8, 9, 10, 11, 12, 13], [0, 1, 2, 3, 4, 5, 6, 7, 8, 9, 10, 11, 12, 13, 14], [0, 1, 2, 3, 4, 5, 6, 7, 8, 9, 10, 11, 12, 13, 14, 15], [0, 1, 2, 3, 4, 5, 6, 7, 8, 9, 10, 11, 12, 13, 14, 15, 16], [0, 1, 2, 3, 4, 5, 6, 7, 8, 9, 10, 11, 12, 13, 14, 15, 16, 17], [0, 1, 2, 3, 4, 5, 6, 7, 8, 9, 10, 11, 12, 13, 14, 15, 16, 17, 18], [0, 1, 2, 3, 4, 5, 6, 7, 8, 9, 10, 11, 12, 13, 14, 15, 16, 17, 18, 19], [0, 1, 2, 3, 4, 5, 6, 7, 8, 9, 10, 11, 12, 13, 14, 15, 16, 17, 18], [0, 1, 2, 3, 4, 5, 6, 7, 8, 9, 10, 11, 12, 13, 14, 15, 16, 17, 18], [0, 1, 2, 3, 4, 5, 6, 7, 8, 9, 10, 11, 12, 13, 14, 15, 16, 17, 18, 22], [0, 1, 2, 3, 4, 5, 6, 7, 8, 9, 10, 11, 12, 13, 14, 15, 16, 17, 18, 21, 22, 23], [0, 1, 2, 3, 4, 5, 6, 7, 8, 9, 10, 11, 12, 13, 14, 15, 16, 17, 18, 21, 22, 23, 24], [0, 1, 2, 3, 4, 5, 6, 7, 8, 9, 10, 11, 12, 13, 14, 15, 16, 17, 18, 21, 22, 23, 24, 25], [0, 1, 2, 3, 4, 5, 6, 7, 8, 9, 10, 11, 12, 13, 14, 15, 16, 17, 18, 19, 20, 21, 22, 23, 24, 25, 26], [0, 1, 2, 3, 4, 5, 6, 7, 8, 9, 10, 11, 12, 13, 14, 15, 16, 17, 18, 19, 20, 21, 22, 23, 24, 25, 26, 27], [0, 1, 2, 3, 4, 5, 6, 7, 8, 9, 10, 11, 12, 13, 14, 15, 16, 17, 18, 19, 20, 21, 22, 23, 24, 25, 26, 27, 28]]⟩ := by kernel_rfl
theorem ord9_10 : lawProg.ord 9 10 = some ⟨[(0, []), (1, []), (2, []), (3, []), (4, []), (5, [2]), (6, []), (7, [])], [[], [], [1], [], [3], [3, 4], [0, 1, 2, 3, 4, 5], [0, 1, 2, 3, 4, 5, 6]]⟩ := by kernel_rfl
theorem ord9_14 : lawProg.ord 9 14 = some ⟨[(0, []), (1, []), (2, []), (3, []), (4, []), (5, [3]), (6, []), (7, []), (8, [])], [[], [0], [0, 1], [0, 1, 2], [], [4], [0, 1, 2, 3, 4, 5], [0, 1, 2, 3, 4, 5, 6], [0, 1, 2, 3, 4, 5, 6, 7]]⟩ := by kernel_rfl
theorem ord10_9 : lawProg.ord 10 9 = some ⟨[(0, []), (1, []), (2, []), (3, []), (4, []), (5, []), (6, []), (7, []), (8, []), (9, []), (10, []), (11, []), (12, [1]), (13, []), (14, []), (15, []), (16, [])], [[], [0], [], [], [3], [], [3, 4, 5], [3, 4, 5, 6], [3, 4, 5, 6, 7], [], [3, 4, 5, 6, 7, 8, 9], [3, 4, 5, 6, 7, 8, 9, 10], [2, 3, 4, 5, 6, 7, 8, 9, 10, 11], [2, 3, 4, 5, 6, 7, 8, 9, 10, 11, 12], [0, 1, 2, 3, 4, 5, 6, 7, 8, 9, 10, 11, 12, 13], [0, 1, 2, 3, 4, 5, 6, 7, 8, 9, 10, 11, 12, 13, 14], [0, 1, 2, 3, 4, 5, 6, 7, 8, 9, 10, 11, 12, 13, 14, 15]]⟩ := by kernel_rfl
theorem ord12_6 : lawProg.ord 12 6 = some ⟨[(0, []), (1, []), (2, []), (3, []), (4, []), (5, []), (6, []), (7, []), (8, []), (9, []), (10, []), (11, []), (12, []), (13, []), (14, []), (16, []), (15, []), (17, []), (18, [])], [[], [0], [], [0, 1, 2], [0, 1, 2, 3], [0, 1, 2, 3, 4], [0, 1, 2, 3, 4, 5], [0, 1, 2, 3, 4, 5, 6], [0, 1, 2, 3, 4, 5, 6, 7], [0, 1, 2, 3, 4, 5, 6, 7], [0, 1, 2, 3, 4, 5, 6, 7, 9], [0, 1, 2, 3, 4, 5, 6, 7], [0, 1, 2, 3, 4, 5, 6, 7, 9, 10, 11], [0, 1, 2, 3, 4, 5, 6, 7, 9, 10, 11, 12], [0, 1, 2, 3, 4, 5, 6, 7, 9, 10, 11, 12, 13], [0, 1, 2, 3, 4, 5, 6, 7, 8, 9, 10, 11, 12, 13, 14], [0, 1, 2, 3, 4, 5, 6, 7], [0, 1, 2, 3, 4, 5, 6, 7, 8, 9, 10, 11, 12, 13, 14, 15, 16], [0, 1, 2, 3, 4, 5, 6, 7, 8, 9, 10, 11, 12, 13, 14, 15, 16, 17]]⟩ := by kernel_rfl
theorem ord16_6 : lawProg.ord 16 6 = some ⟨[(0, []), (1, []), (2, []), (3, []), (4, []), (5, []), (6, []), (7, []), (8, []), (9, []), (10, []), (11, []), (12, []), (13, []), (14, []), (15, []), (16, []), (17, []), (18, []), (19, []), (20, []), (21, []), (22, []), (23, []), (24, []), (25, []), (26, []), (27, []), (28, []), (29, [])], [[], [0], [], [0, 1, 2], [0, 1, 2, 3], [0, 1, 2, 3, 4], [], [6], [], [6, 7, 8], [6, 7, 8, 9], [6, 7, 8, 9, 10], [0, 1, 2, 3, 4, 5, 6, 7, 8, 9, 10, 11], [0, 1, 2, 3, 4, 5, 6, 7, 8, 9, 10, 11, 12], [0, 1, 2, 3, 4, 5, 6, 7, 8, 9, 10, 11, 12, 13], [0, 1, 2, 3, 4, 5, 6, 7, 8, 9, 10, 11, 12, 13, 14], [0, 1, 2, 3, 4, 5, 6, 7, 8, 9, 10, 11, 12, 13], [0, 1, 2, 3, 4, 5, 6, 7, 8, 9, 10, 11, 12, 13, 14, 15, 16], [0, 1, 2, 3, 4, 5, 6, 7, 8, 9, 10, 11, 12, 13, 14, 15, 16, 17], [0, 1, 2, 3, 4, 5, 6, 7, 8, 9, 10, 11, 12, 13, 14, 15, 16, 17, 18], [0, 1, 2, 3, 4, 5, 6, 7, 8, 9, 10, 11, 12, 13, 14, 15, 16, 17, 18, 19], [0, 1, 2, 3, 4, 5, 6, 7, 8, 9, 10, 11, 12, 13], [0, 1, 2, 3, 4, 5, 6, 7, 8, 9, 10, 11, 12, 13, 21], [0, 1, 2, 3, 4, 5, 6, 7, 8, 9, 10, 11, 12, 13], [0, 1, 2, 3, 4, 5, 6, 7, 8, 9, 10, 11, 12, 13, 21, 22, 23], [0, 1, 2, 3, 4, 5, 6, 7, 8, 9, 10, 11, 12, 13, 21, 22, 23, 24], [0, 1, 2, 3, 4, 5, 6, 7, 8, 9, 10, 11, 12, 13, 21, 22, 23, 24, 25], [0, 1, 2, 3, 4, 5, 6, 7, 8, 9, 10, 11, 12, 13, 21, 22, 23, 24, 25, 26], [0, 1, 2, 3, 4, 5, 6, 7, 8, 9, 10, 11, 12, 13, 14, 15, 16, 17, 18, 19, 20, 21, 22, 23, 24, 25, 26, 27], [0, 1, 2, 3, 4, 5, 6, 7, 8, 9, 10, 11, 12, 13, 14, 15, 16, 17, 18, 19, 20, 21, 22, 23, 24, 25, 26, 27, 28]]⟩ := by kernel_rfl
theorem ord16_11 : lawProg.ord 16 11 = some ⟨[(0, []), (1, []), (2, []), (3, []), (4, []), (5, []), (6, []), (7, []), (8, []), (9, []), (10, []), (11, []), (12, []), (13, []), (14, []), (15, []), (16, []), (17, []), (18, []), (19, []), (20, [])], [[], [0], [], [0, 1, 2], [0, 1, 2, 3], [0, 1, 2, 3, 4], [], [0, 1, 2, 3, 4, 5, 6], [0, 1, 2, 3, 4, 5, 6, 7], [0, 1, 2, 3, 4, 5, 6, 7, 8], [], [10], [], [10, 11, 12], [10, 11, 12, 13], [10, 11, 12, 13, 14], [], [10, 11, 12, 13, 14, 15, 16], [10, 11, 12, 13, 14, 15, 16, 17], [10, 11, 12, 13, 14, 15, 16, 17, 18], [0, 1, 2, 3, 4, 5, 6, 7, 8, 9, 10, 11, 12, 13, 14, 15, 16, 17, 18, 19]]⟩ := by kernel_rfl
theorem ord17_10 : lawProg.ord 17 10 = some ⟨[(0, []), (1, []), (3, []), (4, []), (5, []), (6, []), (7, []), (8, []), (9, []), (2, [5, 8]), (10, []), (11, []), (12, [])], [[], [], [0, 1], [], [], [4], [], [4, 5, 6], [4, 5, 6, 7], [4, 5, 6, 7, 8], [0, 1, 2, 3, 4, 5, 6, 7, 8, 9], [0, 1, 2, 3, 4, 5, 6, 7, 8, 9, 10], [0, 1, 2, 3, 4, 5, 6, 7, 8, 9, 10, 11]]⟩ := by kernel_rfl
theorem ord23_9 : lawProg.ord 23 9 = some ⟨[(0, []), (1, []), (2, []), (3, []), (4, []), (5, [0, 1, 2]), (6, []), (7, []), (8, []), (9, [])], [[], [], [], [2], [], [4], [1, 2, 3, 4, 5], [1, 2, 3, 4, 5, 6], [0, 1, 2, 3, 4, 5, 6, 7], [0, 1, 2, 3, 4, 5, 6, 7, 8]]⟩ := by kernel_rfl
theorem ord28_9 : lawProg.ord 28 9 = some ⟨[(0, []), (1, []), (2, []), (3, [1]), (4, []), (5, []), (6, []), (7, [])], [[], [0], [], [2], [2, 3], [0, 1, 2, 3, 4], [0, 1, 2, 3, 4, 5], [0, 1, 2, 3, 4, 5, 6]]⟩ := by kernel_rfl
theorem ord28_11 : lawProg.ord 28 11 = some ⟨[(0, []), (1, []), (2, []), (3, []), (4, []), (5, []), (6, []), (7, []), (8, []), (9, []), (10, []), (11, []), (12, [])], [[], [], [1], [1, 2], [1, 2, 3], [1, 2, 3, 4], [], [6], [1, 2, 3, 4, 5, 6, 7], [0, 1, 2, 3, 4, 5, 6, 7, 8], [0, 1, 2, 3, 4, 5, 6, 7, 8, 9], [0, 1, 2, 3, 4, 5, 6, 7, 8, 9, 10], [0, 1, 2, 3, 4, 5, 6, 7, 8, 9, 10, 11]]⟩ := by kernel_rfl
theorem ord29_5 : lawProg.ord 29 5 = some ⟨[(0, []), (1, []), (2, []), (3, []), (4, []), (5, []), (6, []), (7, []), (8, []), (9, []), (10, []), (11, []), (12, []), (13, []), (14, []), (15, []), (16, []), (17, [])], [[], [], [1], [1, 2], [1, 2, 3], [1, 2, 3, 4], [], [6], [], [8], [8, 9], [6, 7, 8, 9, 10], [6, 7, 8, 9, 10, 11], [1, 2, 3, 4, 5, 6, 7, 8, 9, 10, 11, 12], [0, 1, 2, 3, 4, 5, 6, 7, 8, 9, 10, 11, 12, 13], [0, 1, 2, 3, 4, 5, 6, 7, 8, 9, 10, 11, 12, 13, 14], [0, 1, 2, 3, 4, 5, 6, 7, 8, 9, 10, 11, 12, 13, 14, 15], [0, 1, 2, 3, 4, 5, 6, 7, 8, 9, 10, 11, 12, 13, 14, 15, 16]]⟩ := by kernel_rfl
theorem ord33_5 : lawProg.ord 33 5 = some ⟨[(0, []), (1, []), (2, []), (3, []), (4, []), (5, []), (6, []), (7, [])], [[], [], [0, 1], [], [], [3, 4], [0, 1, 2, 3, 4, 5], [0, 1, 2, 3, 4, 5, 6]]⟩ := by kernel_rfl
theorem ord91_3 : lawProg.ord 91 3 = some ⟨[(0, []), (1, []), (2, []), (3, []), (4, []), (5, []), (6, [])], [[], [], [], [1, 2], [1, 2, 3], [0, 1, 2, 3, 4], [0, 1, 2, 3, 4, 5]]⟩ := by kernel_rfl
set_option linter.defProp false
def sx := And.intro @q_seq (And.intro @q_cond (And.intro @q_block (And.intro @q_region (And.intro @q_drawn (And.intro @q_skip (And.intro @q_exit (And.intro @q_ret (And.intro @lenB_vs (And.intro @lenB_sl (And.intro @lenB_str (And.intro @cells_bool (And.intro @one_bool (And.intro @cells_int (And.intro @one_int (And.intro @cells_str (And.intro @one_str (And.intro @cells_ptr (And.intro @one_ptr (And.intro @cells_nilptr (And.intro @one_nilptr (And.intro @cells_slice (And.intro @one_slice (And.intro @cells_vs (And.intro @one_vs (And.intro @cells_vptr (And.intro @one_vptr (And.intro @cells_func (And.intro @one_func (And.intro @cells_yield (And.intro @one_yield (And.intro @cells_nilfn (And.intro @one_nilfn (And.intro @cells_nilmap (And.intro @one_nilmap (And.intro @cells_map (And.intro @one_map (And.intro @cells_agg (And.intro @Tr.get_set (And.intro @AMem.get_put (And.intro @AMem.get_push (And.intro @AMem.next_put (And.intro @AMem.next_push (And.intro @AMem.get_empty (And.intro @next_empty (And.intro @Option.map_some.{0, 0} (And.intro @Option.map_none.{0, 0} (And.intro @Option.bind_some.{0, 0} (And.intro @Nat.zero_add (And.intro @Nat.add_zero (And.intro @Nat.mul_one (And.intro @Nat.one_mul (And.intro @Nat.zero_mul (And.intro @and_self (And.intro @and_true (And.intro @true_and (And.intro @false_and (And.intro @and_false (And.intro @Bool.and_true (And.intro @Bool.true_and (And.intro @Bool.and_false (And.intro @Bool.false_and (And.intro @if_true.{1} (And.intro @if_false.{1} (And.intro @Bool.false_eq_true (And.intro @Bool.not_true (And.intro @Bool.not_false (And.intro @BEq.rfl.{0} (And.intro @beq_true_true (And.intro @beq_true_false (And.intro @beq_false_true (And.intro @beq_false_false (And.intro @List.length_cons.{0} (And.intro @List.length_nil.{0} (And.intro @List.all_cons.{0} (And.intro @List.all_nil.{0} (And.intro @List.getElem?_cons_zero.{0} (And.intro @List.getElem?_cons_succ.{0} (And.intro @List.getElem?_nil.{0} (And.intro @List.getElem?_toArray.{0} (And.intro @List.take_succ_cons.{0} (And.intro @List.take_zero.{0} (And.intro @List.drop_succ_cons.{0} (And.intro @List.drop_zero.{0} (And.intro @List.set_cons_zero.{0} (And.intro @List.set_cons_succ.{0} (And.intro @List.append_nil.{0} (And.intro @List.nil_append.{0} (And.intro @List.cons_append.{0} (And.intro @decide_true (And.intro @decide_false (And.intro @decide_eq_true_eq (And.intro @Option.isNone_none.{0} (And.intro @Option.isNone_some.{0} (And.intro @Option.isSome_none.{0} (And.intro @Option.isSome_some.{0} (And.intro @Bool.or_true (And.intro @Bool.true_or (And.intro @Bool.or_false (And.intro @Bool.false_or (And.intro @ne_eq.{1} (And.intro @not_false_eq_true (And.intro @not_true_eq_false (And.intro @eq_self.{1} (@beq_refl))))))))))))))))))))))))))))))))))))))))))))))))))))))))))))))))))))))))))))))))))))))))))))))))))))))))
def fx4 := And.intro @vp4_8 (And.intro @vp4_9 (And.intro @vp4_10 (And.intro @vp4_11 (And.intro @vp4_12 (And.intro @vp4_17 (And.intro @ty3 (And.intro @ty4 (And.intro @ty5 (And.intro @ty9 (And.intro @ty22 (And.intro @ty24 (And.intro @ty25 (And.intro @ty27 (And.intro @ty30 (And.intro @ty41 (And.intro @ty43 (And.intro @ty44 (And.intro @ty47 (And.intro @ty53 (And.intro @ord4_15 (And.intro @ord4_16 (And.intro @ord4_21 (@ord4_23)))))))))))))))))))))))
def fx9 := And.intro @vp9_15 (And.intro @vp9_27 (And.intro @vp9_28 (And.intro @vp9_29 (And.intro @vp9_30 (And.intro @vp9_31 (And.intro @vp9_32 (And.intro @vp9_33 (And.intro @vp9_34 (And.intro @ty3 (And.intro @ty4 (And.intro @ty5 (And.intro @ty22 (And.intro @ty24 (And.intro @ty25 (And.intro @ty27 (And.intro @ty30 (And.intro @ty41 (And.intro @ty53 (And.intro @ty82 (And.intro @ord9_10 (@ord9_14)))))))))))))))))))))
def fx10 := And.intro @ty3 (And.intro @ty5 (And.intro @ty22 (And.intro @ty24 (And.intro @ty25 (And.intro @ty41 (And.intro @ty53 (@ord10_9)))))))
def fx11 := And.intro @ty3 (And.intro @ty5 (And.intro @ty25 (@ty27)))
def fx12 := And.intro @vp12_18 (And.intro @vp12_35 (And.intro @ty3 (And.intro @ty4 (And.intro @ty5 (And.intro @ty22 (And.intro @ty24 (And.intro @ty25 (And.intro @ty41 (And.intro @ty53 (@ord12_6))))))))))
def fx13 := And.intro @vp13_36 (And.intro @ty3 (And.intro @ty5 (And.intro @ty25 (@ty27))))
def fx15 := And.intro @vp15_45 (And.intro @ty3 (And.intro @ty4 (And.intro @ty5 (And.intro @ty22 (And.intro @ty24 (And.intro @ty25 (And.intro @ty41 (@ty53))))))))
def fx16 := And.intro @ty3 (And.intro @ty5 (And.intro @ty9 (And.intro @ty22 (And.intro @ty24 (And.intro @ty25 (And.intro @ty41 (And.intro @ty53 (And.intro @ord16_6 (@ord16_11)))))))))
def fx17 := And.intro @vp17_23 (And.intro @ty3 (And.intro @ty5 (And.intro @ty25 (And.intro @ty27 (And.intro @ty30 (And.intro @ty41 (And.intro @ty43 (And.intro @ty44 (@ord17_10)))))))))
def fx18 := And.intro @ty3 (And.intro @ty5 (And.intro @ty22 (And.intro @ty24 (And.intro @ty25 (And.intro @ty41 (@ty53))))))
def fx23 := And.intro @vp23_31 (And.intro @vp23_44 (And.intro @vp23_59 (And.intro @ty3 (And.intro @ty4 (And.intro @ty5 (And.intro @ty25 (And.intro @ty27 (And.intro @ty44 (@ord23_9)))))))))
def fx26 := And.intro @ty3 (And.intro @ty5 (@ty25))
def fx27 := And.intro @vp27_44 (And.intro @ty3 (And.intro @ty5 (And.intro @ty25 (@ty27))))
def fx28 := And.intro @vp28_31 (And.intro @ty3 (And.intro @ty5 (And.intro @ty22 (And.intro @ty24 (And.intro @ty25 (And.intro @ty41 (And.intro @ty53 (And.intro @ty82 (And.intro @ord28_9 (@ord28_11))))))))))
def fx29 := And.intro @vp29_64 (And.intro @vp29_66 (And.intro @ty3 (And.intro @ty5 (And.intro @ty22 (And.intro @ty24 (And.intro @ty25 (And.intro @ty27 (And.intro @ty41 (And.intro @ty53 (And.intro @ty82 (@ord29_5)))))))))))
def fx30 := And.intro @ty3 (And.intro @ty5 (@ty25))
def fx31 := And.intro @ty5 (@ty25)
def fx32 := And.intro @vp32_68 (@ty3)
def fx33 := And.intro @ty3 (And.intro @ty5 (And.intro @ty22 (And.intro @ty25 (And.intro @ty41 (And.intro @ty53 (@ord33_5))))))
def fx34 := And.intro @vp34_69 (And.intro @ty3 (And.intro @ty5 (And.intro @ty25 (@ty41))))
def fx35 := And.intro @vp35_36 (And.intro @ty3 (And.intro @ty4 (And.intro @ty5 (And.intro @ty25 (And.intro @ty41 (@ty53))))))
def fx36 := @ty3
def fx38 := And.intro @vp38_39 (And.intro @ty3 (And.intro @ty4 (And.intro @ty5 (And.intro @ty22 (And.intro @ty24 (And.intro @ty25 (And.intro @ty41 (@ty53))))))))
def fx39 := And.intro @vp39_66 (@ty3)
def fx40 := And.intro @ty3 (And.intro @ty5 (And.intro @ty25 (And.intro @ty41 (@ty53))))
def fx41 := And.intro @vp41_32 (And.intro @vp41_44 (And.intro @ty3 (And.intro @ty4 (And.intro @ty5 (And.intro @ty25 (And.intro @ty41 (@ty53)))))))
def fx42 := And.intro @vp42_30 (@ty4)
def fx43 := And.intro @ty3 (And.intro @ty5 (@ty25))
def fx44 := @ty3
def fx45 := And.intro @ty3 (And.intro @ty4 (And.intro @ty5 (And.intro @ty22 (And.intro @ty25 (And.intro @ty41 (@ty53))))))
def fx59 := And.intro @ty3 (And.intro @ty5 (@ty25))
def fx64 := And.intro @vp64_66 (And.intro @ty3 (And.intro @ty4 (And.intro @ty5 (And.intro @ty22 (And.intro @ty25 (And.intro @ty41 (@ty53)))))))
def fx65 := And.intro @ty3 (And.intro @ty5 (And.intro @ty25 (And.intro @ty27 (And.intro @ty41 (@ty53)))))
def fx66 := And.intro @ty3 (And.intro @ty5 (And.intro @ty22 (And.intro @ty25 (And.intro @ty41 (@ty53)))))
def fx67 := And.intro @ty3 (And.intro @ty5 (And.intro @ty25 (And.intro @ty27 (And.intro @ty41 (@ty53)))))
def fx68 := And.intro @ty3 (And.intro @ty5 (And.intro @ty25 (@ty41)))
def fx69 := And.intro @ty3 (And.intro @ty5 (@ty25))
def fx91 := And.intro @ty3 (And.intro @ty4 (And.intro @ty5 (And.intro @ty25 (@ord91_3))))
end Go.Proofs.YtkamjhhodnmoiaaGreatDoor
