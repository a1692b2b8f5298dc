/- What the proofs of this seat ask of its program. -/
import Derived.Test.YtjckhhkhgjbpaaaGreatDoorLaw
import Derived.Test.YtjckhhkhgjbpaaaGreatDoorPaleSym
import Derived.KernelRfl
set_option maxRecDepth 100000
namespace Go.Proofs.YtjckhhkhgjbpaaaGreatDoor
open Go Go.Proofs.YtjckhhkhgjbpaaaGreatDoor.Pale
theorem ty3 : lawProg.ty 3 = some (⟨.int .i64, 1, 8, [.int .i64 0]⟩ : TyI) := by kernel_rfl
theorem ty4 : lawProg.ty 4 = some (⟨.bool, 1, 1, [.bool false]⟩ : TyI) := by kernel_rfl
theorem ty5 : lawProg.ty 5 = some (⟨.int .u8, 1, 1, [.int .u8 0]⟩ : TyI) := by kernel_rfl
theorem ty9 : lawProg.ty 9 = some (⟨.string, 1, 16, [.str []]⟩ : TyI) := by kernel_rfl
theorem ty39 : lawProg.ty 39 = some (⟨.slice 5, 1, 24, [.vs .nil []]⟩ : TyI) := by kernel_rfl
theorem ty40 : lawProg.ty 40 = some (⟨.int .i64, 1, 8, [.int .i64 0]⟩ : TyI) := by kernel_rfl
theorem ty50 : lawProg.ty 50 = some (⟨.slice 120, 1, 24, [.vs .nil []]⟩ : TyI) := by kernel_rfl
theorem ty52 : lawProg.ty 52 = some (⟨.struct [(0, 50)], 1, 24, [.vs .nil []]⟩ : TyI) := by kernel_rfl
theorem ty54 : lawProg.ty 54 = some (⟨.struct [(0, 3), (1, 3), (2, 3), (3, 39)], 4, 48, [.int .i64 0, .int .i64 0, .int .i64 0, .vs .nil []]⟩ : TyI) := by kernel_rfl
theorem ty118 : lawProg.ty 118 = some (⟨.slice 39, 1, 24, [.vs .nil []]⟩ : TyI) := by kernel_rfl
theorem ty120 : lawProg.ty 120 = some (⟨.struct [(0, 3), (1, 118)], 2, 32, [.int .i64 0, .vs .nil []]⟩ : TyI) := by kernel_rfl
theorem ty125 : lawProg.ty 125 = some (⟨.struct [(0, 52)], 1, 24, [.vs .nil []]⟩ : TyI) := by kernel_rfl
theorem fn5 : lawProg.func 5 = some Tryz.f5 := by kernel_rfl
theorem fn10 : lawProg.func 10 = some Tryz.f10 := by kernel_rfl
theorem fn18 : lawProg.func 18 = some Tryz.f18 := by kernel_rfl
theorem fn19 : lawProg.func 19 = some Tryz.f19 := by kernel_rfl
theorem fn20 : lawProg.func 20 = some Tryz.f20 := by kernel_rfl
theorem fn21 : lawProg.func 21 = some Tryz.f21 := by kernel_rfl
theorem fn22 : lawProg.func 22 = some Tryz.f22 := by kernel_rfl
theorem fn23 : lawProg.func 23 = some Tryz.f23 := by kernel_rfl
theorem fn24 : lawProg.func 24 = some Tryz.f24 := by kernel_rfl
theorem fn25 : lawProg.func 25 = some Tryz.f25 := by kernel_rfl
theorem fn26 : lawProg.func 26 = some Tryz.f26 := by kernel_rfl
theorem fn68 : lawProg.func 68 = some Tryz.f68 := by kernel_rfl
theorem fn69 : lawProg.func 69 = some Tryz.f69 := by kernel_rfl
theorem fn70 : lawProg.func 70 = some Tryz.f70 := by kernel_rfl
theorem fn71 : lawProg.func 71 = some Tryz.f71 := by kernel_rfl
theorem fn72 : lawProg.func 72 = some Tryz.f72 := by kernel_rfl
theorem fn73 : lawProg.func 73 = some Tryz.f73 := by kernel_rfl
theorem fn74 : lawProg.func 74 = some Tryz.f74 := by kernel_rfl
theorem fn75 : lawProg.func 75 = some Tryz.f75 := by kernel_rfl
theorem fn76 : lawProg.func 76 = some Tryz.f76 := by kernel_rfl
theorem fn77 : lawProg.func 77 = some Tryz.f77 := by kernel_rfl
theorem fn78 : lawProg.func 78 = some Tryz.f78 := by kernel_rfl
theorem fn79 : lawProg.func 79 = some Tryz.f79 := by kernel_rfl
theorem fn80 : lawProg.func 80 = some Tryz.f80 := by kernel_rfl
theorem fn81 : lawProg.func 81 = some Tryz.f81 := by kernel_rfl
theorem fn82 : lawProg.func 82 = some Tryz.f82 := by kernel_rfl
theorem fn83 : lawProg.func 83 = some Tryz.f83 := by kernel_rfl
theorem fn84 : lawProg.func 84 = some Tryz.f84 := by kernel_rfl
theorem fn85 : lawProg.func 85 = some Tryz.f85 := by kernel_rfl
theorem fn86 : lawProg.func 86 = some Tryz.f86 := by kernel_rfl
theorem fn87 : lawProg.func 87 = some Tryz.f87 := by kernel_rfl
theorem fn127 : lawProg.func 127 = some Tryz.f127 := by kernel_rfl
theorem fn128 : lawProg.func 128 = some Tryz.f128 := by kernel_rfl
theorem fn129 : lawProg.func 129 = some Tryz.f129 := by kernel_rfl
theorem fn130 : lawProg.func 130 = some Tryz.f130 := by kernel_rfl
theorem fn131 : lawProg.func 131 = some Tryz.f131 := by kernel_rfl
theorem fn132 : lawProg.func 132 = some Tryz.f132 := by kernel_rfl
theorem bookNo5 : bookL.get 5 = none := by kernel_rfl
theorem memo5 (args : List AVal) : lawProg.memo 5 args = none := by show lookB bookL 5 args = none; unfold lookB; rw [bookNo5]
theorem memo10 : lawProg.memo 10 [] = some (.bool true, true) := by kernel_rfl
theorem bookNo18 : bookL.get 18 = none := by kernel_rfl
theorem memo18 (args : List AVal) : lawProg.memo 18 args = none := by show lookB bookL 18 args = none; unfold lookB; rw [bookNo18]
theorem bookNo19 : bookL.get 19 = none := by kernel_rfl
theorem memo19 (args : List AVal) : lawProg.memo 19 args = none := by show lookB bookL 19 args = none; unfold lookB; rw [bookNo19]
theorem bookNo20 : bookL.get 20 = none := by kernel_rfl
theorem memo20 (args : List AVal) : lawProg.memo 20 args = none := by show lookB bookL 20 args = none; unfold lookB; rw [bookNo20]
theorem bookNo21 : bookL.get 21 = none := by kernel_rfl
theorem memo21 (args : List AVal) : lawProg.memo 21 args = none := by show lookB bookL 21 args = none; unfold lookB; rw [bookNo21]
theorem bookNo22 : bookL.get 22 = none := by kernel_rfl
theorem memo22 (args : List AVal) : lawProg.memo 22 args = none := by show lookB bookL 22 args = none; unfold lookB; rw [bookNo22]
theorem bookNo23 : bookL.get 23 = none := by kernel_rfl
theorem memo23 (args : List AVal) : lawProg.memo 23 args = none := by show lookB bookL 23 args = none; unfold lookB; rw [bookNo23]
theorem bookNo24 : bookL.get 24 = none := by kernel_rfl
theorem memo24 (args : List AVal) : lawProg.memo 24 args = none := by show lookB bookL 24 args = none; unfold lookB; rw [bookNo24]
theorem bookNo25 : bookL.get 25 = none := by kernel_rfl
theorem memo25 (args : List AVal) : lawProg.memo 25 args = none := by show lookB bookL 25 args = none; unfold lookB; rw [bookNo25]
theorem bookNo26 : bookL.get 26 = none := by kernel_rfl
theorem memo26 (args : List AVal) : lawProg.memo 26 args = none := by show lookB bookL 26 args = none; unfold lookB; rw [bookNo26]
theorem bookNo68 : bookL.get 68 = none := by kernel_rfl
theorem memo68 (args : List AVal) : lawProg.memo 68 args = none := by show lookB bookL 68 args = none; unfold lookB; rw [bookNo68]
theorem bookNo69 : bookL.get 69 = none := by kernel_rfl
theorem memo69 (args : List AVal) : lawProg.memo 69 args = none := by show lookB bookL 69 args = none; unfold lookB; rw [bookNo69]
theorem bookNo70 : bookL.get 70 = none := by kernel_rfl
theorem memo70 (args : List AVal) : lawProg.memo 70 args = none := by show lookB bookL 70 args = none; unfold lookB; rw [bookNo70]
theorem bookNo71 : bookL.get 71 = none := by kernel_rfl
theorem memo71 (args : List AVal) : lawProg.memo 71 args = none := by show lookB bookL 71 args = none; unfold lookB; rw [bookNo71]
theorem bookNo72 : bookL.get 72 = none := by kernel_rfl
theorem memo72 (args : List AVal) : lawProg.memo 72 args = none := by show lookB bookL 72 args = none; unfold lookB; rw [bookNo72]
theorem bookNo73 : bookL.get 73 = none := by kernel_rfl
theorem memo73 (args : List AVal) : lawProg.memo 73 args = none := by show lookB bookL 73 args = none; unfold lookB; rw [bookNo73]
theorem bookNo74 : bookL.get 74 = none := by kernel_rfl
theorem memo74 (args : List AVal) : lawProg.memo 74 args = none := by show lookB bookL 74 args = none; unfold lookB; rw [bookNo74]
theorem bookNo75 : bookL.get 75 = none := by kernel_rfl
theorem memo75 (args : List AVal) : lawProg.memo 75 args = none := by show lookB bookL 75 args = none; unfold lookB; rw [bookNo75]
theorem bookNo76 : bookL.get 76 = none := by kernel_rfl
theorem memo76 (args : List AVal) : lawProg.memo 76 args = none := by show lookB bookL 76 args = none; unfold lookB; rw [bookNo76]
theorem bookNo77 : bookL.get 77 = none := by kernel_rfl
theorem memo77 (args : List AVal) : lawProg.memo 77 args = none := by show lookB bookL 77 args = none; unfold lookB; rw [bookNo77]
theorem bookNo78 : bookL.get 78 = none := by kernel_rfl
theorem memo78 (args : List AVal) : lawProg.memo 78 args = none := by show lookB bookL 78 args = none; unfold lookB; rw [bookNo78]
theorem bookNo79 : bookL.get 79 = none := by kernel_rfl
theorem memo79 (args : List AVal) : lawProg.memo 79 args = none := by show lookB bookL 79 args = none; unfold lookB; rw [bookNo79]
theorem bookNo80 : bookL.get 80 = none := by kernel_rfl
theorem memo80 (args : List AVal) : lawProg.memo 80 args = none := by show lookB bookL 80 args = none; unfold lookB; rw [bookNo80]
theorem bookNo81 : bookL.get 81 = none := by kernel_rfl
theorem memo81 (args : List AVal) : lawProg.memo 81 args = none := by show lookB bookL 81 args = none; unfold lookB; rw [bookNo81]
theorem bookNo82 : bookL.get 82 = none := by kernel_rfl
theorem memo82 (args : List AVal) : lawProg.memo 82 args = none := by show lookB bookL 82 args = none; unfold lookB; rw [bookNo82]
theorem bookNo83 : bookL.get 83 = none := by kernel_rfl
theorem memo83 (args : List AVal) : lawProg.memo 83 args = none := by show lookB bookL 83 args = none; unfold lookB; rw [bookNo83]
theorem bookNo84 : bookL.get 84 = none := by kernel_rfl
theorem memo84 (args : List AVal) : lawProg.memo 84 args = none := by show lookB bookL 84 args = none; unfold lookB; rw [bookNo84]
theorem bookNo85 : bookL.get 85 = none := by kernel_rfl
theorem memo85 (args : List AVal) : lawProg.memo 85 args = none := by show lookB bookL 85 args = none; unfold lookB; rw [bookNo85]
theorem bookNo86 : bookL.get 86 = none := by kernel_rfl
theorem memo86 (args : List AVal) : lawProg.memo 86 args = none := by show lookB bookL 86 args = none; unfold lookB; rw [bookNo86]
theorem bookNo87 : bookL.get 87 = none := by kernel_rfl
theorem memo87 (args : List AVal) : lawProg.memo 87 args = none := by show lookB bookL 87 args = none; unfold lookB; rw [bookNo87]
theorem bookNo127 : bookL.get 127 = none := by kernel_rfl
theorem memo127 (args : List AVal) : lawProg.memo 127 args = none := by show lookB bookL 127 args = none; unfold lookB; rw [bookNo127]
theorem bookNo128 : bookL.get 128 = none := by kernel_rfl
theorem memo128 (args : List AVal) : lawProg.memo 128 args = none := by show lookB bookL 128 args = none; unfold lookB; rw [bookNo128]
theorem bookNo129 : bookL.get 129 = none := by kernel_rfl
theorem memo129 (args : List AVal) : lawProg.memo 129 args = none := by show lookB bookL 129 args = none; unfold lookB; rw [bookNo129]
theorem bookNo130 : bookL.get 130 = none := by kernel_rfl
theorem memo130 (args : List AVal) : lawProg.memo 130 args = none := by show lookB bookL 130 args = none; unfold lookB; rw [bookNo130]
theorem bookNo131 : bookL.get 131 = none := by kernel_rfl
theorem memo131 (args : List AVal) : lawProg.memo 131 args = none := by show lookB bookL 131 args = none; unfold lookB; rw [bookNo131]
theorem bookNo132 : bookL.get 132 = none := by kernel_rfl
theorem memo132 (args : List AVal) : lawProg.memo 132 args = none := by show lookB bookL 132 args = none; unfold lookB; rw [bookNo132]
theorem vp5_10 : lawProg.isVal 5 10 = true := by kernel_rfl
theorem vp5_18 : lawProg.isVal 5 18 = true := by kernel_rfl
theorem vp5_19 : lawProg.isVal 5 19 = true := by kernel_rfl
theorem vp5_20 : lawProg.isVal 5 20 = true := by kernel_rfl
theorem vp5_21 : lawProg.isVal 5 21 = true := by kernel_rfl
theorem vp5_22 : lawProg.isVal 5 22 = true := by kernel_rfl
theorem vp5_23 : lawProg.isVal 5 23 = true := by kernel_rfl
theorem vp5_24 : lawProg.isVal 5 24 = true := by kernel_rfl
theorem vp5_25 : lawProg.isVal 5 25 = true := by kernel_rfl
theorem vp5_26 : lawProg.isVal 5 26 = true := by kernel_rfl
theorem vp19_25 : lawProg.isVal 19 25 = true := by kernel_rfl
theorem vp19_68 : lawProg.isVal 19 68 = true := by kernel_rfl
theorem vp19_69 : lawProg.isVal 19 69 = false := by kernel_rfl
theorem vp19_70 : lawProg.isVal 19 70 = false := by kernel_rfl
theorem vp19_71 : lawProg.isVal 19 71 = false := by kernel_rfl
theorem vp19_72 : lawProg.isVal 19 72 = true := by kernel_rfl
theorem vp19_73 : lawProg.isVal 19 73 = false := by kernel_rfl
theorem vp19_74 : lawProg.isVal 19 74 = false := by kernel_rfl
theorem vp19_75 : lawProg.isVal 19 75 = true := by kernel_rfl
theorem vp22_76 : lawProg.isVal 22 76 = true := by kernel_rfl
theorem vp22_77 : lawProg.isVal 22 77 = true := by kernel_rfl
theorem vp23_78 : lawProg.isVal 23 78 = true := by kernel_rfl
theorem vp24_20 : lawProg.isVal 24 20 = false := by kernel_rfl
theorem vp24_77 : lawProg.isVal 24 77 = true := by kernel_rfl
theorem vp24_79 : lawProg.isVal 24 79 = false := by kernel_rfl
theorem vp25_87 : lawProg.isVal 25 87 = false := by kernel_rfl
theorem vp68_86 : lawProg.isVal 68 86 = true := by kernel_rfl
theorem vp69_72 : lawProg.isVal 69 72 = true := by kernel_rfl
theorem vp70_127 : lawProg.isVal 70 127 = false := by kernel_rfl
theorem vp70_129 : lawProg.isVal 70 129 = false := by kernel_rfl
theorem vp73_131 : lawProg.isVal 73 131 = false := by kernel_rfl
theorem vp75_132 : lawProg.isVal 75 132 = false := by kernel_rfl
theorem vp76_78 : lawProg.isVal 76 78 = true := by kernel_rfl
theorem vp80_81 : lawProg.isVal 80 81 = false := by kernel_rfl
theorem vp81_129 : lawProg.isVal 81 129 = false := by kernel_rfl
theorem vp83_73 : lawProg.isVal 83 73 = false := by kernel_rfl
theorem vp83_86 : lawProg.isVal 83 86 = true := by kernel_rfl
theorem vp84_71 : lawProg.isVal 84 71 = false := by kernel_rfl
theorem vp127_129 : lawProg.isVal 127 129 = false := by kernel_rfl
theorem ord5_3 : lawProg.ord 5 3 = some ⟨[(0, []), (2, []), (9, []), (1, [2]), (3, []), (4, []), (5, []), (6, []), (7, []), (8, []), (10, []), (11, []), (12, [])], [[], [0], [], [0, 1, 2], [0, 1, 2, 3], [0, 1, 2, 3, 4], [0, 1, 2, 3, 4, 5], [0, 1, 2, 3, 4, 5], [0, 1, 2, 3, 4, 5], [], [0, 1, 2, 3, 4, 5, 6, 9], [0, 1, 2, 3, 4, 5, 6, 7, 9, 10], [0, 1, 2, 3, 4, 5, 6, 7, 8, 9, 10, 11]]⟩ := by kernel_rfl
theorem ord19_10 : lawProg.ord 19 10 = some ⟨[(0, []), (1, []), (2, []), (3, []), (4, []), (5, [2]), (6, []), (7, [])], [[], [], [1], [], [3], [3, 4], [0, 1, 2, 3, 4, 5], [0, 1, 2, 3, 4, 5, 6]]⟩ := by kernel_rfl
theorem ord19_14 : lawProg.ord 19 14 = some ⟨[(0, []), (1, []), (2, []), (3, []), (4, []), (5, [3]), (6, []), (7, []), (8, [])], [[], [0], [0, 1], [0, 1, 2], [], [4], [0, 1, 2, 3, 4, 5], [0, 1, 2, 3, 4, 5, 6], [0, 1, 2, 3, 4, 5, 6, 7]]⟩ := by kernel_rfl
theorem ord20_9 : lawProg.ord 20 9 = some ⟨[(0, []), (1, []), (2, []), (3, []), (4, []), (5, []), (6, []), (7, []), (8, []), (9, []), (10, []), (11, []), (12, [1]), (13, []), (14, []), (15, []), (16, [])], [[], [0], [], [], [3], [], [3, 4, 5], [3, 4, 5, 6], [3, 4, 5, 6, 7], [], [3, 4, 5, 6, 7, 8, 9], [3, 4, 5, 6, 7, 8, 9, 10], [2, 3, 4, 5, 6, 7, 8, 9, 10, 11], [2, 3, 4, 5, 6, 7, 8, 9, 10, 11, 12], [0, 1, 2, 3, 4, 5, 6, 7, 8, 9, 10, 11, 12, 13], [0, 1, 2, 3, 4, 5, 6, 7, 8, 9, 10, 11, 12, 13, 14], [0, 1, 2, 3, 4, 5, 6, 7, 8, 9, 10, 11, 12, 13, 14, 15]]⟩ := by kernel_rfl
theorem ord22_6 : lawProg.ord 22 6 = some ⟨[(0, []), (1, []), (2, []), (3, []), (4, []), (5, []), (6, []), (7, []), (8, []), (9, []), (10, []), (11, []), (12, []), (13, []), (14, []), (16, []), (15, []), (17, []), (18, [])], [[], [0], [], [0, 1, 2], [0, 1, 2, 3], [0, 1, 2, 3, 4], [0, 1, 2, 3, 4, 5], [0, 1, 2, 3, 4, 5, 6], [0, 1, 2, 3, 4, 5, 6, 7], [0, 1, 2, 3, 4, 5, 6, 7], [0, 1, 2, 3, 4, 5, 6, 7, 9], [0, 1, 2, 3, 4, 5, 6, 7], [0, 1, 2, 3, 4, 5, 6, 7, 9, 10, 11], [0, 1, 2, 3, 4, 5, 6, 7, 9, 10, 11, 12], [0, 1, 2, 3, 4, 5, 6, 7, 9, 10, 11, 12, 13], [0, 1, 2, 3, 4, 5, 6, 7, 8, 9, 10, 11, 12, 13, 14], [0, 1, 2, 3, 4, 5, 6, 7], [0, 1, 2, 3, 4, 5, 6, 7, 8, 9, 10, 11, 12, 13, 14, 15, 16], [0, 1, 2, 3, 4, 5, 6, 7, 8, 9, 10, 11, 12, 13, 14, 15, 16, 17]]⟩ := by kernel_rfl
theorem ord24_3 : lawProg.ord 24 3 = some ⟨[(0, []), (1, []), (2, []), (3, []), (4, []), (5, []), (6, []), (7, []), (8, []), (9, []), (10, []), (11, []), (12, []), (13, [])], [[], [0], [0, 1], [0, 1, 2], [0, 1, 2, 3], [0, 1, 2], [0, 1, 2, 3, 4, 5], [0, 1, 2, 3, 4, 5, 6], [0, 1, 2, 3, 4, 5, 6, 7], [0, 1, 2, 3, 4, 5, 6, 7, 8], [0, 1, 2], [0, 1, 2, 10], [0, 1, 2, 3, 4, 5, 6, 7, 8, 9, 10, 11], [0, 1, 2, 3, 4, 5, 6, 7, 8, 9, 10, 11, 12]]⟩ := by kernel_rfl
theorem ord24_6 : lawProg.ord 24 6 = some ⟨[(0, []), (1, []), (2, []), (3, []), (4, []), (5, []), (6, []), (7, []), (8, []), (9, []), (10, []), (11, [])], [[], [0], [], [2], [], [4], [4, 5], [2, 3, 4, 5, 6], [2, 3, 4, 5, 6, 7], [0, 1, 2, 3, 4, 5, 6, 7, 8], [0, 1, 2, 3, 4, 5, 6, 7, 8, 9], [0, 1, 2, 3, 4, 5, 6, 7, 8, 9, 10]]⟩ := by kernel_rfl
theorem ord24_10 : lawProg.ord 24 10 = some ⟨[(0, []), (1, []), (2, []), (3, []), (4, []), (5, []), (6, []), (7, []), (8, []), (9, []), (10, []), (11, [])], [[], [0], [], [0, 1, 2], [0, 1, 2, 3], [0, 1, 2, 3, 4], [], [6], [0, 1, 2, 3, 4, 5, 6, 7], [0, 1, 2, 3, 4, 5, 6, 7, 8], [0, 1, 2, 3, 4, 5, 6, 7, 8, 9], [0, 1, 2, 3, 4, 5, 6, 7, 8, 9, 10]]⟩ := by kernel_rfl
theorem ord24_11 : lawProg.ord 24 11 = some ⟨[(0, []), (1, []), (2, []), (3, []), (4, []), (5, []), (6, []), (7, []), (8, []), (9, []), (10, []), (11, [1, 5, 7]), (12, []), (13, [])], [[], [0], [], [0, 1, 2], [0, 1, 2, 3], [0, 1, 2, 3, 4], [], [6], [], [], [9], [8, 9, 10], [0, 1, 2, 3, 4, 5, 6, 7, 8, 9, 10, 11], [0, 1, 2, 3, 4, 5, 6, 7, 8, 9, 10, 11, 12]]⟩ := by kernel_rfl
theorem ord26_6 : lawProg.ord 26 6 = some ⟨[(0, []), (1, []), (2, []), (3, []), (4, []), (5, []), (6, []), (7, []), (8, []), (9, []), (10, []), (11, []), (12, []), (13, []), (14, []), (15, []), (16, []), (17, []), (18, []), (19, []), (20, []), (21, []), (22, []), (23, []), (24, []), (25, []), (26, []), (27, []), (28, []), (29, [])], [[], [0], [], [0, 1, 2], [0, 1, 2, 3], [0, 1, 2, 3, 4], [], [6], [], [6, 7, 8], [6, 7, 8, 9], [6, 7, 8, 9, 10], [0, 1, 2, 3, 4, 5, 6, 7, 8, 9, 10, 11], [0, 1, 2, 3, 4, 5, 6, 7, 8, 9, 10, 11, 12], [0, 1, 2, 3, 4, 5, 6, 7, 8, 9, 10, 11, 12, 13], [0, 1, 2, 3, 4, 5, 6, 7, 8, 9, 10, 11, 12, 13, 14], [0, 1, 2, 3, 4, 5, 6, 7, 8, 9, 10, 11, 12, 13], [0, 1, 2, 3, 4, 5, 6, 7, 8, 9, 10, 11, 12, 13, 14, 15, 16], [0, 1, 2, 3, 4, 5, 6, 7, 8, 9, 10, 11, 12, 13, 14, 15, 16, 17], [0, 1, 2, 3, 4, 5, 6, 7, 8, 9, 10, 11, 12, 13, 14, 15, 16, 17, 18], [0, 1, 2, 3, 4, 5, 6, 7, 8, 9, 10, 11, 12, 13, 14, 15, 16, 17, 18, 19], [0, 1, 2, 3, 4, 5, 6, 7, 8, 9, 10, 11, 12, 13], [0, 1, 2, 3, 4, 5, 6, 7, 8, 9, 10, 11, 12, 13, 21], [0, 1, 2, 3, 4, 5, 6, 7, 8, 9, 10, 11, 12, 13], [0, 1, 2, 3, 4, 5, 6, 7, 8, 9, 10, 11, 12, 13, 21, 22, 23], [0, 1, 2, 3, 4, 5, 6, 7, 8, 9, 10, 11, 12, 13, 21, 22, 23, 24], [0, 1, 2, 3, 4, 5, 6, 7, 8, 9, 10, 11, 12, 13, 21, 22, 23, 24, 25], [0, 1, 2, 3, 4, 5, 6, 7, 8, 9, 10, 11, 12, 13, 21, 22, 23, 24, 25, 26], [0, 1, 2, 3, 4, 5, 6, 7, 8, 9, 10, 11, 12, 13, 14, 15, 16, 17, 18, 19, 20, 21, 22, 23, 24, 25, 26, 27], [0, 1, 2, 3, 4, 5, 6, 7, 8, 9, 10, 11, 12, 13, 14, 15, 16, 17, 18, 19, 20, 21, 22, 23, 24, 25, 26, 27, 28]]⟩ := by kernel_rfl
theorem ord26_11 : lawProg.ord 26 11 = some ⟨[(0, []), (1, []), (2, []), (3, []), (4, []), (5, []), (6, []), (7, []), (8, []), (9, []), (10, []), (11, []), (12, []), (13, []), (14, []), (15, []), (16, []), (17, []), (18, []), (19, []), (20, [])], [[], [0], [], [0, 1, 2], [0, 1, 2, 3], [0, 1, 2, 3, 4], [], [0, 1, 2, 3, 4, 5, 6], [0, 1, 2, 3, 4, 5, 6, 7], [0, 1, 2, 3, 4, 5, 6, 7, 8], [], [10], [], [10, 11, 12], [10, 11, 12, 13], [10, 11, 12, 13, 14], [], [10, 11, 12, 13, 14, 15, 16], [10, 11, 12, 13, 14, 15, 16, 17], [10, 11, 12, 13, 14, 15, 16, 17, 18], [0, 1, 2, 3, 4, 5, 6, 7, 8, 9, 10, 11, 12, 13, 14, 15, 16, 17, 18, 19]]⟩ := by kernel_rfl
theorem ord69_9 : lawProg.ord 69 9 = some ⟨[(0, []), (1, []), (2, []), (3, [1]), (4, []), (5, []), (6, []), (7, [])], [[], [0], [], [2], [2, 3], [0, 1, 2, 3, 4], [0, 1, 2, 3, 4, 5], [0, 1, 2, 3, 4, 5, 6]]⟩ := by kernel_rfl
theorem ord69_11 : lawProg.ord 69 11 = some ⟨[(0, []), (1, []), (2, []), (3, []), (4, []), (5, []), (6, []), (7, []), (8, []), (9, []), (10, []), (11, []), (12, [])], [[], [], [1], [1, 2], [1, 2, 3], [1, 2, 3, 4], [], [6], [1, 2, 3, 4, 5, 6, 7], [0, 1, 2, 3, 4, 5, 6, 7, 8], [0, 1, 2, 3, 4, 5, 6, 7, 8, 9], [0, 1, 2, 3, 4, 5, 6, 7, 8, 9, 10], [0, 1, 2, 3, 4, 5, 6, 7, 8, 9, 10, 11]]⟩ := by kernel_rfl
theorem ord70_5 : lawProg.ord 70 5 = some ⟨[(0, []), (1, []), (2, []), (3, []), (4, []), (5, []), (6, []), (7, []), (8, []), (9, []), (10, []), (11, []), (12, []), (13, []), (14, []), (15, []), (16, []), (17, [])], [[], [], [1], [1, 2], [1, 2, 3], [1, 2, 3, 4], [], [6], [], [8], [8, 9], [6, 7, 8, 9, 10], [6, 7, 8, 9, 10, 11], [1, 2, 3, 4, 5, 6, 7, 8, 9, 10, 11, 12], [0, 1, 2, 3, 4, 5, 6, 7, 8, 9, 10, 11, 12, 13], [0, 1, 2, 3, 4, 5, 6, 7, 8, 9, 10, 11, 12, 13, 14], [0, 1, 2, 3, 4, 5, 6, 7, 8, 9, 10, 11, 12, 13, 14, 15], [0, 1, 2, 3, 4, 5, 6, 7, 8, 9, 10, 11, 12, 13, 14, 15, 16]]⟩ := by kernel_rfl
theorem ord74_5 : lawProg.ord 74 5 = some ⟨[(0, []), (1, []), (2, []), (3, []), (4, []), (5, []), (6, []), (7, [])], [[], [], [0, 1], [], [], [3, 4], [0, 1, 2, 3, 4, 5], [0, 1, 2, 3, 4, 5, 6]]⟩ := by kernel_rfl
theorem ord79_1 : lawProg.ord 79 1 = some ⟨[(0, []), (1, []), (2, []), (3, []), (4, []), (6, []), (7, []), (8, []), (9, []), (10, []), (5, [7, 10]), (11, []), (12, []), (13, [])], [[], [], [1], [], [1, 2, 3], [0, 1, 2, 3, 4], [], [6], [], [8], [6, 7, 8, 9], [0, 1, 2, 3, 4, 5, 6, 7, 8, 9, 10], [0, 1, 2, 3, 4, 5, 6, 7, 8, 9, 10, 11], [0, 1, 2, 3, 4, 5, 6, 7, 8, 9, 10, 11, 12]]⟩ := by kernel_rfl
set_option linter.defProp false
def sx := And.intro @q_seq (And.intro @q_cond (And.intro @q_block (And.intro @q_region (And.intro @q_drawn (And.intro @q_skip (And.intro @q_exit (And.intro @q_ret (And.intro @lenB_vs (And.intro @lenB_sl (And.intro @lenB_str (And.intro @cells_bool (And.intro @one_bool (And.intro @cells_int (And.intro @one_int (And.intro @cells_str (And.intro @one_str (And.intro @cells_ptr (And.intro @one_ptr (And.intro @cells_nilptr (And.intro @one_nilptr (And.intro @cells_slice (And.intro @one_slice (And.intro @cells_vs (And.intro @one_vs (And.intro @cells_vptr (And.intro @one_vptr (And.intro @cells_func (And.intro @one_func (And.intro @cells_yield (And.intro @one_yield (And.intro @cells_nilfn (And.intro @one_nilfn (And.intro @cells_nilmap (And.intro @one_nilmap (And.intro @cells_map (And.intro @one_map (And.intro @cells_agg (And.intro @Tr.get_set (And.intro @AMem.get_put (And.intro @AMem.get_push (And.intro @AMem.next_put (And.intro @AMem.next_push (And.intro @AMem.get_empty (And.intro @next_empty (And.intro @Option.map_some.{0, 0} (And.intro @Option.map_none.{0, 0} (And.intro @Option.bind_some.{0, 0} (And.intro @Nat.zero_add (And.intro @Nat.add_zero (And.intro @Nat.mul_one (And.intro @Nat.one_mul (And.intro @Nat.zero_mul (And.intro @and_self (And.intro @and_true (And.intro @true_and (And.intro @false_and (And.intro @and_false (And.intro @Bool.and_true (And.intro @Bool.true_and (And.intro @Bool.and_false (And.intro @Bool.false_and (And.intro @if_true.{1} (And.intro @if_false.{1} (And.intro @Bool.false_eq_true (And.intro @Bool.not_true (And.intro @Bool.not_false (And.intro @BEq.rfl.{0} (And.intro @beq_true_true (And.intro @beq_true_false (And.intro @beq_false_true (And.intro @beq_false_false (And.intro @List.length_cons.{0} (And.intro @List.length_nil.{0} (And.intro @List.all_cons.{0} (And.intro @List.all_nil.{0} (And.intro @List.getElem?_cons_zero.{0} (And.intro @List.getElem?_cons_succ.{0} (And.intro @List.getElem?_nil.{0} (And.intro @List.getElem?_toArray.{0} (And.intro @List.take_succ_cons.{0} (And.intro @List.take_zero.{0} (And.intro @List.drop_succ_cons.{0} (And.intro @List.drop_zero.{0} (And.intro @List.set_cons_zero.{0} (And.intro @List.set_cons_succ.{0} (And.intro @List.append_nil.{0} (And.intro @List.nil_append.{0} (And.intro @List.cons_append.{0} (And.intro @decide_true (And.intro @decide_false (And.intro @decide_eq_true_eq (And.intro @Option.isNone_none.{0} (And.intro @Option.isNone_some.{0} (And.intro @Option.isSome_none.{0} (And.intro @Option.isSome_some.{0} (And.intro @Bool.or_true (And.intro @Bool.true_or (And.intro @Bool.or_false (And.intro @Bool.false_or (And.intro @ne_eq.{1} (And.intro @not_false_eq_true (And.intro @not_true_eq_false (And.intro @eq_self.{1} (@beq_refl))))))))))))))))))))))))))))))))))))))))))))))))))))))))))))))))))))))))))))))))))))))))))))))))))))))))
def dx := And.intro @runOps.eq_1 (And.intro @runOps.eq_2 (And.intro @runD.eq_1 (And.intro @runD.eq_2 (And.intro @again.eq_1 (And.intro @step1.eq_1 (And.intro @wantA.eq_1 (And.intro @opSem.eq_1 (And.intro @evalO.eq_1 (And.intro @evalO.eq_2 (And.intro @evalO.eq_3 (And.intro @evalO.eq_4 (And.intro @evalL.eq_1 (And.intro @evalL.eq_2 (And.intro @evalOpt.eq_1 (And.intro @evalOpt.eq_2 (And.intro @evalParts.eq_1 (And.intro @evalParts.eq_2 (And.intro @putA.eq_1 (And.intro @putA.eq_2 (And.intro @ofConst.eq_1 (And.intro @ofConst.eq_2 (And.intro @ofConst.eq_3 (And.intro @ofScalar.eq_1 (And.intro @ofScalar.eq_2 (And.intro @ofScalar.eq_3 (And.intro @ofScalar.eq_4 (And.intro @ofScalar.eq_5 (And.intro @ofScalar.eq_6 (And.intro @ofScalar.eq_7 (And.intro @ofScalar.eq_8 (And.intro @ofScalars.eq_1 (And.intro @ofScalars.eq_2 (And.intro @abin.eq_1 (And.intro @abin.eq_2 (And.intro @abin.eq_3 (And.intro @abin.eq_4 (And.intro @abin.eq_5 (And.intro @abin.eq_6 (And.intro @abin.eq_7 (And.intro @abinInt.eq_1 (And.intro @abinInt.eq_2 (And.intro @abinInt.eq_3 (And.intro @abinInt.eq_4 (And.intro @abinInt.eq_5 (And.intro @abinInt.eq_6 (And.intro @abinInt.eq_7 (And.intro @abinInt.eq_8 (And.intro @abinInt.eq_9 (And.intro @abinInt.eq_10 (And.intro @abinInt.eq_11 (And.intro @abinInt.eq_12 (And.intro @abinInt.eq_13 (And.intro @abinInt.eq_14 (And.intro @abinInt.eq_15 (And.intro @abinInt.eq_16 (And.intro @aun.eq_1 (And.intro @aun.eq_2 (And.intro @aun.eq_3 (And.intro @aun.eq_4 (And.intro @convA.eq_1 (And.intro @convA.eq_2 (And.intro @convA.eq_3 (And.intro @convA.eq_4 (And.intro @builtinA.eq_def (And.intro @oneTy.eq_1 (And.intro @elemTy.eq_1 (And.intro @loadA.eq_1 (And.intro @loadA.eq_2 (And.intro @loadA.eq_3 (And.intro @loadA.eq_4 (And.intro @storeA.eq_1 (And.intro @storeA.eq_2 (And.intro @storeCellsA.eq_1 (And.intro @setAt.eq_1 (And.intro @setAt.eq_2 (And.intro @partA.eq_1 (And.intro @fillA.eq_1 (And.intro @fillA.eq_2 (And.intro @placesA.eq_1 (And.intro @placesA.eq_2 (And.intro @isFn.eq_1 (And.intro @isFn.eq_2 (And.intro @TyI.isAgg.eq_1 (And.intro @isSeq.eq_1 (And.intro @isNum.eq_1 (And.intro @sliceA.eq_1 (And.intro @sliceA.eq_2 (And.intro @sliceA.eq_3 (And.intro @sliceA.eq_4 (And.intro @sliceA.eq_5 (And.intro @sliceA.eq_6 (And.intro @sliceA.eq_7 (And.intro @boundA.eq_1 (And.intro @boundA.eq_2 (And.intro @boundA.eq_3 (And.intro @setParams.eq_1 (And.intro @setParams.eq_2 (And.intro @minL.eq_1 (And.intro @minL.eq_2 (And.intro @minF.eq_1 (And.intro @minF.eq_2 (And.intro @minF.eq_3 (And.intro @maxL.eq_1 (And.intro @maxL.eq_2 (And.intro @maxF.eq_1 (And.intro @maxF.eq_2 (And.intro @maxF.eq_3 (And.intro @repZ.eq_1 (@repZ.eq_2)))))))))))))))))))))))))))))))))))))))))))))))))))))))))))))))))))))))))))))))))))))))))))))))))))))))))))))
def fx5 := And.intro @vp5_10 (And.intro @vp5_18 (And.intro @vp5_19 (And.intro @vp5_20 (And.intro @vp5_21 (And.intro @vp5_22 (And.intro @vp5_23 (And.intro @vp5_24 (And.intro @vp5_25 (And.intro @vp5_26 (And.intro @ty3 (And.intro @ty4 (And.intro @ty5 (And.intro @ty9 (And.intro @ty39 (And.intro @ty40 (And.intro @ty50 (And.intro @ty52 (And.intro @ty54 (And.intro @ty118 (And.intro @ty120 (@ord5_3)))))))))))))))))))))
def fx18 := And.intro @ty3 (And.intro @ty5 (And.intro @ty39 (And.intro @ty50 (And.intro @ty52 (And.intro @ty118 (@ty120))))))
def fx19 := And.intro @vp19_25 (And.intro @vp19_68 (And.intro @vp19_69 (And.intro @vp19_70 (And.intro @vp19_71 (And.intro @vp19_72 (And.intro @vp19_73 (And.intro @vp19_74 (And.intro @vp19_75 (And.intro @ty3 (And.intro @ty4 (And.intro @ty5 (And.intro @ty39 (And.intro @ty40 (And.intro @ty50 (And.intro @ty52 (And.intro @ty54 (And.intro @ty118 (And.intro @ty120 (And.intro @ty125 (And.intro @ord19_10 (@ord19_14)))))))))))))))))))))
def fx20 := And.intro @ty3 (And.intro @ty5 (And.intro @ty39 (And.intro @ty50 (And.intro @ty52 (And.intro @ty118 (And.intro @ty120 (@ord20_9)))))))
def fx21 := And.intro @ty3 (And.intro @ty5 (And.intro @ty39 (@ty54)))
def fx22 := And.intro @vp22_76 (And.intro @vp22_77 (And.intro @ty3 (And.intro @ty4 (And.intro @ty5 (And.intro @ty39 (And.intro @ty50 (And.intro @ty52 (And.intro @ty118 (And.intro @ty120 (@ord22_6))))))))))
def fx23 := And.intro @vp23_78 (And.intro @ty3 (And.intro @ty5 (And.intro @ty39 (@ty54))))
def fx24 := And.intro @vp24_20 (And.intro @vp24_77 (And.intro @vp24_79 (And.intro @ty3 (And.intro @ty5 (And.intro @ty39 (And.intro @ty50 (And.intro @ty52 (And.intro @ty54 (And.intro @ty118 (And.intro @ty120 (And.intro @ord24_3 (And.intro @ord24_6 (And.intro @ord24_10 (@ord24_11))))))))))))))
def fx25 := And.intro @vp25_87 (And.intro @ty3 (And.intro @ty4 (And.intro @ty5 (And.intro @ty39 (And.intro @ty50 (And.intro @ty52 (And.intro @ty118 (@ty120))))))))
def fx26 := And.intro @ty3 (And.intro @ty5 (And.intro @ty9 (And.intro @ty39 (And.intro @ty50 (And.intro @ty52 (And.intro @ty118 (And.intro @ty120 (And.intro @ord26_6 (@ord26_11)))))))))
def fx68 := And.intro @vp68_86 (And.intro @ty3 (And.intro @ty5 (And.intro @ty39 (@ty54))))
def fx69 := And.intro @vp69_72 (And.intro @ty3 (And.intro @ty5 (And.intro @ty39 (And.intro @ty50 (And.intro @ty52 (And.intro @ty118 (And.intro @ty120 (And.intro @ty125 (And.intro @ord69_9 (@ord69_11))))))))))
def fx70 := And.intro @vp70_127 (And.intro @vp70_129 (And.intro @ty3 (And.intro @ty5 (And.intro @ty39 (And.intro @ty50 (And.intro @ty52 (And.intro @ty54 (And.intro @ty118 (And.intro @ty120 (And.intro @ty125 (@ord70_5)))))))))))
def fx71 := And.intro @ty3 (And.intro @ty5 (@ty39))
def fx72 := And.intro @ty5 (@ty39)
def fx73 := And.intro @vp73_131 (@ty3)
def fx74 := And.intro @ty3 (And.intro @ty5 (And.intro @ty39 (And.intro @ty50 (And.intro @ty118 (And.intro @ty120 (@ord74_5))))))
def fx75 := And.intro @vp75_132 (And.intro @ty3 (And.intro @ty5 (And.intro @ty39 (@ty118))))
def fx76 := And.intro @vp76_78 (And.intro @ty3 (And.intro @ty4 (And.intro @ty5 (And.intro @ty39 (And.intro @ty118 (@ty120))))))
def fx77 := And.intro @ty3 (And.intro @ty5 (And.intro @ty39 (And.intro @ty50 (And.intro @ty52 (And.intro @ty118 (@ty120))))))
def fx78 := @ty3
def fx79 := And.intro @ty3 (And.intro @ty5 (And.intro @ty39 (And.intro @ty50 (And.intro @ty52 (And.intro @ty118 (And.intro @ty120 (@ord79_1)))))))
def fx80 := And.intro @vp80_81 (And.intro @ty3 (And.intro @ty4 (And.intro @ty5 (And.intro @ty39 (And.intro @ty50 (And.intro @ty52 (And.intro @ty118 (@ty120))))))))
def fx81 := And.intro @vp81_129 (@ty3)
def fx82 := And.intro @ty3 (And.intro @ty5 (And.intro @ty39 (And.intro @ty118 (@ty120))))
def fx83 := And.intro @vp83_73 (And.intro @vp83_86 (And.intro @ty3 (And.intro @ty4 (And.intro @ty5 (And.intro @ty39 (And.intro @ty118 (@ty120)))))))
def fx84 := And.intro @vp84_71 (@ty4)
def fx85 := And.intro @ty3 (And.intro @ty5 (@ty39))
def fx86 := @ty3
def fx87 := And.intro @ty3 (And.intro @ty4 (And.intro @ty5 (And.intro @ty39 (And.intro @ty50 (And.intro @ty118 (@ty120))))))
def fx127 := And.intro @vp127_129 (And.intro @ty3 (And.intro @ty4 (And.intro @ty5 (And.intro @ty39 (And.intro @ty50 (And.intro @ty118 (@ty120)))))))
def fx128 := And.intro @ty3 (And.intro @ty5 (And.intro @ty39 (And.intro @ty54 (And.intro @ty118 (@ty120)))))
def fx129 := And.intro @ty3 (And.intro @ty5 (And.intro @ty39 (And.intro @ty50 (And.intro @ty118 (@ty120)))))
def fx130 := And.intro @ty3 (And.intro @ty5 (And.intro @ty39 (And.intro @ty54 (And.intro @ty118 (@ty120)))))
def fx131 := And.intro @ty3 (And.intro @ty5 (And.intro @ty39 (@ty118)))
def fx132 := And.intro @ty3 (And.intro @ty5 (@ty39))
end Go.Proofs.YtjckhhkhgjbpaaaGreatDoor
