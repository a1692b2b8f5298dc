/- What the proofs of this seat ask of its program. -/
import Derived.Test.YtjkfdiglokkceaaLaw
import Derived.Test.YtjkfdiglokkceaaPaleSym
import Derived.KernelRfl
set_option maxRecDepth 100000
namespace Go.Proofs.Ytjkfdiglokkceaa
open Go Go.Proofs.Ytjkfdiglokkceaa.Pale
theorem ty3 : lawProg.ty 3 = some (⟨.int .i64, 1, 8, [.int .i64 0]⟩ : TyI) := by kernel_rfl
theorem ty4 : lawProg.ty 4 = some (⟨.bool, 1, 1, [.bool false]⟩ : TyI) := by kernel_rfl
theorem ty5 : lawProg.ty 5 = some (⟨.int .u8, 1, 1, [.int .u8 0]⟩ : TyI) := by kernel_rfl
theorem ty22 : lawProg.ty 22 = some (⟨.slice 79, 1, 24, [.vs .nil []]⟩ : TyI) := by kernel_rfl
theorem ty23 : lawProg.ty 23 = some (⟨.slice 3, 1, 24, [.vs .nil []]⟩ : TyI) := by kernel_rfl
theorem ty25 : lawProg.ty 25 = some (⟨.struct [(0, 22), (1, 23)], 2, 48, [.vs .nil [], .vs .nil []]⟩ : TyI) := by kernel_rfl
theorem ty28 : lawProg.ty 28 = some (⟨.int .i64, 1, 8, [.int .i64 0]⟩ : TyI) := by kernel_rfl
theorem ty31 : lawProg.ty 31 = some (⟨.slice 53, 1, 24, [.vs .nil []]⟩ : TyI) := by kernel_rfl
theorem ty53 : lawProg.ty 53 = some (⟨.array 2 3, 2, 16, [.int .i64 0, .int .i64 0]⟩ : TyI) := by kernel_rfl
theorem ty60 : lawProg.ty 60 = some (⟨.slice 64, 1, 24, [.vs .nil []]⟩ : TyI) := by kernel_rfl
theorem ty62 : lawProg.ty 62 = some (⟨.struct [(0, 5), (1, 60)], 2, 32, [.int .u8 0, .vs .nil []]⟩ : TyI) := by kernel_rfl
theorem ty63 : lawProg.ty 63 = some (⟨.slice 67, 1, 24, [.vs .nil []]⟩ : TyI) := by kernel_rfl
theorem ty64 : lawProg.ty 64 = some (⟨.array 3 5, 3, 3, [.int .u8 0, .int .u8 0, .int .u8 0]⟩ : TyI) := by kernel_rfl
theorem ty67 : lawProg.ty 67 = some (⟨.struct [(0, 3), (1, 3), (2, 23)], 3, 40, [.int .i64 0, .int .i64 0, .vs .nil []]⟩ : TyI) := by kernel_rfl
theorem ty77 : lawProg.ty 77 = some (⟨.slice 4, 1, 24, [.vs .nil []]⟩ : TyI) := by kernel_rfl
theorem ty79 : lawProg.ty 79 = some (⟨.struct [(0, 5), (1, 3), (2, 77)], 3, 40, [.int .u8 0, .int .i64 0, .vs .nil []]⟩ : TyI) := by kernel_rfl
theorem ty81 : lawProg.ty 81 = some (⟨.pointer, 1, 8, [.nilptr]⟩ : TyI) := by kernel_rfl
theorem ty86 : lawProg.ty 86 = some (⟨.struct [(0, 3), (1, 3), (2, 3), (3, 3)], 4, 32, [.int .i64 0, .int .i64 0, .int .i64 0, .int .i64 0]⟩ : TyI) := by kernel_rfl
theorem ty102 : lawProg.ty 102 = some (⟨.struct [(0, 25)], 2, 48, [.vs .nil [], .vs .nil []]⟩ : TyI) := by kernel_rfl
theorem ty107 : lawProg.ty 107 = some (⟨.func, 1, 8, [.nilfn]⟩ : TyI) := by kernel_rfl
theorem ty113 : lawProg.ty 113 = some (⟨.func, 1, 8, [.nilfn]⟩ : TyI) := by kernel_rfl
theorem ty123 : lawProg.ty 123 = some (⟨.int .u64, 1, 8, [.int .u64 0]⟩ : TyI) := by kernel_rfl
theorem fn9 : lawProg.func 9 = some Try.f9 := by kernel_rfl
theorem fn12 : lawProg.func 12 = some Try.f12 := by kernel_rfl
theorem fn13 : lawProg.func 13 = some Try.f13 := by kernel_rfl
theorem fn15 : lawProg.func 15 = some Try.f15 := by kernel_rfl
theorem fn16 : lawProg.func 16 = some Try.f16 := by kernel_rfl
theorem fn20 : lawProg.func 20 = some Try.f20 := by kernel_rfl
theorem fn25 : lawProg.func 25 = some Try.f25 := by kernel_rfl
theorem fn28 : lawProg.func 28 = some Try.f28 := by kernel_rfl
theorem fn30 : lawProg.func 30 = some Try.f30 := by kernel_rfl
theorem fn32 : lawProg.func 32 = some Try.f32 := by kernel_rfl
theorem fn35 : lawProg.func 35 = some Try.f35 := by kernel_rfl
theorem fn38 : lawProg.func 38 = some Try.f38 := by kernel_rfl
theorem fn39 : lawProg.func 39 = some Try.f39 := by kernel_rfl
theorem fn40 : lawProg.func 40 = some Try.f40 := by kernel_rfl
theorem fn44 : lawProg.func 44 = some Try.f44 := by kernel_rfl
theorem fn46 : lawProg.func 46 = some Try.f46 := by kernel_rfl
theorem fn47 : lawProg.func 47 = some Try.f47 := by kernel_rfl
theorem fn51 : lawProg.func 51 = some Try.f51 := by kernel_rfl
theorem fn52 : lawProg.func 52 = some Try.f52 := by kernel_rfl
theorem fn53 : lawProg.func 53 = some Try.f53 := by kernel_rfl
theorem fn54 : lawProg.func 54 = some Try.f54 := by kernel_rfl
theorem fn55 : lawProg.func 55 = some Try.f55 := by kernel_rfl
theorem fn58 : lawProg.func 58 = some Try.f58 := by kernel_rfl
theorem fn59 : lawProg.func 59 = some Try.f59 := by kernel_rfl
theorem fn60 : lawProg.func 60 = some Try.f60 := by kernel_rfl
theorem fn61 : lawProg.func 61 = some Try.f61 := by kernel_rfl
theorem fn64 : lawProg.func 64 = some Try.f64 := by kernel_rfl
theorem fn65 : lawProg.func 65 = some Try.f65 := by kernel_rfl
theorem fn66 : lawProg.func 66 = some Try.f66 := by kernel_rfl
theorem fn67 : lawProg.func 67 = some Try.f67 := by kernel_rfl
theorem fn68 : lawProg.func 68 = some Try.f68 := by kernel_rfl
theorem fn69 : lawProg.func 69 = some Try.f69 := by kernel_rfl
theorem fn70 : lawProg.func 70 = some Try.f70 := by kernel_rfl
theorem fn74 : lawProg.func 74 = some Try.f74 := by kernel_rfl
theorem fn75 : lawProg.func 75 = some Try.f75 := by kernel_rfl
theorem fn77 : lawProg.func 77 = some Try.f77 := by kernel_rfl
theorem fn78 : lawProg.func 78 = some Try.f78 := by kernel_rfl
theorem fn82 : lawProg.func 82 = some Try.f82 := by kernel_rfl
theorem fn83 : lawProg.func 83 = some Try.f83 := by kernel_rfl
theorem fn84 : lawProg.func 84 = some Try.f84 := by kernel_rfl
theorem fn85 : lawProg.func 85 = some Try.f85 := by kernel_rfl
theorem fn88 : lawProg.func 88 = some Try.f88 := by kernel_rfl
theorem fn89 : lawProg.func 89 = some Try.f89 := by kernel_rfl
theorem fn90 : lawProg.func 90 = some Try.f90 := by kernel_rfl
theorem fn91 : lawProg.func 91 = some Try.f91 := by kernel_rfl
theorem fn94 : lawProg.func 94 = some Try.f94 := by kernel_rfl
theorem bookNo9 : bookL.get 9 = none := by kernel_rfl
theorem memo9 (args : List AVal) : lawProg.memo 9 args = none := by show lookB bookL 9 args = none; unfold lookB; rw [bookNo9]
theorem memo12 : lawProg.memo 12 [] = some (.bool true, true) := by kernel_rfl
theorem bookNo13 : bookL.get 13 = none := by kernel_rfl
theorem memo13 (args : List AVal) : lawProg.memo 13 args = none := by show lookB bookL 13 args = none; unfold lookB; rw [bookNo13]
theorem bookNo15 : bookL.get 15 = none := by kernel_rfl
theorem memo15 (args : List AVal) : lawProg.memo 15 args = none := by show lookB bookL 15 args = none; unfold lookB; rw [bookNo15]
theorem bookNo16 : bookL.get 16 = none := by kernel_rfl
theorem memo16 (args : List AVal) : lawProg.memo 16 args = none := by show lookB bookL 16 args = none; unfold lookB; rw [bookNo16]
theorem bookNo20 : bookL.get 20 = none := by kernel_rfl
theorem memo20 (args : List AVal) : lawProg.memo 20 args = none := by show lookB bookL 20 args = none; unfold lookB; rw [bookNo20]
theorem bookNo25 : bookL.get 25 = none := by kernel_rfl
theorem memo25 (args : List AVal) : lawProg.memo 25 args = none := by show lookB bookL 25 args = none; unfold lookB; rw [bookNo25]
theorem bookNo28 : bookL.get 28 = none := by kernel_rfl
theorem memo28 (args : List AVal) : lawProg.memo 28 args = none := by show lookB bookL 28 args = none; unfold lookB; rw [bookNo28]
theorem bookNo30 : bookL.get 30 = none := by kernel_rfl
theorem memo30 (args : List AVal) : lawProg.memo 30 args = none := by show lookB bookL 30 args = none; unfold lookB; rw [bookNo30]
theorem bookNo32 : bookL.get 32 = none := by kernel_rfl
theorem memo32 (args : List AVal) : lawProg.memo 32 args = none := by show lookB bookL 32 args = none; unfold lookB; rw [bookNo32]
theorem bookNo35 : bookL.get 35 = none := by kernel_rfl
theorem memo35 (args : List AVal) : lawProg.memo 35 args = none := by show lookB bookL 35 args = none; unfold lookB; rw [bookNo35]
theorem bookNo38 : bookL.get 38 = none := by kernel_rfl
theorem memo38 (args : List AVal) : lawProg.memo 38 args = none := by show lookB bookL 38 args = none; unfold lookB; rw [bookNo38]
theorem bookNo39 : bookL.get 39 = none := by kernel_rfl
theorem memo39 (args : List AVal) : lawProg.memo 39 args = none := by show lookB bookL 39 args = none; unfold lookB; rw [bookNo39]
theorem bookNo40 : bookL.get 40 = none := by kernel_rfl
theorem memo40 (args : List AVal) : lawProg.memo 40 args = none := by show lookB bookL 40 args = none; unfold lookB; rw [bookNo40]
theorem bookNo44 : bookL.get 44 = none := by kernel_rfl
theorem memo44 (args : List AVal) : lawProg.memo 44 args = none := by show lookB bookL 44 args = none; unfold lookB; rw [bookNo44]
theorem bookNo46 : bookL.get 46 = none := by kernel_rfl
theorem memo46 (args : List AVal) : lawProg.memo 46 args = none := by show lookB bookL 46 args = none; unfold lookB; rw [bookNo46]
theorem bookNo47 : bookL.get 47 = none := by kernel_rfl
theorem memo47 (args : List AVal) : lawProg.memo 47 args = none := by show lookB bookL 47 args = none; unfold lookB; rw [bookNo47]
theorem bookNo51 : bookL.get 51 = none := by kernel_rfl
theorem memo51 (args : List AVal) : lawProg.memo 51 args = none := by show lookB bookL 51 args = none; unfold lookB; rw [bookNo51]
theorem bookNo52 : bookL.get 52 = none := by kernel_rfl
theorem memo52 (args : List AVal) : lawProg.memo 52 args = none := by show lookB bookL 52 args = none; unfold lookB; rw [bookNo52]
theorem bookNo53 : bookL.get 53 = none := by kernel_rfl
theorem memo53 (args : List AVal) : lawProg.memo 53 args = none := by show lookB bookL 53 args = none; unfold lookB; rw [bookNo53]
theorem bookNo54 : bookL.get 54 = none := by kernel_rfl
theorem memo54 (args : List AVal) : lawProg.memo 54 args = none := by show lookB bookL 54 args = none; unfold lookB; rw [bookNo54]
theorem bookNo55 : bookL.get 55 = none := by kernel_rfl
theorem memo55 (args : List AVal) : lawProg.memo 55 args = none := by show lookB bookL 55 args = none; unfold lookB; rw [bookNo55]
theorem bookNo58 : bookL.get 58 = none := by kernel_rfl
theorem memo58 (args : List AVal) : lawProg.memo 58 args = none := by show lookB bookL 58 args = none; unfold lookB; rw [bookNo58]
theorem bookNo59 : bookL.get 59 = none := by kernel_rfl
theorem memo59 (args : List AVal) : lawProg.memo 59 args = none := by show lookB bookL 59 args = none; unfold lookB; rw [bookNo59]
theorem bookNo60 : bookL.get 60 = none := by kernel_rfl
theorem memo60 (args : List AVal) : lawProg.memo 60 args = none := by show lookB bookL 60 args = none; unfold lookB; rw [bookNo60]
theorem bookNo61 : bookL.get 61 = none := by kernel_rfl
theorem memo61 (args : List AVal) : lawProg.memo 61 args = none := by show lookB bookL 61 args = none; unfold lookB; rw [bookNo61]
theorem bookNo64 : bookL.get 64 = none := by kernel_rfl
theorem memo64 (args : List AVal) : lawProg.memo 64 args = none := by show lookB bookL 64 args = none; unfold lookB; rw [bookNo64]
theorem bookNo65 : bookL.get 65 = none := by kernel_rfl
theorem memo65 (args : List AVal) : lawProg.memo 65 args = none := by show lookB bookL 65 args = none; unfold lookB; rw [bookNo65]
theorem bookNo66 : bookL.get 66 = none := by kernel_rfl
theorem memo66 (args : List AVal) : lawProg.memo 66 args = none := by show lookB bookL 66 args = none; unfold lookB; rw [bookNo66]
theorem bookNo67 : bookL.get 67 = none := by kernel_rfl
theorem memo67 (args : List AVal) : lawProg.memo 67 args = none := by show lookB bookL 67 args = none; unfold lookB; rw [bookNo67]
theorem bookNo68 : bookL.get 68 = none := by kernel_rfl
theorem memo68 (args : List AVal) : lawProg.memo 68 args = none := by show lookB bookL 68 args = none; unfold lookB; rw [bookNo68]
theorem bookNo69 : bookL.get 69 = none := by kernel_rfl
theorem memo69 (args : List AVal) : lawProg.memo 69 args = none := by show lookB bookL 69 args = none; unfold lookB; rw [bookNo69]
theorem bookNo70 : bookL.get 70 = none := by kernel_rfl
theorem memo70 (args : List AVal) : lawProg.memo 70 args = none := by show lookB bookL 70 args = none; unfold lookB; rw [bookNo70]
theorem bookNo74 : bookL.get 74 = none := by kernel_rfl
theorem memo74 (args : List AVal) : lawProg.memo 74 args = none := by show lookB bookL 74 args = none; unfold lookB; rw [bookNo74]
theorem bookNo75 : bookL.get 75 = none := by kernel_rfl
theorem memo75 (args : List AVal) : lawProg.memo 75 args = none := by show lookB bookL 75 args = none; unfold lookB; rw [bookNo75]
theorem bookNo77 : bookL.get 77 = none := by kernel_rfl
theorem memo77 (args : List AVal) : lawProg.memo 77 args = none := by show lookB bookL 77 args = none; unfold lookB; rw [bookNo77]
theorem bookNo78 : bookL.get 78 = none := by kernel_rfl
theorem memo78 (args : List AVal) : lawProg.memo 78 args = none := by show lookB bookL 78 args = none; unfold lookB; rw [bookNo78]
theorem bookNo82 : bookL.get 82 = none := by kernel_rfl
theorem memo82 (args : List AVal) : lawProg.memo 82 args = none := by show lookB bookL 82 args = none; unfold lookB; rw [bookNo82]
theorem bookNo83 : bookL.get 83 = none := by kernel_rfl
theorem memo83 (args : List AVal) : lawProg.memo 83 args = none := by show lookB bookL 83 args = none; unfold lookB; rw [bookNo83]
theorem bookNo84 : bookL.get 84 = none := by kernel_rfl
theorem memo84 (args : List AVal) : lawProg.memo 84 args = none := by show lookB bookL 84 args = none; unfold lookB; rw [bookNo84]
theorem bookNo85 : bookL.get 85 = none := by kernel_rfl
theorem memo85 (args : List AVal) : lawProg.memo 85 args = none := by show lookB bookL 85 args = none; unfold lookB; rw [bookNo85]
theorem bookNo88 : bookL.get 88 = none := by kernel_rfl
theorem memo88 (args : List AVal) : lawProg.memo 88 args = none := by show lookB bookL 88 args = none; unfold lookB; rw [bookNo88]
theorem bookNo89 : bookL.get 89 = none := by kernel_rfl
theorem memo89 (args : List AVal) : lawProg.memo 89 args = none := by show lookB bookL 89 args = none; unfold lookB; rw [bookNo89]
theorem bookNo90 : bookL.get 90 = none := by kernel_rfl
theorem memo90 (args : List AVal) : lawProg.memo 90 args = none := by show lookB bookL 90 args = none; unfold lookB; rw [bookNo90]
theorem bookNo91 : bookL.get 91 = none := by kernel_rfl
theorem memo91 (args : List AVal) : lawProg.memo 91 args = none := by show lookB bookL 91 args = none; unfold lookB; rw [bookNo91]
theorem bookNo94 : bookL.get 94 = none := by kernel_rfl
theorem memo94 (args : List AVal) : lawProg.memo 94 args = none := by show lookB bookL 94 args = none; unfold lookB; rw [bookNo94]
theorem vp9_12 : lawProg.isVal 9 12 = true := by kernel_rfl
theorem vp9_13 : lawProg.isVal 9 13 = true := by kernel_rfl
theorem vp9_15 : lawProg.isVal 9 15 = true := by kernel_rfl
theorem vp9_16 : lawProg.isVal 9 16 = true := by kernel_rfl
theorem vp9_20 : lawProg.isVal 9 20 = true := by kernel_rfl
theorem vp9_25 : lawProg.isVal 9 25 = true := by kernel_rfl
theorem vp9_30 : lawProg.isVal 9 30 = true := by kernel_rfl
theorem vp9_32 : lawProg.isVal 9 32 = true := by kernel_rfl
theorem vp9_38 : lawProg.isVal 9 38 = true := by kernel_rfl
theorem vp9_39 : lawProg.isVal 9 39 = true := by kernel_rfl
theorem vp9_40 : lawProg.isVal 9 40 = true := by kernel_rfl
theorem vp13_44 : lawProg.isVal 13 44 = true := by kernel_rfl
theorem vp15_46 : lawProg.isVal 15 46 = false := by kernel_rfl
theorem vp20_46 : lawProg.isVal 20 46 = false := by kernel_rfl
theorem vp25_51 : lawProg.isVal 25 51 = false := by kernel_rfl
theorem vp28_35 : lawProg.isVal 28 35 = true := by kernel_rfl
theorem vp30_51 : lawProg.isVal 30 51 = false := by kernel_rfl
theorem vp32_51 : lawProg.isVal 32 51 = false := by kernel_rfl
theorem vp35_46 : lawProg.isVal 35 46 = false := by kernel_rfl
theorem vp35_60 : lawProg.isVal 35 60 = false := by kernel_rfl
theorem vp35_61 : lawProg.isVal 35 61 = false := by kernel_rfl
theorem vp39_16 : lawProg.isVal 39 16 = true := by kernel_rfl
theorem vp39_28 : lawProg.isVal 39 28 = true := by kernel_rfl
theorem vp40_16 : lawProg.isVal 40 16 = true := by kernel_rfl
theorem vp40_35 : lawProg.isVal 40 35 = true := by kernel_rfl
theorem vp46_64 : lawProg.isVal 46 64 = false := by kernel_rfl
theorem vp46_65 : lawProg.isVal 46 65 = false := by kernel_rfl
theorem vp46_66 : lawProg.isVal 46 66 = false := by kernel_rfl
theorem vp46_67 : lawProg.isVal 46 67 = false := by kernel_rfl
theorem vp47_68 : lawProg.isVal 47 68 = false := by kernel_rfl
theorem vp51_46 : lawProg.isVal 51 46 = false := by kernel_rfl
theorem vp52_53 : lawProg.isVal 52 53 = false := by kernel_rfl
theorem vp53_44 : lawProg.isVal 53 44 = true := by kernel_rfl
theorem vp53_69 : lawProg.isVal 53 69 = false := by kernel_rfl
theorem vp53_70 : lawProg.isVal 53 70 = false := by kernel_rfl
theorem vp53_74 : lawProg.isVal 53 74 = true := by kernel_rfl
theorem vp54_55 : lawProg.isVal 54 55 = false := by kernel_rfl
theorem vp55_60 : lawProg.isVal 55 60 = false := by kernel_rfl
theorem vp55_61 : lawProg.isVal 55 61 = false := by kernel_rfl
theorem vp55_75 : lawProg.isVal 55 75 = true := by kernel_rfl
theorem vp58_59 : lawProg.isVal 58 59 = false := by kernel_rfl
theorem vp59_60 : lawProg.isVal 59 60 = false := by kernel_rfl
theorem vp59_61 : lawProg.isVal 59 61 = false := by kernel_rfl
theorem vp59_77 : lawProg.isVal 59 77 = false := by kernel_rfl
theorem vp64_44 : lawProg.isVal 64 44 = true := by kernel_rfl
theorem vp64_77 : lawProg.isVal 64 77 = false := by kernel_rfl
theorem vp64_82 : lawProg.isVal 64 82 = false := by kernel_rfl
theorem vp64_84 : lawProg.isVal 64 84 = false := by kernel_rfl
theorem vp70_68 : lawProg.isVal 70 68 = false := by kernel_rfl
theorem vp75_88 : lawProg.isVal 75 88 = true := by kernel_rfl
theorem vp77_89 : lawProg.isVal 77 89 = false := by kernel_rfl
theorem vp78_44 : lawProg.isVal 78 44 = true := by kernel_rfl
theorem vp84_44 : lawProg.isVal 84 44 = true := by kernel_rfl
theorem vp84_61 : lawProg.isVal 84 61 = false := by kernel_rfl
theorem vp84_68 : lawProg.isVal 84 68 = false := by kernel_rfl
theorem vp84_75 : lawProg.isVal 84 75 = true := by kernel_rfl
theorem vp84_77 : lawProg.isVal 84 77 = false := by kernel_rfl
theorem vp84_91 : lawProg.isVal 84 91 = true := by kernel_rfl
theorem vp89_94 : lawProg.isVal 89 94 = false := by kernel_rfl
theorem ord9_13 : lawProg.ord 9 13 = some ⟨[(0, []), (2, []), (3, []), (10, []), (1, [3]), (4, []), (5, []), (6, []), (7, []), (8, []), (9, []), (11, []), (12, []), (13, [])], [[], [0], [], [2], [0, 1, 2, 3], [0, 1, 2, 3, 4], [0, 1, 2, 3, 4, 5], [0, 1, 2, 3, 4, 5, 6], [0, 1, 2, 3, 4, 5, 6], [0, 1, 2, 3, 4, 5, 6], [], [0, 1, 2, 3, 4, 5, 6, 7, 10], [0, 1, 2, 3, 4, 5, 6, 7, 8, 10, 11], [0, 1, 2, 3, 4, 5, 6, 7, 8, 9, 10, 11, 12]]⟩ := by kernel_rfl
theorem ord9_17 : lawProg.ord 9 17 = some ⟨[(0, []), (1, []), (2, []), (3, []), (4, []), (5, [0]), (6, []), (7, []), (8, [0]), (9, []), (10, [])], [[], [], [], [], [3], [3, 4], [2, 3, 4, 5], [2, 3, 4, 5, 6], [1, 2, 3, 4, 5, 6, 7], [0, 1, 2, 3, 4, 5, 6, 7, 8], [0, 1, 2, 3, 4, 5, 6, 7, 8, 9]]⟩ := by kernel_rfl
theorem ord9_20 : lawProg.ord 9 20 = some ⟨[(0, []), (2, []), (3, []), (4, []), (5, []), (6, []), (11, []), (1, [6]), (7, []), (8, []), (9, []), (10, []), (12, []), (13, [])], [[], [0], [], [], [2, 3], [2, 3, 4], [2, 3, 4, 5], [0, 1, 2, 3, 4, 5, 6], [0, 1, 2, 3, 4, 5, 6, 7], [0, 1, 2, 3, 4, 5, 6, 7, 8], [0, 1, 2, 3, 4, 5, 6, 7, 8], [], [0, 1, 2, 3, 4, 5, 6, 7, 8, 9, 11], [0, 1, 2, 3, 4, 5, 6, 7, 8, 9, 10, 11, 12]]⟩ := by kernel_rfl
theorem ord9_23 : lawProg.ord 9 23 = some ⟨[(0, []), (1, []), (2, []), (3, []), (4, []), (6, []), (7, []), (8, []), (9, []), (5, [0, 9]), (10, [0]), (11, []), (12, [])], [[], [], [], [], [2, 3], [1, 2, 3, 4], [], [], [7], [6, 7, 8], [1, 2, 3, 4, 5, 6, 7, 8, 9], [0, 1, 2, 3, 4, 5, 6, 7, 8, 9, 10], [0, 1, 2, 3, 4, 5, 6, 7, 8, 9, 10, 11]]⟩ := by kernel_rfl
theorem ord9_24 : lawProg.ord 9 24 = some ⟨[(0, []), (1, []), (2, []), (3, []), (4, []), (5, []), (6, []), (7, []), (8, []), (9, []), (10, []), (11, [])], [[], [0], [0, 1], [], [], [3, 4], [3, 4, 5], [3, 4, 5, 6], [3, 4, 5, 6, 7], [0, 1, 2, 3, 4, 5, 6, 7, 8], [0, 1, 2, 3, 4, 5, 6, 7, 8, 9], [0, 1, 2, 3, 4, 5, 6, 7, 8, 9, 10]]⟩ := by kernel_rfl
theorem ord9_29 : lawProg.ord 9 29 = some ⟨[(0, []), (2, []), (3, []), (4, []), (5, []), (6, []), (7, []), (13, []), (1, [6]), (8, [6]), (9, []), (10, []), (11, []), (12, []), (14, []), (15, [])], [[], [0], [], [], [2, 3], [2, 3, 4], [2, 3, 4, 5], [], [0, 1, 7], [0, 1, 2, 3, 4, 5, 6, 7, 8], [0, 1, 2, 3, 4, 5, 6, 7, 8, 9], [0, 1, 2, 3, 4, 5, 6, 7, 8, 9, 10], [0, 1, 2, 3, 4, 5, 6, 7, 8, 9, 10], [], [0, 1, 2, 3, 4, 5, 6, 7, 8, 9, 10, 11, 13], [0, 1, 2, 3, 4, 5, 6, 7, 8, 9, 10, 11, 12, 13, 14]]⟩ := by kernel_rfl
theorem ord13_3 : lawProg.ord 13 3 = some ⟨[(0, []), (1, []), (2, []), (3, []), (4, []), (5, []), (6, []), (7, [])], [[], [0], [], [2], [2, 3], [0, 1, 2, 3, 4], [0, 1, 2, 3, 4, 5], [0, 1, 2, 3, 4, 5, 6]]⟩ := by kernel_rfl
theorem ord25_2 : lawProg.ord 25 2 = some ⟨[(0, []), (1, []), (2, []), (3, [1]), (4, []), (5, [])], [[], [], [], [0], [0, 1, 3], [0, 1, 2, 3, 4]]⟩ := by kernel_rfl
theorem ord39_5 : lawProg.ord 39 5 = some ⟨[(0, []), (2, []), (3, []), (4, []), (5, []), (6, []), (1, [6]), (7, []), (8, []), (9, []), (10, []), (11, []), (12, [])], [[], [0], [], [], [2, 3], [2, 3, 4], [2, 3, 4, 5], [0, 1, 2, 3, 4, 5, 6], [0, 1, 2, 3, 4, 5, 6, 7], [0, 1, 2, 3, 4, 5, 6, 7, 8], [0, 1, 2, 3, 4, 5, 6, 7, 8], [0, 1, 2, 3, 4, 5, 6, 7, 8, 9], [0, 1, 2, 3, 4, 5, 6, 7, 8, 9, 10, 11]]⟩ := by kernel_rfl
theorem ord39_6 : lawProg.ord 39 6 = some ⟨[(0, []), (1, []), (2, []), (3, []), (4, []), (5, []), (6, []), (7, []), (8, []), (9, []), (10, []), (11, []), (12, []), (13, []), (14, []), (15, []), (16, []), (17, []), (18, []), (19, []), (20, []), (21, []), (22, []), (23, []), (24, []), (25, []), (26, []), (27, []), (28, []), (29, []), (30, []), (31, [])], [[], [0], [0, 1], [0, 1, 2], [0, 1, 2], [0, 1, 2], [0, 1, 2, 4, 5], [0, 1, 2, 4, 5, 6], [0, 1, 2, 4, 5, 6, 7], [0, 1, 2, 3, 4, 5, 6, 7, 8], [0, 1, 2, 3, 4, 5, 6, 7, 8, 9], [0, 1, 2, 3, 4, 5, 6, 7, 8, 9, 10], [0, 1, 2, 3, 4, 5, 6, 7, 8, 9, 10, 11], [0, 1, 2, 3, 4, 5, 6, 7, 8, 9, 10, 11], [0, 1, 2, 3, 4, 5, 6, 7, 8, 9, 10, 11, 12, 13], [0, 1, 2, 3, 4, 5, 6, 7, 8, 9, 10, 11, 12, 13, 14], [0, 1, 2, 3, 4, 5, 6, 7, 8, 9, 10, 11, 12, 13, 14, 15], [0, 1, 2, 3, 4, 5, 6, 7, 8, 9, 10, 11, 12, 13, 14, 15, 16], [0, 1, 2, 3, 4, 5, 6, 7, 8, 9, 10, 11, 12, 13, 14, 15, 16, 17], [0, 1, 2, 3, 4, 5, 6, 7, 8, 9, 10, 11, 12, 13, 14, 15, 16, 17, 18], [0, 1, 2, 3, 4, 5, 6, 7, 8, 9, 10, 11, 12, 13, 14, 15, 16, 17, 18, 19], [0, 1, 2, 3, 4, 5, 6, 7, 8, 9, 10, 11, 12, 13, 14, 15, 16, 17, 18, 19], [0, 1, 2, 3, 4, 5, 6, 7, 8, 9, 10, 11, 12, 13, 14, 15, 16, 17, 18, 19, 20, 21], [0, 1, 2, 3, 4, 5, 6, 7, 8, 9, 10, 11, 12, 13, 14, 15, 16, 17, 18, 19, 20, 21, 22], [0, 1, 2, 3, 4, 5, 6, 7, 8, 9, 10, 11, 12, 13, 14, 15, 16, 17, 18, 19, 20, 21, 22, 23], [0, 1, 2, 3, 4, 5, 6, 7, 8, 9, 10, 11, 12, 13, 14, 15, 16, 17, 18, 19], [0, 1, 2, 3, 4, 5, 6, 7, 8, 9, 10, 11, 12, 13, 14, 15, 16, 17, 18, 19, 25], [0, 1, 2, 3, 4, 5, 6, 7, 8, 9, 10, 11, 12, 13, 14, 15, 16, 17, 18, 19, 25, 26], [0, 1, 2, 3, 4, 5, 6, 7, 8, 9, 10, 11, 12, 13, 14, 15, 16, 17, 18, 19], [0, 1, 2, 3, 4, 5, 6, 7, 8, 9, 10, 11, 12, 13, 14, 15, 16, 17, 18, 19, 25, 26, 27, 28], [0, 1, 2, 3, 4, 5, 6, 7, 8, 9, 10, 11, 12, 13, 14, 15, 16, 17, 18, 19, 20, 21, 22, 23, 24, 25, 26, 27, 28, 29], [0, 1, 2, 3, 4, 5, 6, 7, 8, 9, 10, 11, 12, 13, 14, 15, 16, 17, 18, 19, 20, 21, 22, 23, 24, 25, 26, 27, 28, 29, 30]]⟩ := by kernel_rfl
theorem ord40_4 : lawProg.ord 40 4 = some ⟨[(0, []), (2, []), (3, []), (4, []), (5, []), (6, []), (1, [6]), (7, []), (8, []), (9, []), (10, []), (11, []), (12, [])], [[], [0], [], [], [2, 3], [2, 3, 4], [2, 3, 4, 5], [0, 1, 2, 3, 4, 5, 6], [0, 1, 2, 3, 4, 5, 6, 7], [0, 1, 2, 3, 4, 5, 6, 7, 8], [0, 1, 2, 3, 4, 5, 6, 7, 8], [0, 1, 2, 3, 4, 5, 6, 7, 8, 9], [0, 1, 2, 3, 4, 5, 6, 7, 8, 9, 10, 11]]⟩ := by kernel_rfl
theorem ord46_4 : lawProg.ord 46 4 = some ⟨[(0, []), (1, []), (3, []), (4, []), (2, [4]), (5, []), (6, []), (7, []), (8, []), (9, [])], [[], [0], [0, 1], [], [3], [0, 1, 2, 3, 4], [0, 1, 2, 3, 4, 5], [0, 1, 2, 3, 4, 5, 6], [0, 1, 2, 3, 4, 5, 6, 7], [0, 1, 2, 3, 4, 5, 6, 7, 8]]⟩ := by kernel_rfl
theorem ord46_8 : lawProg.ord 46 8 = some ⟨[(0, []), (1, []), (2, []), (3, []), (4, []), (5, []), (6, []), (7, []), (8, []), (9, []), (10, []), (11, []), (12, []), (13, []), (14, []), (15, [4]), (16, []), (17, []), (18, [])], [[], [0], [0, 1], [0, 1, 2], [0, 1, 2, 3], [], [], [6], [6, 7], [6, 7, 8], [6, 7, 8, 9], [], [6, 7, 8, 9, 10, 11], [6, 7, 8, 9, 10, 11, 12], [6, 7, 8, 9, 10, 11, 12, 13], [6, 7, 8, 9, 10, 11, 12, 13, 14], [0, 1, 2, 3, 4, 5, 6, 7, 8, 9, 10, 11, 12, 13, 14, 15], [0, 1, 2, 3, 4, 5, 6, 7, 8, 9, 10, 11, 12, 13, 14, 15, 16], [0, 1, 2, 3, 4, 5, 6, 7, 8, 9, 10, 11, 12, 13, 14, 15, 16, 17]]⟩ := by kernel_rfl
theorem ord53_21 : lawProg.ord 53 21 = some ⟨[(0, []), (1, []), (2, []), (3, []), (4, []), (5, []), (6, []), (7, []), (8, []), (9, []), (10, []), (11, []), (12, [])], [[], [0], [0, 1], [0, 1, 2], [0, 1, 2, 3], [], [], [], [7], [7, 8], [6, 7, 8, 9], [0, 1, 2, 3, 4, 5, 6, 7, 8, 9, 10], [0, 1, 2, 3, 4, 5, 6, 7, 8, 9, 10, 11]]⟩ := by kernel_rfl
theorem ord53_23 : lawProg.ord 53 23 = some ⟨[(0, []), (1, []), (2, []), (3, []), (4, []), (5, []), (6, []), (7, []), (8, []), (9, []), (10, []), (11, []), (12, []), (13, [])], [[], [0], [0, 1], [0, 1, 2], [0, 1, 2, 3], [], [5], [0, 1, 2, 3, 4, 5, 6], [0, 1, 2, 3, 4, 5, 6, 7], [0, 1, 2, 3, 4, 5, 6, 7, 8], [], [10], [0, 1, 2, 3, 4, 5, 6, 7, 8, 9, 10, 11], [0, 1, 2, 3, 4, 5, 6, 7, 8, 9, 10, 11, 12]]⟩ := by kernel_rfl
theorem ord55_5 : lawProg.ord 55 5 = some ⟨[(0, []), (1, []), (2, []), (3, []), (4, []), (5, []), (6, []), (7, []), (8, [])], [[], [0], [0, 1], [0, 1, 2], [0, 1, 2, 3], [], [5], [0, 1, 2, 3, 4, 5, 6], [0, 1, 2, 3, 4, 5, 6, 7]]⟩ := by kernel_rfl
theorem ord55_7 : lawProg.ord 55 7 = some ⟨[(0, []), (1, []), (2, []), (3, []), (4, []), (5, []), (6, []), (7, []), (8, []), (9, []), (10, []), (11, []), (12, []), (13, []), (14, []), (15, [])], [[], [0], [0, 1], [0, 1, 2], [0, 1, 2, 3], [], [5], [], [7], [], [9], [9, 10], [9, 10, 11], [7, 8, 9, 10, 11, 12], [0, 1, 2, 3, 4, 5, 6, 7, 8, 9, 10, 11, 12, 13], [0, 1, 2, 3, 4, 5, 6, 7, 8, 9, 10, 11, 12, 13, 14]]⟩ := by kernel_rfl
theorem ord55_9 : lawProg.ord 55 9 = some ⟨[(0, []), (1, []), (2, []), (3, []), (4, []), (5, []), (6, []), (7, [])], [[], [0], [0, 1], [0, 1, 2], [], [4], [0, 1, 2, 3, 4, 5], [0, 1, 2, 3, 4, 5, 6]]⟩ := by kernel_rfl
theorem ord61_1 : lawProg.ord 61 1 = some ⟨[(0, []), (1, []), (2, []), (3, []), (4, []), (5, []), (6, []), (7, []), (8, []), (9, []), (10, []), (11, []), (12, []), (13, [])], [[], [0], [0, 1], [0, 1, 2], [0, 1, 2, 3], [], [5], [], [7], [], [9], [7, 8, 9, 10], [0, 1, 2, 3, 4, 5, 6, 7, 8, 9, 10, 11], [0, 1, 2, 3, 4, 5, 6, 7, 8, 9, 10, 11, 12]]⟩ := by kernel_rfl
theorem ord68_1 : lawProg.ord 68 1 = some ⟨[(0, []), (1, []), (2, []), (3, []), (4, []), (5, []), (6, []), (7, []), (8, []), (9, []), (10, [])], [[], [0], [0, 1], [0, 1, 2], [0, 1, 2, 3], [], [0, 1, 2, 3, 4, 5], [0, 1, 2, 3, 4, 5, 6], [0, 1, 2, 3, 4, 5, 6, 7], [], [0, 1, 2, 3, 4, 5, 6, 7, 8, 9]]⟩ := by kernel_rfl
theorem ord84_2 : lawProg.ord 84 2 = some ⟨[(0, []), (1, []), (2, []), (3, []), (4, []), (5, []), (6, []), (7, []), (8, []), (9, []), (10, []), (11, []), (12, []), (13, []), (14, []), (15, []), (16, []), (17, []), (18, []), (19, []), (20, []), (21, []), (22, []), (23, []), (24, []), (25, [])], [[], [0], [0, 1], [0, 1, 2], [0, 1, 2, 3], [0, 1, 2, 3, 4], [0, 1, 2, 3, 4, 5], [0, 1, 2, 3, 4, 5, 6], [0, 1, 2, 3, 4, 5, 6, 7], [0, 1, 2, 3, 4, 5, 6, 7, 8], [0, 1, 2, 3, 4, 5, 6, 7, 8, 9], [0, 1, 2, 3, 4, 5, 6, 7, 8, 9, 10], [0, 1, 2, 3, 4, 5, 6, 7, 8, 9, 10, 11], [0, 1, 2, 3, 4, 5, 6, 7, 8, 9, 10, 11, 12], [0, 1, 2, 3, 4, 5, 6, 7, 8, 9, 10, 11, 12, 13], [0, 1, 2, 3, 4, 5, 6, 7, 8, 9, 10, 11], [0, 1, 2, 3, 4, 5, 6, 7, 8, 9, 10, 11, 15], [0, 1, 2, 3, 4, 5, 6, 7, 8, 9, 10, 11, 15, 16], [0, 1, 2, 3, 4, 5, 6, 7, 8, 9, 10, 11, 12, 13, 14, 15, 16, 17], [0, 1, 2, 3, 4, 5, 6, 7, 8, 9, 10, 11, 12, 13, 14, 15, 16, 17, 18], [0, 1, 2, 3, 4, 5, 6, 7, 8, 9, 10, 11, 12, 13, 14, 15, 16, 17, 18, 19], [0, 1, 2, 3, 4, 5, 6, 7, 8, 9, 10, 11, 12, 13, 14, 15, 16, 17, 18, 19, 20], [0, 1, 2, 3, 4, 5, 6, 7, 8, 9, 10, 11, 12, 13, 14, 15, 16, 17, 18, 19, 20, 21], [0, 1, 2, 3, 4, 5, 6, 7, 8, 9, 10, 11, 12, 13, 14, 15, 16, 17, 18, 19, 20, 21, 22], [0, 1, 2, 3, 4, 5, 6, 7, 8, 9, 10, 11, 12, 13, 14, 15, 16, 17, 18, 19, 20, 21, 22, 23], [0, 1, 2, 3, 4, 5, 6, 7, 8, 9, 10, 11, 12, 13, 14, 15, 16, 17, 18, 19, 20, 21, 22, 23, 24]]⟩ := by kernel_rfl
theorem ord85_0 : lawProg.ord 85 0 = some ⟨[(0, []), (1, []), (2, []), (3, []), (4, []), (5, []), (6, []), (7, []), (8, []), (9, []), (10, [])], [[], [0], [0, 1], [0, 1, 2], [0, 1, 2, 3], [], [0, 1, 2, 3, 4, 5], [0, 1, 2, 3, 4, 5, 6], [0, 1, 2, 3, 4, 5, 6, 7], [0, 1, 2, 3, 4, 5, 6, 7, 8], []]⟩ := by kernel_rfl
set_option linter.defProp false
def sx := And.intro @q_seq (And.intro @q_cond (And.intro @q_block (And.intro @q_region (And.intro @q_drawn (And.intro @q_skip (And.intro @q_exit (And.intro @q_ret (And.intro @lenB_vs (And.intro @lenB_sl (And.intro @lenB_str (And.intro @cells_bool (And.intro @one_bool (And.intro @cells_int (And.intro @one_int (And.intro @cells_str (And.intro @one_str (And.intro @cells_ptr (And.intro @one_ptr (And.intro @cells_nilptr (And.intro @one_nilptr (And.intro @cells_slice (And.intro @one_slice (And.intro @cells_vs (And.intro @one_vs (And.intro @cells_vptr (And.intro @one_vptr (And.intro @cells_func (And.intro @one_func (And.intro @cells_yield (And.intro @one_yield (And.intro @cells_nilfn (And.intro @one_nilfn (And.intro @cells_nilmap (And.intro @one_nilmap (And.intro @cells_map (And.intro @one_map (And.intro @cells_agg (And.intro @Tr.get_set (And.intro @AMem.get_put (And.intro @AMem.get_push (And.intro @AMem.next_put (And.intro @AMem.next_push (And.intro @AMem.get_empty (And.intro @next_empty (And.intro @Option.map_some.{0, 0} (And.intro @Option.map_none.{0, 0} (And.intro @Option.bind_some.{0, 0} (And.intro @Nat.zero_add (And.intro @Nat.add_zero (And.intro @Nat.mul_one (And.intro @Nat.one_mul (And.intro @Nat.zero_mul (And.intro @and_self (And.intro @and_true (And.intro @true_and (And.intro @false_and (And.intro @and_false (And.intro @Bool.and_true (And.intro @Bool.true_and (And.intro @Bool.and_false (And.intro @Bool.false_and (And.intro @if_true.{1} (And.intro @if_false.{1} (And.intro @Bool.false_eq_true (And.intro @Bool.not_true (And.intro @Bool.not_false (And.intro @BEq.rfl.{0} (And.intro @beq_true_true (And.intro @beq_true_false (And.intro @beq_false_true (And.intro @beq_false_false (And.intro @List.length_cons.{0} (And.intro @List.length_nil.{0} (And.intro @List.all_cons.{0} (And.intro @List.all_nil.{0} (And.intro @List.getElem?_cons_zero.{0} (And.intro @List.getElem?_cons_succ.{0} (And.intro @List.getElem?_nil.{0} (And.intro @List.getElem?_toArray.{0} (And.intro @List.take_succ_cons.{0} (And.intro @List.take_zero.{0} (And.intro @List.drop_succ_cons.{0} (And.intro @List.drop_zero.{0} (And.intro @List.set_cons_zero.{0} (And.intro @List.set_cons_succ.{0} (And.intro @List.append_nil.{0} (And.intro @List.nil_append.{0} (And.intro @List.cons_append.{0} (And.intro @decide_true (And.intro @decide_false (And.intro @decide_eq_true_eq (And.intro @Option.isNone_none.{0} (And.intro @Option.isNone_some.{0} (And.intro @Option.isSome_none.{0} (And.intro @Option.isSome_some.{0} (And.intro @Bool.or_true (And.intro @Bool.true_or (And.intro @Bool.or_false (And.intro @Bool.false_or (And.intro @ne_eq.{1} (And.intro @not_false_eq_true (And.intro @not_true_eq_false (And.intro @eq_self.{1} (@beq_refl))))))))))))))))))))))))))))))))))))))))))))))))))))))))))))))))))))))))))))))))))))))))))))))))))))))))
def dx := And.intro @runOps.eq_1 (And.intro @runOps.eq_2 (And.intro @runD.eq_1 (And.intro @runD.eq_2 (And.intro @again.eq_1 (And.intro @step1.eq_1 (And.intro @wantA.eq_1 (And.intro @opSem.eq_1 (And.intro @evalO.eq_1 (And.intro @evalO.eq_2 (And.intro @evalO.eq_3 (And.intro @evalO.eq_4 (And.intro @evalL.eq_1 (And.intro @evalL.eq_2 (And.intro @evalOpt.eq_1 (And.intro @evalOpt.eq_2 (And.intro @evalParts.eq_1 (And.intro @evalParts.eq_2 (And.intro @putA.eq_1 (And.intro @putA.eq_2 (And.intro @ofConst.eq_1 (And.intro @ofConst.eq_2 (And.intro @ofConst.eq_3 (And.intro @ofScalar.eq_1 (And.intro @ofScalar.eq_2 (And.intro @ofScalar.eq_3 (And.intro @ofScalar.eq_4 (And.intro @ofScalar.eq_5 (And.intro @ofScalar.eq_6 (And.intro @ofScalar.eq_7 (And.intro @ofScalar.eq_8 (And.intro @ofScalars.eq_1 (And.intro @ofScalars.eq_2 (And.intro @abin.eq_1 (And.intro @abin.eq_2 (And.intro @abin.eq_3 (And.intro @abin.eq_4 (And.intro @abin.eq_5 (And.intro @abin.eq_6 (And.intro @abin.eq_7 (And.intro @abinInt.eq_1 (And.intro @abinInt.eq_2 (And.intro @abinInt.eq_3 (And.intro @abinInt.eq_4 (And.intro @abinInt.eq_5 (And.intro @abinInt.eq_6 (And.intro @abinInt.eq_7 (And.intro @abinInt.eq_8 (And.intro @abinInt.eq_9 (And.intro @abinInt.eq_10 (And.intro @abinInt.eq_11 (And.intro @abinInt.eq_12 (And.intro @abinInt.eq_13 (And.intro @abinInt.eq_14 (And.intro @abinInt.eq_15 (And.intro @abinInt.eq_16 (And.intro @aun.eq_1 (And.intro @aun.eq_2 (And.intro @aun.eq_3 (And.intro @aun.eq_4 (And.intro @convA.eq_1 (And.intro @convA.eq_2 (And.intro @convA.eq_3 (And.intro @convA.eq_4 (And.intro @builtinA.eq_def (And.intro @oneTy.eq_1 (And.intro @elemTy.eq_1 (And.intro @loadA.eq_1 (And.intro @loadA.eq_2 (And.intro @loadA.eq_3 (And.intro @loadA.eq_4 (And.intro @storeA.eq_1 (And.intro @storeA.eq_2 (And.intro @storeCellsA.eq_1 (And.intro @setAt.eq_1 (And.intro @setAt.eq_2 (And.intro @partA.eq_1 (And.intro @fillA.eq_1 (And.intro @fillA.eq_2 (And.intro @placesA.eq_1 (And.intro @placesA.eq_2 (And.intro @isFn.eq_1 (And.intro @isFn.eq_2 (And.intro @TyI.isAgg.eq_1 (And.intro @isSeq.eq_1 (And.intro @isNum.eq_1 (And.intro @sliceA.eq_1 (And.intro @sliceA.eq_2 (And.intro @sliceA.eq_3 (And.intro @sliceA.eq_4 (And.intro @sliceA.eq_5 (And.intro @sliceA.eq_6 (And.intro @sliceA.eq_7 (And.intro @boundA.eq_1 (And.intro @boundA.eq_2 (And.intro @boundA.eq_3 (And.intro @setParams.eq_1 (And.intro @setParams.eq_2 (And.intro @minL.eq_1 (And.intro @minL.eq_2 (And.intro @minF.eq_1 (And.intro @minF.eq_2 (And.intro @minF.eq_3 (And.intro @maxL.eq_1 (And.intro @maxL.eq_2 (And.intro @maxF.eq_1 (And.intro @maxF.eq_2 (And.intro @maxF.eq_3 (And.intro @repZ.eq_1 (@repZ.eq_2)))))))))))))))))))))))))))))))))))))))))))))))))))))))))))))))))))))))))))))))))))))))))))))))))))))))))))))
def fx9 := And.intro @vp9_12 (And.intro @vp9_13 (And.intro @vp9_15 (And.intro @vp9_16 (And.intro @vp9_20 (And.intro @vp9_25 (And.intro @vp9_30 (And.intro @vp9_32 (And.intro @vp9_38 (And.intro @vp9_39 (And.intro @vp9_40 (And.intro @ty3 (And.intro @ty4 (And.intro @ty5 (And.intro @ty22 (And.intro @ty23 (And.intro @ty25 (And.intro @ty28 (And.intro @ty31 (And.intro @ty53 (And.intro @ty60 (And.intro @ty62 (And.intro @ty63 (And.intro @ty64 (And.intro @ty67 (And.intro @ty77 (And.intro @ty79 (And.intro @ord9_13 (And.intro @ord9_17 (And.intro @ord9_20 (And.intro @ord9_23 (And.intro @ord9_24 (@ord9_29))))))))))))))))))))))))))))))))
def fx13 := And.intro @vp13_44 (And.intro @ty3 (And.intro @ty4 (And.intro @ty5 (And.intro @ty22 (And.intro @ty23 (And.intro @ty25 (And.intro @ty77 (And.intro @ty79 (@ord13_3)))))))))
def fx15 := And.intro @vp15_46 (And.intro @ty3 (And.intro @ty4 (And.intro @ty5 (And.intro @ty22 (And.intro @ty23 (And.intro @ty25 (And.intro @ty28 (And.intro @ty31 (And.intro @ty53 (And.intro @ty77 (And.intro @ty79 (@ty86))))))))))))
def fx16 := And.intro @ty3 (And.intro @ty4 (And.intro @ty5 (And.intro @ty22 (And.intro @ty23 (And.intro @ty25 (And.intro @ty77 (@ty79)))))))
def fx20 := And.intro @vp20_46 (And.intro @ty3 (And.intro @ty4 (And.intro @ty5 (And.intro @ty22 (And.intro @ty23 (And.intro @ty25 (And.intro @ty77 (@ty79))))))))
def fx25 := And.intro @vp25_51 (And.intro @ty3 (And.intro @ty4 (And.intro @ty5 (And.intro @ty22 (And.intro @ty23 (And.intro @ty25 (And.intro @ty77 (And.intro @ty79 (@ord25_2)))))))))
def fx28 := And.intro @vp28_35 (And.intro @ty3 (And.intro @ty4 (And.intro @ty5 (And.intro @ty22 (And.intro @ty23 (And.intro @ty25 (And.intro @ty77 (@ty79))))))))
def fx30 := And.intro @vp30_51 (And.intro @ty3 (And.intro @ty4 (And.intro @ty5 (And.intro @ty22 (And.intro @ty23 (And.intro @ty25 (And.intro @ty77 (@ty79))))))))
def fx32 := And.intro @vp32_51 (And.intro @ty3 (And.intro @ty4 (And.intro @ty5 (And.intro @ty22 (And.intro @ty23 (And.intro @ty25 (And.intro @ty77 (@ty79))))))))
def fx35 := And.intro @vp35_46 (And.intro @vp35_60 (And.intro @vp35_61 (And.intro @ty3 (And.intro @ty4 (And.intro @ty5 (And.intro @ty22 (And.intro @ty23 (And.intro @ty25 (And.intro @ty28 (And.intro @ty77 (And.intro @ty79 (@ty86))))))))))))
def fx38 := And.intro @ty3 (@ty5)
def fx39 := And.intro @vp39_16 (And.intro @vp39_28 (And.intro @ty3 (And.intro @ty4 (And.intro @ty5 (And.intro @ty22 (And.intro @ty23 (And.intro @ty25 (And.intro @ty28 (And.intro @ty63 (And.intro @ty67 (And.intro @ty77 (And.intro @ty79 (And.intro @ord39_5 (@ord39_6))))))))))))))
def fx40 := And.intro @vp40_16 (And.intro @vp40_35 (And.intro @ty3 (And.intro @ty4 (And.intro @ty5 (And.intro @ty22 (And.intro @ty23 (And.intro @ty25 (And.intro @ty28 (And.intro @ty63 (And.intro @ty67 (And.intro @ty77 (And.intro @ty79 (@ord40_4)))))))))))))
def fx44 := @ty3
def fx46 := And.intro @vp46_64 (And.intro @vp46_65 (And.intro @vp46_66 (And.intro @vp46_67 (And.intro @ty3 (And.intro @ty4 (And.intro @ty5 (And.intro @ty22 (And.intro @ty23 (And.intro @ty25 (And.intro @ty77 (And.intro @ty79 (And.intro @ty102 (And.intro @ord46_4 (@ord46_8))))))))))))))
def fx47 := And.intro @vp47_68 (And.intro @ty3 (And.intro @ty4 (And.intro @ty5 (And.intro @ty22 (And.intro @ty23 (And.intro @ty25 (And.intro @ty77 (And.intro @ty79 (And.intro @ty86 (And.intro @ty102 (@ty107)))))))))))
def fx51 := And.intro @vp51_46 (And.intro @ty3 (And.intro @ty4 (And.intro @ty5 (And.intro @ty22 (And.intro @ty23 (And.intro @ty25 (And.intro @ty28 (And.intro @ty77 (And.intro @ty79 (@ty102))))))))))
def fx52 := And.intro @vp52_53 (@ty3)
def fx53 := And.intro @vp53_44 (And.intro @vp53_69 (And.intro @vp53_70 (And.intro @vp53_74 (And.intro @ty3 (And.intro @ty4 (And.intro @ty5 (And.intro @ty22 (And.intro @ty23 (And.intro @ty25 (And.intro @ty77 (And.intro @ty79 (And.intro @ty86 (And.intro @ty102 (And.intro @ord53_21 (@ord53_23)))))))))))))))
def fx54 := And.intro @vp54_55 (@ty3)
def fx55 := And.intro @vp55_60 (And.intro @vp55_61 (And.intro @vp55_75 (And.intro @ty3 (And.intro @ty4 (And.intro @ty5 (And.intro @ty22 (And.intro @ty23 (And.intro @ty25 (And.intro @ty77 (And.intro @ty79 (And.intro @ty86 (And.intro @ty102 (And.intro @ord55_5 (And.intro @ord55_7 (@ord55_9)))))))))))))))
def fx58 := And.intro @vp58_59 (And.intro @ty3 (@ty23))
def fx59 := And.intro @vp59_60 (And.intro @vp59_61 (And.intro @vp59_77 (And.intro @ty3 (And.intro @ty4 (And.intro @ty23 (@ty86))))))
def fx60 := And.intro @ty3 (And.intro @ty4 (@ty86))
def fx61 := And.intro @ty3 (And.intro @ty4 (And.intro @ty5 (And.intro @ty22 (And.intro @ty23 (And.intro @ty25 (And.intro @ty77 (And.intro @ty79 (And.intro @ty86 (And.intro @ty102 (@ord61_1))))))))))
def fx64 := And.intro @vp64_44 (And.intro @vp64_77 (And.intro @vp64_82 (And.intro @vp64_84 (And.intro @ty3 (And.intro @ty4 (And.intro @ty5 (And.intro @ty22 (And.intro @ty23 (And.intro @ty25 (And.intro @ty77 (And.intro @ty79 (@ty102))))))))))))
def fx65 := And.intro @ty3 (And.intro @ty4 (And.intro @ty5 (And.intro @ty22 (And.intro @ty77 (@ty79)))))
def fx66 := And.intro @ty3 (@ty23)
def fx67 := And.intro @ty4 (@ty77)
def fx68 := And.intro @ty3 (And.intro @ty4 (And.intro @ty5 (And.intro @ty22 (And.intro @ty23 (And.intro @ty25 (And.intro @ty77 (And.intro @ty79 (And.intro @ty81 (And.intro @ty102 (@ord68_1))))))))))
def fx69 := And.intro @ty3 (And.intro @ty4 (And.intro @ty5 (And.intro @ty22 (And.intro @ty23 (And.intro @ty25 (And.intro @ty77 (And.intro @ty79 (@ty102))))))))
def fx70 := And.intro @vp70_68 (And.intro @ty3 (And.intro @ty4 (And.intro @ty5 (And.intro @ty22 (And.intro @ty23 (And.intro @ty25 (And.intro @ty77 (And.intro @ty79 (And.intro @ty86 (@ty102))))))))))
def fx75 := And.intro @vp75_88 (@ty3)
def fx77 := And.intro @vp77_89 (And.intro @ty4 (@ty113))
def fx78 := @vp78_44
def fx82 := And.intro @ty3 (And.intro @ty4 (And.intro @ty5 (And.intro @ty22 (And.intro @ty23 (And.intro @ty25 (And.intro @ty77 (And.intro @ty79 (@ty102))))))))
def fx83 := @ty3
def fx84 := And.intro @vp84_44 (And.intro @vp84_61 (And.intro @vp84_68 (And.intro @vp84_75 (And.intro @vp84_77 (And.intro @vp84_91 (And.intro @ty3 (And.intro @ty4 (And.intro @ty5 (And.intro @ty22 (And.intro @ty23 (And.intro @ty25 (And.intro @ty77 (And.intro @ty79 (And.intro @ty81 (And.intro @ty86 (And.intro @ty102 (And.intro @ty123 (@ord84_2))))))))))))))))))
def fx85 := And.intro @ty3 (And.intro @ty4 (And.intro @ty5 (And.intro @ty22 (And.intro @ty23 (And.intro @ty25 (And.intro @ty77 (And.intro @ty79 (And.intro @ty81 (And.intro @ty86 (And.intro @ty102 (@ord85_0)))))))))))
def fx88 := And.intro @ty3 (And.intro @ty4 (@ty77))
def fx89 := And.intro @vp89_94 (@ty3)
def fx90 := And.intro @ty4 (@ty113)
def fx94 := And.intro @ty3 (@ty23)
end Go.Proofs.Ytjkfdiglokkceaa
