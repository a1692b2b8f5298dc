/- What the proofs of this seat ask of its program. -/
import Derived.Test.YtjkfdiglokkceaaLaw
import Derived.Test.YtjkfdiglokkceaaPaleSym
import Derived.KernelRfl
set_option maxRecDepth 100000
namespace Go.Proofs.Ytjkfdiglokkceaa
open Go Go.Proofs.Ytjkfdiglokkceaa.Pale
theorem ty3 : lawProg.ty 3 = some (⟨.int .i64, 1, 8, [.int .i64 0]⟩ : TyI) := by kernel_rfl
theorem ty4 : lawProg.ty 4 = some (⟨.bool, 1, 1, [.bool false]⟩ : TyI) := by kernel_rfl
theorem ty5 : lawProg.ty 5 = some (⟨.int .u8, 1, 1, [.int .u8 0]⟩ : TyI) := by kernel_rfl
theorem ty22 : lawProg.ty 22 = some (⟨.slice 79, 1, 24, [.vs .nil []]⟩ : TyI) := by kernel_rfl
theorem ty23 : lawProg.ty 23 = some (⟨.slice 3, 1, 24, [.vs .nil []]⟩ : TyI) := by kernel_rfl
theorem ty25 : lawProg.ty 25 = some (⟨.struct [(0, 22), (1, 23)], 2, 48, [.vs .nil [], .vs .nil []]⟩ : TyI) := by kernel_rfl
theorem ty28 : lawProg.ty 28 = some (⟨.int .i64, 1, 8, [.int .i64 0]⟩ : TyI) := by kernel_rfl
theorem ty31 : lawProg.ty 31 = some (⟨.slice 53, 1, 24, [.vs .nil []]⟩ : TyI) := by kernel_rfl
theorem ty53 : lawProg.ty 53 = some (⟨.array 2 3, 2, 16, [.int .i64 0, .int .i64 0]⟩ : TyI) := by kernel_rfl
theorem ty70 : lawProg.ty 70 = some (⟨.slice 72, 1, 24, [.vs .nil []]⟩ : TyI) := by kernel_rfl
theorem ty72 : lawProg.ty 72 = some (⟨.struct [(0, 5), (1, 3), (2, 3), (3, 23)], 4, 48, [.int .u8 0, .int .i64 0, .int .i64 0, .vs .nil []]⟩ : TyI) := by kernel_rfl
theorem ty77 : lawProg.ty 77 = some (⟨.slice 4, 1, 24, [.vs .nil []]⟩ : TyI) := by kernel_rfl
theorem ty79 : lawProg.ty 79 = some (⟨.struct [(0, 5), (1, 3), (2, 77)], 3, 40, [.int .u8 0, .int .i64 0, .vs .nil []]⟩ : TyI) := by kernel_rfl
theorem ty81 : lawProg.ty 81 = some (⟨.pointer, 1, 8, [.nilptr]⟩ : TyI) := by kernel_rfl
theorem ty86 : lawProg.ty 86 = some (⟨.struct [(0, 3), (1, 3), (2, 3), (3, 3)], 4, 32, [.int .i64 0, .int .i64 0, .int .i64 0, .int .i64 0]⟩ : TyI) := by kernel_rfl
theorem ty102 : lawProg.ty 102 = some (⟨.struct [(0, 25)], 2, 48, [.vs .nil [], .vs .nil []]⟩ : TyI) := by kernel_rfl
theorem ty107 : lawProg.ty 107 = some (⟨.func, 1, 8, [.nilfn]⟩ : TyI) := by kernel_rfl
theorem ty113 : lawProg.ty 113 = some (⟨.func, 1, 8, [.nilfn]⟩ : TyI) := by kernel_rfl
theorem ty117 : lawProg.ty 117 = some (⟨.func, 1, 8, [.nilfn]⟩ : TyI) := by kernel_rfl
theorem ty118 : lawProg.ty 118 = some (⟨.map 5 117, 1, 8, [.nilmap]⟩ : TyI) := by kernel_rfl
theorem ty123 : lawProg.ty 123 = some (⟨.int .u64, 1, 8, [.int .u64 0]⟩ : TyI) := by kernel_rfl
theorem fn10 : lawProg.func 10 = some Try.f10 := by kernel_rfl
theorem fn11 : lawProg.func 11 = some Try.f11 := by kernel_rfl
theorem fn12 : lawProg.func 12 = some Try.f12 := by kernel_rfl
theorem fn16 : lawProg.func 16 = some Try.f16 := by kernel_rfl
theorem fn19 : lawProg.func 19 = some Try.f19 := by kernel_rfl
theorem fn23 : lawProg.func 23 = some Try.f23 := by kernel_rfl
theorem fn24 : lawProg.func 24 = some Try.f24 := by kernel_rfl
theorem fn29 : lawProg.func 29 = some Try.f29 := by kernel_rfl
theorem fn31 : lawProg.func 31 = some Try.f31 := by kernel_rfl
theorem fn33 : lawProg.func 33 = some Try.f33 := by kernel_rfl
theorem fn37 : lawProg.func 37 = some Try.f37 := by kernel_rfl
theorem fn41 : lawProg.func 41 = some Try.f41 := by kernel_rfl
theorem fn42 : lawProg.func 42 = some Try.f42 := by kernel_rfl
theorem fn43 : lawProg.func 43 = some Try.f43 := by kernel_rfl
theorem fn44 : lawProg.func 44 = some Try.f44 := by kernel_rfl
theorem fn45 : lawProg.func 45 = some Try.f45 := by kernel_rfl
theorem fn46 : lawProg.func 46 = some Try.f46 := by kernel_rfl
theorem fn47 : lawProg.func 47 = some Try.f47 := by kernel_rfl
theorem fn49 : lawProg.func 49 = some Try.f49 := by kernel_rfl
theorem fn50 : lawProg.func 50 = some Try.f50 := by kernel_rfl
theorem fn53 : lawProg.func 53 = some Try.f53 := by kernel_rfl
theorem fn55 : lawProg.func 55 = some Try.f55 := by kernel_rfl
theorem fn56 : lawProg.func 56 = some Try.f56 := by kernel_rfl
theorem fn57 : lawProg.func 57 = some Try.f57 := by kernel_rfl
theorem fn59 : lawProg.func 59 = some Try.f59 := by kernel_rfl
theorem fn60 : lawProg.func 60 = some Try.f60 := by kernel_rfl
theorem fn61 : lawProg.func 61 = some Try.f61 := by kernel_rfl
theorem fn62 : lawProg.func 62 = some Try.f62 := by kernel_rfl
theorem fn63 : lawProg.func 63 = some Try.f63 := by kernel_rfl
theorem fn64 : lawProg.func 64 = some Try.f64 := by kernel_rfl
theorem fn65 : lawProg.func 65 = some Try.f65 := by kernel_rfl
theorem fn66 : lawProg.func 66 = some Try.f66 := by kernel_rfl
theorem fn67 : lawProg.func 67 = some Try.f67 := by kernel_rfl
theorem fn68 : lawProg.func 68 = some Try.f68 := by kernel_rfl
theorem fn69 : lawProg.func 69 = some Try.f69 := by kernel_rfl
theorem fn70 : lawProg.func 70 = some Try.f70 := by kernel_rfl
theorem fn71 : lawProg.func 71 = some Try.f71 := by kernel_rfl
theorem fn72 : lawProg.func 72 = some Try.f72 := by kernel_rfl
theorem fn73 : lawProg.func 73 = some Try.f73 := by kernel_rfl
theorem fn74 : lawProg.func 74 = some Try.f74 := by kernel_rfl
theorem fn75 : lawProg.func 75 = some Try.f75 := by kernel_rfl
theorem fn76 : lawProg.func 76 = some Try.f76 := by kernel_rfl
theorem fn77 : lawProg.func 77 = some Try.f77 := by kernel_rfl
theorem fn78 : lawProg.func 78 = some Try.f78 := by kernel_rfl
theorem fn79 : lawProg.func 79 = some Try.f79 := by kernel_rfl
theorem fn80 : lawProg.func 80 = some Try.f80 := by kernel_rfl
theorem fn81 : lawProg.func 81 = some Try.f81 := by kernel_rfl
theorem fn82 : lawProg.func 82 = some Try.f82 := by kernel_rfl
theorem fn83 : lawProg.func 83 = some Try.f83 := by kernel_rfl
theorem fn84 : lawProg.func 84 = some Try.f84 := by kernel_rfl
theorem fn85 : lawProg.func 85 = some Try.f85 := by kernel_rfl
theorem fn86 : lawProg.func 86 = some Try.f86 := by kernel_rfl
theorem fn88 : lawProg.func 88 = some Try.f88 := by kernel_rfl
theorem fn89 : lawProg.func 89 = some Try.f89 := by kernel_rfl
theorem fn90 : lawProg.func 90 = some Try.f90 := by kernel_rfl
theorem fn91 : lawProg.func 91 = some Try.f91 := by kernel_rfl
theorem fn94 : lawProg.func 94 = some Try.f94 := by kernel_rfl
theorem bookNo10 : bookL.get 10 = none := by kernel_rfl
theorem memo10 (args : List AVal) : lawProg.memo 10 args = none := by show lookB bookL 10 args = none; unfold lookB; rw [bookNo10]
theorem bookNo11 : bookL.get 11 = none := by kernel_rfl
theorem memo11 (args : List AVal) : lawProg.memo 11 args = none := by show lookB bookL 11 args = none; unfold lookB; rw [bookNo11]
theorem memo12 : lawProg.memo 12 [] = some (.bool true, true) := by kernel_rfl
theorem bookNo16 : bookL.get 16 = none := by kernel_rfl
theorem memo16 (args : List AVal) : lawProg.memo 16 args = none := by show lookB bookL 16 args = none; unfold lookB; rw [bookNo16]
theorem bookNo19 : bookL.get 19 = none := by kernel_rfl
theorem memo19 (args : List AVal) : lawProg.memo 19 args = none := by show lookB bookL 19 args = none; unfold lookB; rw [bookNo19]
theorem bookNo23 : bookL.get 23 = none := by kernel_rfl
theorem memo23 (args : List AVal) : lawProg.memo 23 args = none := by show lookB bookL 23 args = none; unfold lookB; rw [bookNo23]
theorem bookNo24 : bookL.get 24 = none := by kernel_rfl
theorem memo24 (args : List AVal) : lawProg.memo 24 args = none := by show lookB bookL 24 args = none; unfold lookB; rw [bookNo24]
theorem bookNo29 : bookL.get 29 = none := by kernel_rfl
theorem memo29 (args : List AVal) : lawProg.memo 29 args = none := by show lookB bookL 29 args = none; unfold lookB; rw [bookNo29]
theorem bookNo31 : bookL.get 31 = none := by kernel_rfl
theorem memo31 (args : List AVal) : lawProg.memo 31 args = none := by show lookB bookL 31 args = none; unfold lookB; rw [bookNo31]
theorem bookNo33 : bookL.get 33 = none := by kernel_rfl
theorem memo33 (args : List AVal) : lawProg.memo 33 args = none := by show lookB bookL 33 args = none; unfold lookB; rw [bookNo33]
theorem bookNo37 : bookL.get 37 = none := by kernel_rfl
theorem memo37 (args : List AVal) : lawProg.memo 37 args = none := by show lookB bookL 37 args = none; unfold lookB; rw [bookNo37]
theorem bookNo41 : bookL.get 41 = none := by kernel_rfl
theorem memo41 (args : List AVal) : lawProg.memo 41 args = none := by show lookB bookL 41 args = none; unfold lookB; rw [bookNo41]
theorem bookNo42 : bookL.get 42 = none := by kernel_rfl
theorem memo42 (args : List AVal) : lawProg.memo 42 args = none := by show lookB bookL 42 args = none; unfold lookB; rw [bookNo42]
theorem bookNo43 : bookL.get 43 = none := by kernel_rfl
theorem memo43 (args : List AVal) : lawProg.memo 43 args = none := by show lookB bookL 43 args = none; unfold lookB; rw [bookNo43]
theorem bookNo44 : bookL.get 44 = none := by kernel_rfl
theorem memo44 (args : List AVal) : lawProg.memo 44 args = none := by show lookB bookL 44 args = none; unfold lookB; rw [bookNo44]
theorem bookNo45 : bookL.get 45 = none := by kernel_rfl
theorem memo45 (args : List AVal) : lawProg.memo 45 args = none := by show lookB bookL 45 args = none; unfold lookB; rw [bookNo45]
theorem bookNo46 : bookL.get 46 = none := by kernel_rfl
theorem memo46 (args : List AVal) : lawProg.memo 46 args = none := by show lookB bookL 46 args = none; unfold lookB; rw [bookNo46]
theorem bookNo47 : bookL.get 47 = none := by kernel_rfl
theorem memo47 (args : List AVal) : lawProg.memo 47 args = none := by show lookB bookL 47 args = none; unfold lookB; rw [bookNo47]
theorem bookNo49 : bookL.get 49 = none := by kernel_rfl
theorem memo49 (args : List AVal) : lawProg.memo 49 args = none := by show lookB bookL 49 args = none; unfold lookB; rw [bookNo49]
theorem bookNo50 : bookL.get 50 = none := by kernel_rfl
theorem memo50 (args : List AVal) : lawProg.memo 50 args = none := by show lookB bookL 50 args = none; unfold lookB; rw [bookNo50]
theorem bookNo53 : bookL.get 53 = none := by kernel_rfl
theorem memo53 (args : List AVal) : lawProg.memo 53 args = none := by show lookB bookL 53 args = none; unfold lookB; rw [bookNo53]
theorem bookNo55 : bookL.get 55 = none := by kernel_rfl
theorem memo55 (args : List AVal) : lawProg.memo 55 args = none := by show lookB bookL 55 args = none; unfold lookB; rw [bookNo55]
theorem bookNo56 : bookL.get 56 = none := by kernel_rfl
theorem memo56 (args : List AVal) : lawProg.memo 56 args = none := by show lookB bookL 56 args = none; unfold lookB; rw [bookNo56]
theorem bookNo57 : bookL.get 57 = none := by kernel_rfl
theorem memo57 (args : List AVal) : lawProg.memo 57 args = none := by show lookB bookL 57 args = none; unfold lookB; rw [bookNo57]
theorem bookNo59 : bookL.get 59 = none := by kernel_rfl
theorem memo59 (args : List AVal) : lawProg.memo 59 args = none := by show lookB bookL 59 args = none; unfold lookB; rw [bookNo59]
theorem bookNo60 : bookL.get 60 = none := by kernel_rfl
theorem memo60 (args : List AVal) : lawProg.memo 60 args = none := by show lookB bookL 60 args = none; unfold lookB; rw [bookNo60]
theorem bookNo61 : bookL.get 61 = none := by kernel_rfl
theorem memo61 (args : List AVal) : lawProg.memo 61 args = none := by show lookB bookL 61 args = none; unfold lookB; rw [bookNo61]
theorem bookNo62 : bookL.get 62 = none := by kernel_rfl
theorem memo62 (args : List AVal) : lawProg.memo 62 args = none := by show lookB bookL 62 args = none; unfold lookB; rw [bookNo62]
theorem bookNo63 : bookL.get 63 = none := by kernel_rfl
theorem memo63 (args : List AVal) : lawProg.memo 63 args = none := by show lookB bookL 63 args = none; unfold lookB; rw [bookNo63]
theorem bookNo64 : bookL.get 64 = none := by kernel_rfl
theorem memo64 (args : List AVal) : lawProg.memo 64 args = none := by show lookB bookL 64 args = none; unfold lookB; rw [bookNo64]
theorem bookNo65 : bookL.get 65 = none := by kernel_rfl
theorem memo65 (args : List AVal) : lawProg.memo 65 args = none := by show lookB bookL 65 args = none; unfold lookB; rw [bookNo65]
theorem bookNo66 : bookL.get 66 = none := by kernel_rfl
theorem memo66 (args : List AVal) : lawProg.memo 66 args = none := by show lookB bookL 66 args = none; unfold lookB; rw [bookNo66]
theorem bookNo67 : bookL.get 67 = none := by kernel_rfl
theorem memo67 (args : List AVal) : lawProg.memo 67 args = none := by show lookB bookL 67 args = none; unfold lookB; rw [bookNo67]
theorem bookNo68 : bookL.get 68 = none := by kernel_rfl
theorem memo68 (args : List AVal) : lawProg.memo 68 args = none := by show lookB bookL 68 args = none; unfold lookB; rw [bookNo68]
theorem bookNo69 : bookL.get 69 = none := by kernel_rfl
theorem memo69 (args : List AVal) : lawProg.memo 69 args = none := by show lookB bookL 69 args = none; unfold lookB; rw [bookNo69]
theorem bookNo70 : bookL.get 70 = none := by kernel_rfl
theorem memo70 (args : List AVal) : lawProg.memo 70 args = none := by show lookB bookL 70 args = none; unfold lookB; rw [bookNo70]
theorem bookNo71 : bookL.get 71 = none := by kernel_rfl
theorem memo71 (args : List AVal) : lawProg.memo 71 args = none := by show lookB bookL 71 args = none; unfold lookB; rw [bookNo71]
theorem bookNo72 : bookL.get 72 = none := by kernel_rfl
theorem memo72 (args : List AVal) : lawProg.memo 72 args = none := by show lookB bookL 72 args = none; unfold lookB; rw [bookNo72]
theorem bookNo73 : bookL.get 73 = none := by kernel_rfl
theorem memo73 (args : List AVal) : lawProg.memo 73 args = none := by show lookB bookL 73 args = none; unfold lookB; rw [bookNo73]
theorem bookNo74 : bookL.get 74 = none := by kernel_rfl
theorem memo74 (args : List AVal) : lawProg.memo 74 args = none := by show lookB bookL 74 args = none; unfold lookB; rw [bookNo74]
theorem bookNo75 : bookL.get 75 = none := by kernel_rfl
theorem memo75 (args : List AVal) : lawProg.memo 75 args = none := by show lookB bookL 75 args = none; unfold lookB; rw [bookNo75]
theorem bookNo76 : bookL.get 76 = none := by kernel_rfl
theorem memo76 (args : List AVal) : lawProg.memo 76 args = none := by show lookB bookL 76 args = none; unfold lookB; rw [bookNo76]
theorem bookNo77 : bookL.get 77 = none := by kernel_rfl
theorem memo77 (args : List AVal) : lawProg.memo 77 args = none := by show lookB bookL 77 args = none; unfold lookB; rw [bookNo77]
theorem bookNo78 : bookL.get 78 = none := by kernel_rfl
theorem memo78 (args : List AVal) : lawProg.memo 78 args = none := by show lookB bookL 78 args = none; unfold lookB; rw [bookNo78]
theorem bookNo79 : bookL.get 79 = none := by kernel_rfl
theorem memo79 (args : List AVal) : lawProg.memo 79 args = none := by show lookB bookL 79 args = none; unfold lookB; rw [bookNo79]
theorem bookNo80 : bookL.get 80 = none := by kernel_rfl
theorem memo80 (args : List AVal) : lawProg.memo 80 args = none := by show lookB bookL 80 args = none; unfold lookB; rw [bookNo80]
theorem bookNo81 : bookL.get 81 = none := by kernel_rfl
theorem memo81 (args : List AVal) : lawProg.memo 81 args = none := by show lookB bookL 81 args = none; unfold lookB; rw [bookNo81]
theorem bookNo82 : bookL.get 82 = none := by kernel_rfl
theorem memo82 (args : List AVal) : lawProg.memo 82 args = none := by show lookB bookL 82 args = none; unfold lookB; rw [bookNo82]
theorem bookNo83 : bookL.get 83 = none := by kernel_rfl
theorem memo83 (args : List AVal) : lawProg.memo 83 args = none := by show lookB bookL 83 args = none; unfold lookB; rw [bookNo83]
theorem bookNo84 : bookL.get 84 = none := by kernel_rfl
theorem memo84 (args : List AVal) : lawProg.memo 84 args = none := by show lookB bookL 84 args = none; unfold lookB; rw [bookNo84]
theorem bookNo85 : bookL.get 85 = none := by kernel_rfl
theorem memo85 (args : List AVal) : lawProg.memo 85 args = none := by show lookB bookL 85 args = none; unfold lookB; rw [bookNo85]
theorem bookNo86 : bookL.get 86 = none := by kernel_rfl
theorem memo86 (args : List AVal) : lawProg.memo 86 args = none := by show lookB bookL 86 args = none; unfold lookB; rw [bookNo86]
theorem bookNo88 : bookL.get 88 = none := by kernel_rfl
theorem memo88 (args : List AVal) : lawProg.memo 88 args = none := by show lookB bookL 88 args = none; unfold lookB; rw [bookNo88]
theorem bookNo89 : bookL.get 89 = none := by kernel_rfl
theorem memo89 (args : List AVal) : lawProg.memo 89 args = none := by show lookB bookL 89 args = none; unfold lookB; rw [bookNo89]
theorem bookNo90 : bookL.get 90 = none := by kernel_rfl
theorem memo90 (args : List AVal) : lawProg.memo 90 args = none := by show lookB bookL 90 args = none; unfold lookB; rw [bookNo90]
theorem bookNo91 : bookL.get 91 = none := by kernel_rfl
theorem memo91 (args : List AVal) : lawProg.memo 91 args = none := by show lookB bookL 91 args = none; unfold lookB; rw [bookNo91]
theorem bookNo94 : bookL.get 94 = none := by kernel_rfl
theorem memo94 (args : List AVal) : lawProg.memo 94 args = none := by show lookB bookL 94 args = none; unfold lookB; rw [bookNo94]
theorem vp10_11 : lawProg.isVal 10 11 = true := by kernel_rfl
theorem vp10_12 : lawProg.isVal 10 12 = true := by kernel_rfl
theorem vp10_16 : lawProg.isVal 10 16 = true := by kernel_rfl
theorem vp10_19 : lawProg.isVal 10 19 = true := by kernel_rfl
theorem vp10_37 : lawProg.isVal 10 37 = true := by kernel_rfl
theorem vp10_41 : lawProg.isVal 10 41 = true := by kernel_rfl
theorem vp10_42 : lawProg.isVal 10 42 = true := by kernel_rfl
theorem vp10_43 : lawProg.isVal 10 43 = true := by kernel_rfl
theorem vp24_23 : lawProg.isVal 24 23 = true := by kernel_rfl
theorem vp24_45 : lawProg.isVal 24 45 = true := by kernel_rfl
theorem vp24_50 : lawProg.isVal 24 50 = true := by kernel_rfl
theorem vp29_16 : lawProg.isVal 29 16 = false := by kernel_rfl
theorem vp29_24 : lawProg.isVal 29 24 = true := by kernel_rfl
theorem vp29_45 : lawProg.isVal 29 45 = true := by kernel_rfl
theorem vp29_49 : lawProg.isVal 29 49 = false := by kernel_rfl
theorem vp31_16 : lawProg.isVal 31 16 = false := by kernel_rfl
theorem vp31_56 : lawProg.isVal 31 56 = true := by kernel_rfl
theorem vp31_57 : lawProg.isVal 31 57 = true := by kernel_rfl
theorem vp33_16 : lawProg.isVal 33 16 = false := by kernel_rfl
theorem vp33_45 : lawProg.isVal 33 45 = true := by kernel_rfl
theorem vp33_56 : lawProg.isVal 33 56 = true := by kernel_rfl
theorem vp41_46 : lawProg.isVal 41 46 = false := by kernel_rfl
theorem vp41_62 : lawProg.isVal 41 62 = false := by kernel_rfl
theorem vp43_24 : lawProg.isVal 43 24 = true := by kernel_rfl
theorem vp43_63 : lawProg.isVal 43 63 = true := by kernel_rfl
theorem vp46_64 : lawProg.isVal 46 64 = false := by kernel_rfl
theorem vp46_65 : lawProg.isVal 46 65 = false := by kernel_rfl
theorem vp46_66 : lawProg.isVal 46 66 = false := by kernel_rfl
theorem vp46_67 : lawProg.isVal 46 67 = false := by kernel_rfl
theorem vp47_68 : lawProg.isVal 47 68 = false := by kernel_rfl
theorem vp49_71 : lawProg.isVal 49 71 = true := by kernel_rfl
theorem vp49_72 : lawProg.isVal 49 72 = true := by kernel_rfl
theorem vp50_57 : lawProg.isVal 50 57 = true := by kernel_rfl
theorem vp50_73 : lawProg.isVal 50 73 = true := by kernel_rfl
theorem vp53_44 : lawProg.isVal 53 44 = true := by kernel_rfl
theorem vp53_69 : lawProg.isVal 53 69 = false := by kernel_rfl
theorem vp53_70 : lawProg.isVal 53 70 = false := by kernel_rfl
theorem vp53_74 : lawProg.isVal 53 74 = true := by kernel_rfl
theorem vp55_60 : lawProg.isVal 55 60 = false := by kernel_rfl
theorem vp55_61 : lawProg.isVal 55 61 = false := by kernel_rfl
theorem vp55_75 : lawProg.isVal 55 75 = true := by kernel_rfl
theorem vp56_24 : lawProg.isVal 56 24 = true := by kernel_rfl
theorem vp56_76 : lawProg.isVal 56 76 = true := by kernel_rfl
theorem vp59_60 : lawProg.isVal 59 60 = false := by kernel_rfl
theorem vp59_61 : lawProg.isVal 59 61 = false := by kernel_rfl
theorem vp59_77 : lawProg.isVal 59 77 = false := by kernel_rfl
theorem vp63_29 : lawProg.isVal 63 29 = true := by kernel_rfl
theorem vp63_31 : lawProg.isVal 63 31 = true := by kernel_rfl
theorem vp63_33 : lawProg.isVal 63 33 = true := by kernel_rfl
theorem vp64_44 : lawProg.isVal 64 44 = true := by kernel_rfl
theorem vp64_77 : lawProg.isVal 64 77 = false := by kernel_rfl
theorem vp64_82 : lawProg.isVal 64 82 = false := by kernel_rfl
theorem vp64_84 : lawProg.isVal 64 84 = false := by kernel_rfl
theorem vp70_68 : lawProg.isVal 70 68 = false := by kernel_rfl
theorem vp71_86 : lawProg.isVal 71 86 = true := by kernel_rfl
theorem vp73_86 : lawProg.isVal 73 86 = true := by kernel_rfl
theorem vp75_88 : lawProg.isVal 75 88 = true := by kernel_rfl
theorem vp76_23 : lawProg.isVal 76 23 = true := by kernel_rfl
theorem vp77_89 : lawProg.isVal 77 89 = false := by kernel_rfl
theorem vp78_44 : lawProg.isVal 78 44 = true := by kernel_rfl
theorem vp79_53 : lawProg.isVal 79 53 = false := by kernel_rfl
theorem vp80_55 : lawProg.isVal 80 55 = false := by kernel_rfl
theorem vp81_59 : lawProg.isVal 81 59 = false := by kernel_rfl
theorem vp84_44 : lawProg.isVal 84 44 = true := by kernel_rfl
theorem vp84_61 : lawProg.isVal 84 61 = false := by kernel_rfl
theorem vp84_68 : lawProg.isVal 84 68 = false := by kernel_rfl
theorem vp84_75 : lawProg.isVal 84 75 = true := by kernel_rfl
theorem vp84_77 : lawProg.isVal 84 77 = false := by kernel_rfl
theorem vp84_91 : lawProg.isVal 84 91 = true := by kernel_rfl
theorem vp89_94 : lawProg.isVal 89 94 = false := by kernel_rfl
theorem ord19_6 : lawProg.ord 19 6 = some ⟨[(0, []), (1, []), (2, []), (3, []), (4, []), (5, []), (6, []), (7, []), (8, []), (9, []), (10, [])], [[], [0], [], [0, 1, 2], [0, 1, 2, 3], [], [5], [], [5, 6, 7], [5, 6, 7, 8], [0, 1, 2, 3, 4, 5, 6, 7, 8, 9]]⟩ := by kernel_rfl
theorem ord19_11 : lawProg.ord 19 11 = some ⟨[(0, []), (1, []), (2, []), (3, []), (4, []), (5, []), (6, []), (7, []), (8, []), (9, []), (10, []), (11, []), (12, [6, 9]), (13, [])], [[], [0], [], [0, 1, 2], [0, 1, 2, 3], [], [5], [], [5, 6, 7], [5, 6, 7, 8], [], [], [0, 1, 2, 3, 4, 10, 11], [0, 1, 2, 3, 4, 5, 6, 7, 8, 9, 10, 11, 12]]⟩ := by kernel_rfl
theorem ord19_17 : lawProg.ord 19 17 = some ⟨[(0, []), (1, []), (2, []), (3, []), (4, []), (5, []), (6, []), (7, []), (8, []), (9, []), (10, [])], [[], [0], [], [0, 1, 2], [0, 1, 2, 3], [], [5], [], [5, 6, 7], [5, 6, 7, 8], [0, 1, 2, 3, 4, 5, 6, 7, 8, 9]]⟩ := by kernel_rfl
theorem ord31_16 : lawProg.ord 31 16 = some ⟨[(0, []), (1, []), (2, []), (3, []), (4, []), (5, []), (6, []), (7, []), (8, []), (9, []), (10, []), (11, [])], [[], [0], [], [0, 1, 2], [0, 1, 2, 3], [0, 1, 2, 3, 4], [], [6], [], [6, 7, 8], [0, 1, 2, 3, 4, 5, 6, 7, 8, 9], [0, 1, 2, 3, 4, 5, 6, 7, 8, 9, 10]]⟩ := by kernel_rfl
theorem ord33_17 : lawProg.ord 33 17 = some ⟨[(0, []), (1, []), (2, []), (3, []), (4, []), (5, []), (6, []), (7, []), (8, []), (9, []), (10, [])], [[], [0], [], [], [2, 3], [], [], [5, 6], [5, 6, 7], [0, 1, 2, 3, 4, 5, 6, 7, 8], [0, 1, 2, 3, 4, 5, 6, 7, 8, 9]]⟩ := by kernel_rfl
theorem ord37_6 : lawProg.ord 37 6 = some ⟨[(0, []), (1, []), (2, []), (3, []), (4, []), (5, []), (6, []), (7, []), (8, [])], [[], [], [0, 1], [0, 1, 2], [], [], [4, 5], [4, 5, 6], [0, 1, 2, 3, 4, 5, 6, 7]]⟩ := by kernel_rfl
theorem ord43_7 : lawProg.ord 43 7 = some ⟨[(0, []), (1, []), (2, []), (3, []), (4, []), (10, []), (5, []), (6, []), (7, []), (8, []), (9, []), (11, []), (12, []), (13, [])], [[], [], [], [1, 2], [1, 2, 3], [0, 1, 2, 3, 4], [0, 1, 2, 3, 4, 5], [0, 1, 2, 3, 4, 5, 6], [0, 1, 2, 3, 4, 5, 6], [0, 1, 2, 3, 4, 5, 6], [], [0, 1, 2, 3, 4, 5, 6, 7, 10], [0, 1, 2, 3, 4, 5, 6, 7, 8, 10, 11], [0, 1, 2, 3, 4, 5, 6, 7, 8, 9, 10, 11, 12]]⟩ := by kernel_rfl
theorem ord43_10 : lawProg.ord 43 10 = some ⟨[(0, []), (1, []), (2, []), (3, []), (4, [0]), (5, []), (6, [])], [[], [], [], [2], [1, 2, 3], [0, 1, 2, 3, 4], [0, 1, 2, 3, 4, 5]]⟩ := by kernel_rfl
theorem ord46_4 : lawProg.ord 46 4 = some ⟨[(0, []), (1, []), (3, []), (4, []), (2, [4]), (5, []), (6, []), (7, []), (8, []), (9, [])], [[], [0], [0, 1], [], [3], [0, 1, 2, 3, 4], [0, 1, 2, 3, 4, 5], [0, 1, 2, 3, 4, 5, 6], [0, 1, 2, 3, 4, 5, 6, 7], [0, 1, 2, 3, 4, 5, 6, 7, 8]]⟩ := by kernel_rfl
theorem ord46_8 : lawProg.ord 46 8 = some ⟨[(0, []), (1, []), (2, []), (3, []), (4, []), (5, []), (6, []), (7, []), (8, []), (9, []), (10, []), (11, []), (12, []), (13, []), (14, []), (15, [4]), (16, []), (17, []), (18, [])], [[], [0], [0, 1], [0, 1, 2], [0, 1, 2, 3], [], [], [6], [6, 7], [6, 7, 8], [6, 7, 8, 9], [], [6, 7, 8, 9, 10, 11], [6, 7, 8, 9, 10, 11, 12], [6, 7, 8, 9, 10, 11, 12, 13], [6, 7, 8, 9, 10, 11, 12, 13, 14], [0, 1, 2, 3, 4, 5, 6, 7, 8, 9, 10, 11, 12, 13, 14, 15], [0, 1, 2, 3, 4, 5, 6, 7, 8, 9, 10, 11, 12, 13, 14, 15, 16], [0, 1, 2, 3, 4, 5, 6, 7, 8, 9, 10, 11, 12, 13, 14, 15, 16, 17]]⟩ := by kernel_rfl
theorem ord49_26 : lawProg.ord 49 26 = some ⟨[(0, []), (1, []), (2, []), (3, []), (4, []), (5, []), (6, []), (7, []), (8, []), (9, [])], [[], [0], [], [], [], [4], [4, 5], [3, 4, 5, 6], [0, 1, 2, 3, 4, 5, 6, 7], [0, 1, 2, 3, 4, 5, 6, 7, 8]]⟩ := by kernel_rfl
theorem ord50_8 : lawProg.ord 50 8 = some ⟨[(0, []), (1, []), (2, []), (3, []), (4, []), (5, []), (6, []), (7, []), (8, []), (9, []), (10, []), (11, []), (12, []), (13, []), (14, []), (15, []), (16, []), (17, [])], [[], [0], [0, 1], [0, 1, 2], [0, 1, 2, 3], [0, 1, 2, 3, 4], [0, 1, 2, 3, 4, 5], [0, 1, 2, 3], [0, 1, 2, 3, 7], [0, 1, 2, 3, 7, 8], [0, 1, 2, 3, 4, 5, 6, 7, 8, 9], [0, 1, 2, 3, 4, 5, 6, 7, 8, 9, 10], [0, 1, 2, 3, 4, 5, 6, 7, 8, 9, 10, 11], [0, 1, 2, 3, 4, 5, 6, 7, 8, 9, 10, 11, 12], [0, 1, 2, 3, 4, 5, 6, 7, 8, 9, 10, 11, 12, 13], [0, 1, 2, 3, 4, 5, 6, 7, 8, 9, 10, 11, 12, 13, 14], [0, 1, 2, 3, 4, 5, 6, 7, 8, 9, 10, 11, 12, 13, 14, 15], [0, 1, 2, 3, 4, 5, 6, 7, 8, 9, 10, 11, 12, 13, 14, 15, 16]]⟩ := by kernel_rfl
theorem ord53_21 : lawProg.ord 53 21 = some ⟨[(0, []), (1, []), (2, []), (3, []), (4, []), (5, []), (6, []), (7, []), (8, []), (9, []), (10, []), (11, []), (12, [])], [[], [0], [0, 1], [0, 1, 2], [0, 1, 2, 3], [], [], [], [7], [7, 8], [6, 7, 8, 9], [0, 1, 2, 3, 4, 5, 6, 7, 8, 9, 10], [0, 1, 2, 3, 4, 5, 6, 7, 8, 9, 10, 11]]⟩ := by kernel_rfl
theorem ord53_23 : lawProg.ord 53 23 = some ⟨[(0, []), (1, []), (2, []), (3, []), (4, []), (5, []), (6, []), (7, []), (8, []), (9, []), (10, []), (11, []), (12, []), (13, [])], [[], [0], [0, 1], [0, 1, 2], [0, 1, 2, 3], [], [5], [0, 1, 2, 3, 4, 5, 6], [0, 1, 2, 3, 4, 5, 6, 7], [0, 1, 2, 3, 4, 5, 6, 7, 8], [], [10], [0, 1, 2, 3, 4, 5, 6, 7, 8, 9, 10, 11], [0, 1, 2, 3, 4, 5, 6, 7, 8, 9, 10, 11, 12]]⟩ := by kernel_rfl
theorem ord55_5 : lawProg.ord 55 5 = some ⟨[(0, []), (1, []), (2, []), (3, []), (4, []), (5, []), (6, []), (7, []), (8, [])], [[], [0], [0, 1], [0, 1, 2], [0, 1, 2, 3], [], [5], [0, 1, 2, 3, 4, 5, 6], [0, 1, 2, 3, 4, 5, 6, 7]]⟩ := by kernel_rfl
theorem ord55_7 : lawProg.ord 55 7 = some ⟨[(0, []), (1, []), (2, []), (3, []), (4, []), (5, []), (6, []), (7, []), (8, []), (9, []), (10, []), (11, []), (12, []), (13, []), (14, []), (15, [])], [[], [0], [0, 1], [0, 1, 2], [0, 1, 2, 3], [], [5], [], [7], [], [9], [9, 10], [9, 10, 11], [7, 8, 9, 10, 11, 12], [0, 1, 2, 3, 4, 5, 6, 7, 8, 9, 10, 11, 12, 13], [0, 1, 2, 3, 4, 5, 6, 7, 8, 9, 10, 11, 12, 13, 14]]⟩ := by kernel_rfl
theorem ord55_9 : lawProg.ord 55 9 = some ⟨[(0, []), (1, []), (2, []), (3, []), (4, []), (5, []), (6, []), (7, [])], [[], [0], [0, 1], [0, 1, 2], [], [4], [0, 1, 2, 3, 4, 5], [0, 1, 2, 3, 4, 5, 6]]⟩ := by kernel_rfl
theorem ord61_1 : lawProg.ord 61 1 = some ⟨[(0, []), (1, []), (2, []), (3, []), (4, []), (5, []), (6, []), (7, []), (8, []), (9, []), (10, []), (11, []), (12, []), (13, [])], [[], [0], [0, 1], [0, 1, 2], [0, 1, 2, 3], [], [5], [], [7], [], [9], [7, 8, 9, 10], [0, 1, 2, 3, 4, 5, 6, 7, 8, 9, 10, 11], [0, 1, 2, 3, 4, 5, 6, 7, 8, 9, 10, 11, 12]]⟩ := by kernel_rfl
theorem ord68_1 : lawProg.ord 68 1 = some ⟨[(0, []), (1, []), (2, []), (3, []), (4, []), (5, []), (6, []), (7, []), (8, []), (9, []), (10, [])], [[], [0], [0, 1], [0, 1, 2], [0, 1, 2, 3], [], [0, 1, 2, 3, 4, 5], [0, 1, 2, 3, 4, 5, 6], [0, 1, 2, 3, 4, 5, 6, 7], [], [0, 1, 2, 3, 4, 5, 6, 7, 8, 9]]⟩ := by kernel_rfl
theorem ord84_2 : lawProg.ord 84 2 = some ⟨[(0, []), (1, []), (2, []), (3, []), (4, []), (5, []), (6, []), (7, []), (8, []), (9, []), (10, []), (11, []), (12, []), (13, []), (14, []), (15, []), (16, []), (17, []), (18, []), (19, []), (20, []), (21, []), (22, []), (23, []), (24, []), (25, [])], [[], [0], [0, 1], [0, 1, 2], [0, 1, 2, 3], [0, 1, 2, 3, 4], [0, 1, 2, 3, 4, 5], [0, 1, 2, 3, 4, 5, 6], [0, 1, 2, 3, 4, 5, 6, 7], [0, 1, 2, 3, 4, 5, 6, 7, 8], [0, 1, 2, 3, 4, 5, 6, 7, 8, 9], [0, 1, 2, 3, 4, 5, 6, 7, 8, 9, 10], [0, 1, 2, 3, 4, 5, 6, 7, 8, 9, 10, 11], [0, 1, 2, 3, 4, 5, 6, 7, 8, 9, 10, 11, 12], [0, 1, 2, 3, 4, 5, 6, 7, 8, 9, 10, 11, 12, 13], [0, 1, 2, 3, 4, 5, 6, 7, 8, 9, 10, 11], [0, 1, 2, 3, 4, 5, 6, 7, 8, 9, 10, 11, 15], [0, 1, 2, 3, 4, 5, 6, 7, 8, 9, 10, 11, 15, 16], [0, 1, 2, 3, 4, 5, 6, 7, 8, 9, 10, 11, 12, 13, 14, 15, 16, 17], [0, 1, 2, 3, 4, 5, 6, 7, 8, 9, 10, 11, 12, 13, 14, 15, 16, 17, 18], [0, 1, 2, 3, 4, 5, 6, 7, 8, 9, 10, 11, 12, 13, 14, 15, 16, 17, 18, 19], [0, 1, 2, 3, 4, 5, 6, 7, 8, 9, 10, 11, 12, 13, 14, 15, 16, 17, 18, 19, 20], [0, 1, 2, 3, 4, 5, 6, 7, 8, 9, 10, 11, 12, 13, 14, 15, 16, 17, 18, 19, 20, 21], [0, 1, 2, 3, 4, 5, 6, 7, 8, 9, 10, 11, 12, 13, 14, 15, 16, 17, 18, 19, 20, 21, 22], [0, 1, 2, 3, 4, 5, 6, 7, 8, 9, 10, 11, 12, 13, 14, 15, 16, 17, 18, 19, 20, 21, 22, 23], [0, 1, 2, 3, 4, 5, 6, 7, 8, 9, 10, 11, 12, 13, 14, 15, 16, 17, 18, 19, 20, 21, 22, 23, 24]]⟩ := by kernel_rfl
theorem ord85_0 : lawProg.ord 85 0 = some ⟨[(0, []), (1, []), (2, []), (3, []), (4, []), (5, []), (6, []), (7, []), (8, []), (9, []), (10, [])], [[], [0], [0, 1], [0, 1, 2], [0, 1, 2, 3], [], [0, 1, 2, 3, 4, 5], [0, 1, 2, 3, 4, 5, 6], [0, 1, 2, 3, 4, 5, 6, 7], [0, 1, 2, 3, 4, 5, 6, 7, 8], []]⟩ := by kernel_rfl
set_option linter.defProp false
def sx := And.intro @q_seq (And.intro @q_cond (And.intro @q_block (And.intro @q_region (And.intro @q_drawn (And.intro @q_skip (And.intro @q_exit (And.intro @q_ret (And.intro @lenB_vs (And.intro @lenB_sl (And.intro @lenB_str (And.intro @cells_bool (And.intro @one_bool (And.intro @cells_int (And.intro @one_int (And.intro @cells_str (And.intro @one_str (And.intro @cells_ptr (And.intro @one_ptr (And.intro @cells_nilptr (And.intro @one_nilptr (And.intro @cells_slice (And.intro @one_slice (And.intro @cells_vs (And.intro @one_vs (And.intro @cells_vptr (And.intro @one_vptr (And.intro @cells_func (And.intro @one_func (And.intro @cells_yield (And.intro @one_yield (And.intro @cells_nilfn (And.intro @one_nilfn (And.intro @cells_nilmap (And.intro @one_nilmap (And.intro @cells_map (And.intro @one_map (And.intro @cells_agg (And.intro @Tr.get_set (And.intro @AMem.get_put (And.intro @AMem.get_push (And.intro @AMem.next_put (And.intro @AMem.next_push (And.intro @AMem.get_empty (And.intro @next_empty (And.intro @Option.map_some.{0, 0} (And.intro @Option.map_none.{0, 0} (And.intro @Option.bind_some.{0, 0} (And.intro @Nat.zero_add (And.intro @Nat.add_zero (And.intro @Nat.mul_one (And.intro @Nat.one_mul (And.intro @Nat.zero_mul (And.intro @and_self (And.intro @and_true (And.intro @true_and (And.intro @false_and (And.intro @and_false (And.intro @Bool.and_true (And.intro @Bool.true_and (And.intro @Bool.and_false (And.intro @Bool.false_and (And.intro @if_true.{1} (And.intro @if_false.{1} (And.intro @Bool.false_eq_true (And.intro @Bool.not_true (And.intro @Bool.not_false (And.intro @BEq.rfl.{0} (And.intro @beq_true_true (And.intro @beq_true_false (And.intro @beq_false_true (And.intro @beq_false_false (And.intro @List.length_cons.{0} (And.intro @List.length_nil.{0} (And.intro @List.all_cons.{0} (And.intro @List.all_nil.{0} (And.intro @List.getElem?_cons_zero.{0} (And.intro @List.getElem?_cons_succ.{0} (And.intro @List.getElem?_nil.{0} (And.intro @List.getElem?_toArray.{0} (And.intro @List.take_succ_cons.{0} (And.intro @List.take_zero.{0} (And.intro @List.drop_succ_cons.{0} (And.intro @List.drop_zero.{0} (And.intro @List.set_cons_zero.{0} (And.intro @List.set_cons_succ.{0} (And.intro @List.append_nil.{0} (And.intro @List.nil_append.{0} (And.intro @List.cons_append.{0} (And.intro @decide_true (And.intro @decide_false (And.intro @decide_eq_true_eq (And.intro @Option.isNone_none.{0} (And.intro @Option.isNone_some.{0} (And.intro @Option.isSome_none.{0} (And.intro @Option.isSome_some.{0} (And.intro @Bool.or_true (And.intro @Bool.true_or (And.intro @Bool.or_false (And.intro @Bool.false_or (And.intro @ne_eq.{1} (And.intro @not_false_eq_true (And.intro @not_true_eq_false (And.intro @eq_self.{1} (@beq_refl))))))))))))))))))))))))))))))))))))))))))))))))))))))))))))))))))))))))))))))))))))))))))))))))))))))))
def dx := And.intro @runOps.eq_1 (And.intro @runOps.eq_2 (And.intro @runD.eq_1 (And.intro @runD.eq_2 (And.intro @again.eq_1 (And.intro @step1.eq_1 (And.intro @wantA.eq_1 (And.intro @opSem.eq_1 (And.intro @evalO.eq_1 (And.intro @evalO.eq_2 (And.intro @evalO.eq_3 (And.intro @evalO.eq_4 (And.intro @evalL.eq_1 (And.intro @evalL.eq_2 (And.intro @evalOpt.eq_1 (And.intro @evalOpt.eq_2 (And.intro @evalParts.eq_1 (And.intro @evalParts.eq_2 (And.intro @putA.eq_1 (And.intro @putA.eq_2 (And.intro @ofConst.eq_1 (And.intro @ofConst.eq_2 (And.intro @ofConst.eq_3 (And.intro @ofScalar.eq_1 (And.intro @ofScalar.eq_2 (And.intro @ofScalar.eq_3 (And.intro @ofScalar.eq_4 (And.intro @ofScalar.eq_5 (And.intro @ofScalar.eq_6 (And.intro @ofScalar.eq_7 (And.intro @ofScalar.eq_8 (And.intro @ofScalars.eq_1 (And.intro @ofScalars.eq_2 (And.intro @abin.eq_1 (And.intro @abin.eq_2 (And.intro @abin.eq_3 (And.intro @abin.eq_4 (And.intro @abin.eq_5 (And.intro @abin.eq_6 (And.intro @abin.eq_7 (And.intro @abinInt.eq_1 (And.intro @abinInt.eq_2 (And.intro @abinInt.eq_3 (And.intro @abinInt.eq_4 (And.intro @abinInt.eq_5 (And.intro @abinInt.eq_6 (And.intro @abinInt.eq_7 (And.intro @abinInt.eq_8 (And.intro @abinInt.eq_9 (And.intro @abinInt.eq_10 (And.intro @abinInt.eq_11 (And.intro @abinInt.eq_12 (And.intro @abinInt.eq_13 (And.intro @abinInt.eq_14 (And.intro @abinInt.eq_15 (And.intro @abinInt.eq_16 (And.intro @aun.eq_1 (And.intro @aun.eq_2 (And.intro @aun.eq_3 (And.intro @aun.eq_4 (And.intro @convA.eq_1 (And.intro @convA.eq_2 (And.intro @convA.eq_3 (And.intro @convA.eq_4 (And.intro @builtinA.eq_def (And.intro @oneTy.eq_1 (And.intro @elemTy.eq_1 (And.intro @loadA.eq_1 (And.intro @loadA.eq_2 (And.intro @loadA.eq_3 (And.intro @loadA.eq_4 (And.intro @storeA.eq_1 (And.intro @storeA.eq_2 (And.intro @storeCellsA.eq_1 (And.intro @setAt.eq_1 (And.intro @setAt.eq_2 (And.intro @partA.eq_1 (And.intro @fillA.eq_1 (And.intro @fillA.eq_2 (And.intro @placesA.eq_1 (And.intro @placesA.eq_2 (And.intro @isFn.eq_1 (And.intro @isFn.eq_2 (And.intro @TyI.isAgg.eq_1 (And.intro @isSeq.eq_1 (And.intro @isNum.eq_1 (And.intro @sliceA.eq_1 (And.intro @sliceA.eq_2 (And.intro @sliceA.eq_3 (And.intro @sliceA.eq_4 (And.intro @sliceA.eq_5 (And.intro @sliceA.eq_6 (And.intro @sliceA.eq_7 (And.intro @boundA.eq_1 (And.intro @boundA.eq_2 (And.intro @boundA.eq_3 (And.intro @setParams.eq_1 (And.intro @setParams.eq_2 (And.intro @minL.eq_1 (And.intro @minL.eq_2 (And.intro @minF.eq_1 (And.intro @minF.eq_2 (And.intro @minF.eq_3 (And.intro @maxL.eq_1 (And.intro @maxL.eq_2 (And.intro @maxF.eq_1 (And.intro @maxF.eq_2 (And.intro @maxF.eq_3 (And.intro @repZ.eq_1 (@repZ.eq_2)))))))))))))))))))))))))))))))))))))))))))))))))))))))))))))))))))))))))))))))))))))))))))))))))))))))))))))
def fx10 := And.intro @vp10_11 (And.intro @vp10_12 (And.intro @vp10_16 (And.intro @vp10_19 (And.intro @vp10_37 (And.intro @vp10_41 (And.intro @vp10_42 (And.intro @vp10_43 (And.intro @ty3 (And.intro @ty4 (And.intro @ty5 (And.intro @ty22 (And.intro @ty23 (And.intro @ty25 (And.intro @ty28 (And.intro @ty70 (And.intro @ty72 (And.intro @ty77 (@ty79))))))))))))))))))
def fx11 := And.intro @ty3 (And.intro @ty4 (And.intro @ty5 (And.intro @ty22 (And.intro @ty23 (And.intro @ty25 (And.intro @ty77 (@ty79)))))))
def fx16 := And.intro @ty3 (And.intro @ty4 (And.intro @ty5 (And.intro @ty22 (And.intro @ty23 (And.intro @ty25 (And.intro @ty77 (@ty79)))))))
def fx19 := And.intro @ty3 (And.intro @ty4 (And.intro @ty5 (And.intro @ty22 (And.intro @ty23 (And.intro @ty25 (And.intro @ty77 (And.intro @ty79 (And.intro @ord19_6 (And.intro @ord19_11 (@ord19_17))))))))))
def fx23 := And.intro @ty3 (And.intro @ty4 (And.intro @ty5 (And.intro @ty22 (And.intro @ty23 (And.intro @ty25 (And.intro @ty31 (And.intro @ty53 (And.intro @ty77 (@ty79)))))))))
def fx24 := And.intro @vp24_23 (And.intro @vp24_45 (And.intro @vp24_50 (And.intro @ty3 (And.intro @ty4 (And.intro @ty5 (And.intro @ty22 (And.intro @ty23 (And.intro @ty25 (And.intro @ty31 (And.intro @ty53 (And.intro @ty77 (@ty79))))))))))))
def fx29 := And.intro @vp29_16 (And.intro @vp29_24 (And.intro @vp29_45 (And.intro @vp29_49 (And.intro @ty3 (And.intro @ty4 (And.intro @ty5 (And.intro @ty22 (And.intro @ty23 (And.intro @ty25 (And.intro @ty77 (@ty79)))))))))))
def fx31 := And.intro @vp31_16 (And.intro @vp31_56 (And.intro @vp31_57 (And.intro @ty3 (And.intro @ty4 (And.intro @ty5 (And.intro @ty22 (And.intro @ty23 (And.intro @ty25 (And.intro @ty28 (And.intro @ty77 (And.intro @ty79 (@ord31_16))))))))))))
def fx33 := And.intro @vp33_16 (And.intro @vp33_45 (And.intro @vp33_56 (And.intro @ty3 (And.intro @ty4 (And.intro @ty5 (And.intro @ty22 (And.intro @ty23 (And.intro @ty25 (And.intro @ty28 (And.intro @ty77 (And.intro @ty79 (@ord33_17))))))))))))
def fx37 := And.intro @ty3 (And.intro @ty23 (@ord37_6))
def fx41 := And.intro @vp41_46 (And.intro @vp41_62 (And.intro @ty3 (And.intro @ty4 (And.intro @ty5 (And.intro @ty22 (And.intro @ty23 (And.intro @ty25 (And.intro @ty28 (And.intro @ty70 (And.intro @ty72 (And.intro @ty77 (And.intro @ty79 (@ty102)))))))))))))
def fx42 := And.intro @ty3 (And.intro @ty5 (And.intro @ty23 (And.intro @ty70 (@ty72))))
def fx43 := And.intro @vp43_24 (And.intro @vp43_63 (And.intro @ty3 (And.intro @ty4 (And.intro @ty5 (And.intro @ty22 (And.intro @ty23 (And.intro @ty25 (And.intro @ty28 (And.intro @ty70 (And.intro @ty72 (And.intro @ty77 (And.intro @ty79 (And.intro @ord43_7 (@ord43_10))))))))))))))
def fx44 := @ty3
def fx45 := @ty3
def fx46 := And.intro @vp46_64 (And.intro @vp46_65 (And.intro @vp46_66 (And.intro @vp46_67 (And.intro @ty3 (And.intro @ty4 (And.intro @ty5 (And.intro @ty22 (And.intro @ty23 (And.intro @ty25 (And.intro @ty77 (And.intro @ty79 (And.intro @ty102 (And.intro @ord46_4 (@ord46_8))))))))))))))
def fx47 := And.intro @vp47_68 (And.intro @ty3 (And.intro @ty4 (And.intro @ty5 (And.intro @ty22 (And.intro @ty23 (And.intro @ty25 (And.intro @ty77 (And.intro @ty79 (And.intro @ty86 (And.intro @ty102 (@ty107)))))))))))
def fx49 := And.intro @vp49_71 (And.intro @vp49_72 (And.intro @ty3 (And.intro @ty4 (And.intro @ty5 (And.intro @ty22 (And.intro @ty23 (And.intro @ty25 (And.intro @ty77 (And.intro @ty79 (@ord49_26))))))))))
def fx50 := And.intro @vp50_57 (And.intro @vp50_73 (And.intro @ty3 (And.intro @ty4 (And.intro @ty5 (And.intro @ty77 (And.intro @ty79 (@ord50_8)))))))
def fx53 := And.intro @vp53_44 (And.intro @vp53_69 (And.intro @vp53_70 (And.intro @vp53_74 (And.intro @ty3 (And.intro @ty4 (And.intro @ty5 (And.intro @ty22 (And.intro @ty23 (And.intro @ty25 (And.intro @ty77 (And.intro @ty79 (And.intro @ty86 (And.intro @ty102 (And.intro @ord53_21 (@ord53_23)))))))))))))))
def fx55 := And.intro @vp55_60 (And.intro @vp55_61 (And.intro @vp55_75 (And.intro @ty3 (And.intro @ty4 (And.intro @ty5 (And.intro @ty22 (And.intro @ty23 (And.intro @ty25 (And.intro @ty77 (And.intro @ty79 (And.intro @ty86 (And.intro @ty102 (And.intro @ord55_5 (And.intro @ord55_7 (@ord55_9)))))))))))))))
def fx56 := And.intro @vp56_24 (And.intro @vp56_76 (And.intro @ty3 (And.intro @ty4 (And.intro @ty5 (And.intro @ty22 (And.intro @ty23 (And.intro @ty25 (And.intro @ty77 (@ty79)))))))))
def fx57 := And.intro @ty3 (And.intro @ty4 (And.intro @ty5 (And.intro @ty77 (@ty79))))
def fx59 := And.intro @vp59_60 (And.intro @vp59_61 (And.intro @vp59_77 (And.intro @ty3 (And.intro @ty4 (And.intro @ty23 (@ty86))))))
def fx60 := And.intro @ty3 (And.intro @ty4 (@ty86))
def fx61 := And.intro @ty3 (And.intro @ty4 (And.intro @ty5 (And.intro @ty22 (And.intro @ty23 (And.intro @ty25 (And.intro @ty77 (And.intro @ty79 (And.intro @ty86 (And.intro @ty102 (@ord61_1))))))))))
def fx62 := And.intro @ty3 (And.intro @ty5 (And.intro @ty23 (And.intro @ty72 (And.intro @ty117 (@ty118)))))
def fx63 := And.intro @vp63_29 (And.intro @vp63_31 (And.intro @vp63_33 (And.intro @ty3 (And.intro @ty4 (And.intro @ty5 (And.intro @ty22 (And.intro @ty23 (And.intro @ty25 (And.intro @ty72 (And.intro @ty77 (@ty79)))))))))))
def fx64 := And.intro @vp64_44 (And.intro @vp64_77 (And.intro @vp64_82 (And.intro @vp64_84 (And.intro @ty3 (And.intro @ty4 (And.intro @ty5 (And.intro @ty22 (And.intro @ty23 (And.intro @ty25 (And.intro @ty77 (And.intro @ty79 (@ty102))))))))))))
def fx65 := And.intro @ty3 (And.intro @ty4 (And.intro @ty5 (And.intro @ty22 (And.intro @ty77 (@ty79)))))
def fx66 := And.intro @ty3 (@ty23)
def fx67 := And.intro @ty4 (@ty77)
def fx68 := And.intro @ty3 (And.intro @ty4 (And.intro @ty5 (And.intro @ty22 (And.intro @ty23 (And.intro @ty25 (And.intro @ty77 (And.intro @ty79 (And.intro @ty81 (And.intro @ty102 (@ord68_1))))))))))
def fx69 := And.intro @ty3 (And.intro @ty4 (And.intro @ty5 (And.intro @ty22 (And.intro @ty23 (And.intro @ty25 (And.intro @ty77 (And.intro @ty79 (@ty102))))))))
def fx70 := And.intro @vp70_68 (And.intro @ty3 (And.intro @ty4 (And.intro @ty5 (And.intro @ty22 (And.intro @ty23 (And.intro @ty25 (And.intro @ty77 (And.intro @ty79 (And.intro @ty86 (@ty102))))))))))
def fx71 := And.intro @vp71_86 (And.intro @ty3 (@ty23))
def fx72 := And.intro @ty3 (And.intro @ty4 (And.intro @ty5 (And.intro @ty22 (And.intro @ty23 (And.intro @ty25 (And.intro @ty77 (@ty79)))))))
def fx73 := And.intro @vp73_86 (And.intro @ty3 (@ty23))
def fx75 := And.intro @vp75_88 (@ty3)
def fx76 := And.intro @vp76_23 (And.intro @ty3 (And.intro @ty4 (And.intro @ty5 (And.intro @ty22 (And.intro @ty23 (And.intro @ty25 (And.intro @ty31 (And.intro @ty53 (And.intro @ty77 (@ty79))))))))))
def fx77 := And.intro @vp77_89 (And.intro @ty4 (@ty113))
def fx78 := @vp78_44
def fx79 := And.intro @vp79_53 (And.intro @ty3 (And.intro @ty5 (And.intro @ty23 (@ty72))))
def fx80 := And.intro @vp80_55 (And.intro @ty3 (And.intro @ty5 (And.intro @ty23 (@ty72))))
def fx81 := And.intro @vp81_59 (And.intro @ty3 (And.intro @ty5 (And.intro @ty23 (@ty72))))
def fx82 := And.intro @ty3 (And.intro @ty4 (And.intro @ty5 (And.intro @ty22 (And.intro @ty23 (And.intro @ty25 (And.intro @ty77 (And.intro @ty79 (@ty102))))))))
def fx83 := @ty3
def fx84 := And.intro @vp84_44 (And.intro @vp84_61 (And.intro @vp84_68 (And.intro @vp84_75 (And.intro @vp84_77 (And.intro @vp84_91 (And.intro @ty3 (And.intro @ty4 (And.intro @ty5 (And.intro @ty22 (And.intro @ty23 (And.intro @ty25 (And.intro @ty77 (And.intro @ty79 (And.intro @ty81 (And.intro @ty86 (And.intro @ty102 (And.intro @ty123 (@ord84_2))))))))))))))))))
def fx85 := And.intro @ty3 (And.intro @ty4 (And.intro @ty5 (And.intro @ty22 (And.intro @ty23 (And.intro @ty25 (And.intro @ty77 (And.intro @ty79 (And.intro @ty81 (And.intro @ty86 (And.intro @ty102 (@ord85_0)))))))))))
def fx86 := And.intro @ty3 (@ty23)
def fx88 := And.intro @ty3 (And.intro @ty4 (@ty77))
def fx89 := And.intro @vp89_94 (@ty3)
def fx90 := And.intro @ty4 (@ty113)
def fx94 := And.intro @ty3 (@ty23)
end Go.Proofs.Ytjkfdiglokkceaa
