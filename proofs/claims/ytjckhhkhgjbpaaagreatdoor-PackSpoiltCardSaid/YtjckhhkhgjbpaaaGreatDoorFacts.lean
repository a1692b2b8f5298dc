/- What the proofs of this seat ask of its program. -/
import Derived.Test.YtjckhhkhgjbpaaaGreatDoorLaw
import Derived.Test.YtjckhhkhgjbpaaaGreatDoorPaleSym
import Derived.KernelRfl
set_option maxRecDepth 100000
namespace Go.Proofs.YtjckhhkhgjbpaaaGreatDoor
open Go Go.Proofs.YtjckhhkhgjbpaaaGreatDoor.Pale
theorem ty3 : lawProg.ty 3 = some (⟨.int .i64, 1, 8, [.int .i64 0]⟩ : TyI) := by kernel_rfl
theorem ty4 : lawProg.ty 4 = some (⟨.bool, 1, 1, [.bool false]⟩ : TyI) := by kernel_rfl
theorem ty5 : lawProg.ty 5 = some (⟨.int .u8, 1, 1, [.int .u8 0]⟩ : TyI) := by kernel_rfl
theorem ty9 : lawProg.ty 9 = some (⟨.string, 1, 16, [.str []]⟩ : TyI) := by kernel_rfl
theorem ty22 : lawProg.ty 22 = some (⟨.slice 82, 1, 24, [.vs .nil []]⟩ : TyI) := by kernel_rfl
theorem ty23 : lawProg.ty 23 = some (⟨.slice 25, 1, 24, [.vs .nil []]⟩ : TyI) := by kernel_rfl
theorem ty25 : lawProg.ty 25 = some (⟨.struct [(0, 5), (1, 9), (2, 23)], 3, 48, [.int .u8 0, .str [], .vs .nil []]⟩ : TyI) := by kernel_rfl
theorem ty27 : lawProg.ty 27 = some (⟨.struct [(0, 22), (1, 25)], 4, 72, [.vs .nil [], .int .u8 0, .str [], .vs .nil []]⟩ : TyI) := by kernel_rfl
theorem ty28 : lawProg.ty 28 = some (⟨.slice 3, 1, 24, [.vs .nil []]⟩ : TyI) := by kernel_rfl
theorem ty29 : lawProg.ty 29 = some (⟨.slice 31, 1, 24, [.vs .nil []]⟩ : TyI) := by kernel_rfl
theorem ty31 : lawProg.ty 31 = some (⟨.struct [(0, 5), (1, 3), (2, 28), (3, 29)], 4, 64, [.int .u8 0, .int .i64 0, .vs .nil [], .vs .nil []]⟩ : TyI) := by kernel_rfl
theorem ty32 : lawProg.ty 32 = some (⟨.slice 33, 1, 24, [.vs .nil []]⟩ : TyI) := by kernel_rfl
theorem ty33 : lawProg.ty 33 = some (⟨.slice 146, 1, 24, [.vs .nil []]⟩ : TyI) := by kernel_rfl
theorem ty35 : lawProg.ty 35 = some (⟨.struct [(0, 3), (1, 3), (2, 4), (3, 31), (7, 32), (8, 33)], 9, 136, [.int .i64 0, .int .i64 0, .bool false, .int .u8 0, .int .i64 0, .vs .nil [], .vs .nil [], .vs .nil [], .vs .nil []]⟩ : TyI) := by kernel_rfl
theorem ty39 : lawProg.ty 39 = some (⟨.slice 5, 1, 24, [.vs .nil []]⟩ : TyI) := by kernel_rfl
theorem ty40 : lawProg.ty 40 = some (⟨.int .i64, 1, 8, [.int .i64 0]⟩ : TyI) := by kernel_rfl
theorem ty54 : lawProg.ty 54 = some (⟨.struct [(0, 3), (1, 3), (2, 3), (3, 39)], 4, 48, [.int .i64 0, .int .i64 0, .int .i64 0, .vs .nil []]⟩ : TyI) := by kernel_rfl
theorem ty72 : lawProg.ty 72 = some (⟨.int .u16, 1, 2, [.int .u16 0]⟩ : TyI) := by kernel_rfl
theorem ty73 : lawProg.ty 73 = some (⟨.array 3 72, 3, 6, [.int .u16 0, .int .u16 0, .int .u16 0]⟩ : TyI) := by kernel_rfl
theorem ty78 : lawProg.ty 78 = some (⟨.slice 9, 1, 24, [.vs .nil []]⟩ : TyI) := by kernel_rfl
theorem ty79 : lawProg.ty 79 = some (⟨.slice 28, 1, 24, [.vs .nil []]⟩ : TyI) := by kernel_rfl
theorem ty80 : lawProg.ty 80 = some (⟨.slice 4, 1, 24, [.vs .nil []]⟩ : TyI) := by kernel_rfl
theorem ty82 : lawProg.ty 82 = some (⟨.struct [(0, 9), (1, 78), (2, 79), (3, 80)], 4, 88, [.str [], .vs .nil [], .vs .nil [], .vs .nil []]⟩ : TyI) := by kernel_rfl
theorem ty93 : lawProg.ty 93 = some (⟨.struct [(0, 39)], 1, 24, [.vs .nil []]⟩ : TyI) := by kernel_rfl
theorem ty106 : lawProg.ty 106 = some (⟨.struct [(0, 39)], 1, 24, [.vs .nil []]⟩ : TyI) := by kernel_rfl
theorem ty146 : lawProg.ty 146 = some (⟨.struct [(0, 3), (1, 3)], 2, 16, [.int .i64 0, .int .i64 0]⟩ : TyI) := by kernel_rfl
theorem ty163 : lawProg.ty 163 = some (⟨.struct [(0, 27)], 4, 72, [.vs .nil [], .int .u8 0, .str [], .vs .nil []]⟩ : TyI) := by kernel_rfl
theorem ty171 : lawProg.ty 171 = some (⟨.struct [(0, 39)], 1, 24, [.vs .nil []]⟩ : TyI) := by kernel_rfl
theorem ty211 : lawProg.ty 211 = some (⟨.array 3 4, 3, 3, [.bool false, .bool false, .bool false]⟩ : TyI) := by kernel_rfl
theorem ty227 : lawProg.ty 227 = some (⟨.int .u64, 1, 8, [.int .u64 0]⟩ : TyI) := by kernel_rfl
theorem ty228 : lawProg.ty 228 = some (⟨.int .u64, 1, 8, [.int .u64 0]⟩ : TyI) := by kernel_rfl
theorem ty241 : lawProg.ty 241 = some (⟨.slice 228, 1, 24, [.vs .nil []]⟩ : TyI) := by kernel_rfl
theorem ty248 : lawProg.ty 248 = some (⟨.array 64 5, 64, 64, [.int .u8 0, .int .u8 0, .int .u8 0, .int .u8 0, .int .u8 0, .int .u8 0, .int .u8 0, .int .u8 0, .int .u8 0, .int .u8 0, .int .u8 0, .int .u8 0, .int .u8 0, .int .u8 0, .int .u8 0, .int .u8 0, .int .u8 0, .int .u8 0, .int .u8 0, .int .u8 0, .int .u8 0, .int .u8 0, .int .u8 0, .int .u8 0, .int .u8 0, .int .u8 0, .int .u8 0, .int .u8 0, .int .u8 0, .int .u8 0, .int .u8 0, .int .u8 0, .int .u8 0, .int .u8 0, .int .u8 0, .int .u8 0, .int .u8 0, .int .u8 0, .int .u8 0, .int .u8 0, .int .u8 0, .int .u8 0, .int .u8 0, .int .u8 0, .int .u8 0, .int .u8 0, .int .u8 0, .int .u8 0, .int .u8 0, .int .u8 0, .int .u8 0, .int .u8 0, .int .u8 0, .int .u8 0, .int .u8 0, .int .u8 0, .int .u8 0, .int .u8 0, .int .u8 0, .int .u8 0, .int .u8 0, .int .u8 0, .int .u8 0, .int .u8 0]⟩ : TyI) := by kernel_rfl
theorem fn7 : lawProg.func 7 = some Tryz.f7 := by kernel_rfl
theorem fn9 : lawProg.func 9 = some Tryz.f9 := by kernel_rfl
theorem fn10 : lawProg.func 10 = some Tryz.f10 := by kernel_rfl
theorem fn11 : lawProg.func 11 = some Tryz.f11 := by kernel_rfl
theorem fn13 : lawProg.func 13 = some Tryz.f13 := by kernel_rfl
theorem fn15 : lawProg.func 15 = some Tryz.f15 := by kernel_rfl
theorem fn21 : lawProg.func 21 = some Tryz.f21 := by kernel_rfl
theorem fn27 : lawProg.func 27 = some Tryz.f27 := by kernel_rfl
theorem fn28 : lawProg.func 28 = some Tryz.f28 := by kernel_rfl
theorem fn32 : lawProg.func 32 = some Tryz.f32 := by kernel_rfl
theorem fn34 : lawProg.func 34 = some Tryz.f34 := by kernel_rfl
theorem fn38 : lawProg.func 38 = some Tryz.f38 := by kernel_rfl
theorem fn39 : lawProg.func 39 = some Tryz.f39 := by kernel_rfl
theorem fn40 : lawProg.func 40 = some Tryz.f40 := by kernel_rfl
theorem fn41 : lawProg.func 41 = some Tryz.f41 := by kernel_rfl
theorem fn42 : lawProg.func 42 = some Tryz.f42 := by kernel_rfl
theorem fn43 : lawProg.func 43 = some Tryz.f43 := by kernel_rfl
theorem fn44 : lawProg.func 44 = some Tryz.f44 := by kernel_rfl
theorem fn45 : lawProg.func 45 = some Tryz.f45 := by kernel_rfl
theorem fn48 : lawProg.func 48 = some Tryz.f48 := by kernel_rfl
theorem fn49 : lawProg.func 49 = some Tryz.f49 := by kernel_rfl
theorem fn54 : lawProg.func 54 = some Tryz.f54 := by kernel_rfl
theorem fn55 : lawProg.func 55 = some Tryz.f55 := by kernel_rfl
theorem fn56 : lawProg.func 56 = some Tryz.f56 := by kernel_rfl
theorem fn57 : lawProg.func 57 = some Tryz.f57 := by kernel_rfl
theorem fn58 : lawProg.func 58 = some Tryz.f58 := by kernel_rfl
theorem fn59 : lawProg.func 59 = some Tryz.f59 := by kernel_rfl
theorem fn68 : lawProg.func 68 = some Tryz.f68 := by kernel_rfl
theorem fn72 : lawProg.func 72 = some Tryz.f72 := by kernel_rfl
theorem fn86 : lawProg.func 86 = some Tryz.f86 := by kernel_rfl
theorem fn88 : lawProg.func 88 = some Tryz.f88 := by kernel_rfl
theorem fn89 : lawProg.func 89 = some Tryz.f89 := by kernel_rfl
theorem fn113 : lawProg.func 113 = some Tryz.f113 := by kernel_rfl
theorem fn114 : lawProg.func 114 = some Tryz.f114 := by kernel_rfl
theorem fn115 : lawProg.func 115 = some Tryz.f115 := by kernel_rfl
theorem fn116 : lawProg.func 116 = some Tryz.f116 := by kernel_rfl
theorem fn117 : lawProg.func 117 = some Tryz.f117 := by kernel_rfl
theorem fn118 : lawProg.func 118 = some Tryz.f118 := by kernel_rfl
theorem fn122 : lawProg.func 122 = some Tryz.f122 := by kernel_rfl
theorem fn123 : lawProg.func 123 = some Tryz.f123 := by kernel_rfl
theorem fn152 : lawProg.func 152 = some Tryz.f152 := by kernel_rfl
theorem fn159 : lawProg.func 159 = some Tryz.f159 := by kernel_rfl
theorem fn160 : lawProg.func 160 = some Tryz.f160 := by kernel_rfl
theorem fn161 : lawProg.func 161 = some Tryz.f161 := by kernel_rfl
theorem fn162 : lawProg.func 162 = some Tryz.f162 := by kernel_rfl
theorem fn163 : lawProg.func 163 = some Tryz.f163 := by kernel_rfl
theorem fn164 : lawProg.func 164 = some Tryz.f164 := by kernel_rfl
theorem fn167 : lawProg.func 167 = some Tryz.f167 := by kernel_rfl
theorem fn168 : lawProg.func 168 = some Tryz.f168 := by kernel_rfl
theorem fn169 : lawProg.func 169 = some Tryz.f169 := by kernel_rfl
theorem fn170 : lawProg.func 170 = some Tryz.f170 := by kernel_rfl
theorem fn171 : lawProg.func 171 = some Tryz.f171 := by kernel_rfl
theorem fn172 : lawProg.func 172 = some Tryz.f172 := by kernel_rfl
theorem fn173 : lawProg.func 173 = some Tryz.f173 := by kernel_rfl
theorem fn174 : lawProg.func 174 = some Tryz.f174 := by kernel_rfl
theorem fn175 : lawProg.func 175 = some Tryz.f175 := by kernel_rfl
theorem fn191 : lawProg.func 191 = some Tryz.f191 := by kernel_rfl
theorem fn192 : lawProg.func 192 = some Tryz.f192 := by kernel_rfl
theorem fn193 : lawProg.func 193 = some Tryz.f193 := by kernel_rfl
theorem fn194 : lawProg.func 194 = some Tryz.f194 := by kernel_rfl
theorem fn206 : lawProg.func 206 = some Tryz.f206 := by kernel_rfl
theorem fn207 : lawProg.func 207 = some Tryz.f207 := by kernel_rfl
theorem fn209 : lawProg.func 209 = some Tryz.f209 := by kernel_rfl
theorem fn210 : lawProg.func 210 = some Tryz.f210 := by kernel_rfl
theorem fn211 : lawProg.func 211 = some Tryz.f211 := by kernel_rfl
theorem bookNo7 : bookL.get 7 = none := by kernel_rfl
theorem memo7 (args : List AVal) : lawProg.memo 7 args = none := by show lookB bookL 7 args = none; unfold lookB; rw [bookNo7]
theorem bookNo9 : bookL.get 9 = none := by kernel_rfl
theorem memo9 (args : List AVal) : lawProg.memo 9 args = none := by show lookB bookL 9 args = none; unfold lookB; rw [bookNo9]
theorem memo10 : lawProg.memo 10 [] = some (.bool true, true) := by kernel_rfl
theorem bookNo11 : bookL.get 11 = none := by kernel_rfl
theorem memo11 (args : List AVal) : lawProg.memo 11 args = none := by show lookB bookL 11 args = none; unfold lookB; rw [bookNo11]
theorem bookNo13 : bookL.get 13 = none := by kernel_rfl
theorem memo13 (args : List AVal) : lawProg.memo 13 args = none := by show lookB bookL 13 args = none; unfold lookB; rw [bookNo13]
theorem bookNo15 : bookL.get 15 = none := by kernel_rfl
theorem memo15 (args : List AVal) : lawProg.memo 15 args = none := by show lookB bookL 15 args = none; unfold lookB; rw [bookNo15]
theorem bookNo21 : bookL.get 21 = none := by kernel_rfl
theorem memo21 (args : List AVal) : lawProg.memo 21 args = none := by show lookB bookL 21 args = none; unfold lookB; rw [bookNo21]
theorem bookNo27 : bookL.get 27 = none := by kernel_rfl
theorem memo27 (args : List AVal) : lawProg.memo 27 args = none := by show lookB bookL 27 args = none; unfold lookB; rw [bookNo27]
theorem bookNo28 : bookL.get 28 = none := by kernel_rfl
theorem memo28 (args : List AVal) : lawProg.memo 28 args = none := by show lookB bookL 28 args = none; unfold lookB; rw [bookNo28]
theorem bookNo32 : bookL.get 32 = none := by kernel_rfl
theorem memo32 (args : List AVal) : lawProg.memo 32 args = none := by show lookB bookL 32 args = none; unfold lookB; rw [bookNo32]
theorem bookNo34 : bookL.get 34 = none := by kernel_rfl
theorem memo34 (args : List AVal) : lawProg.memo 34 args = none := by show lookB bookL 34 args = none; unfold lookB; rw [bookNo34]
theorem bookNo38 : bookL.get 38 = none := by kernel_rfl
theorem memo38 (args : List AVal) : lawProg.memo 38 args = none := by show lookB bookL 38 args = none; unfold lookB; rw [bookNo38]
theorem bookNo39 : bookL.get 39 = none := by kernel_rfl
theorem memo39 (args : List AVal) : lawProg.memo 39 args = none := by show lookB bookL 39 args = none; unfold lookB; rw [bookNo39]
theorem bookNo40 : bookL.get 40 = none := by kernel_rfl
theorem memo40 (args : List AVal) : lawProg.memo 40 args = none := by show lookB bookL 40 args = none; unfold lookB; rw [bookNo40]
theorem bookNo41 : bookL.get 41 = none := by kernel_rfl
theorem memo41 (args : List AVal) : lawProg.memo 41 args = none := by show lookB bookL 41 args = none; unfold lookB; rw [bookNo41]
theorem bookNo42 : bookL.get 42 = none := by kernel_rfl
theorem memo42 (args : List AVal) : lawProg.memo 42 args = none := by show lookB bookL 42 args = none; unfold lookB; rw [bookNo42]
theorem bookNo43 : bookL.get 43 = none := by kernel_rfl
theorem memo43 (args : List AVal) : lawProg.memo 43 args = none := by show lookB bookL 43 args = none; unfold lookB; rw [bookNo43]
theorem bookNo44 : bookL.get 44 = none := by kernel_rfl
theorem memo44 (args : List AVal) : lawProg.memo 44 args = none := by show lookB bookL 44 args = none; unfold lookB; rw [bookNo44]
theorem bookNo45 : bookL.get 45 = none := by kernel_rfl
theorem memo45 (args : List AVal) : lawProg.memo 45 args = none := by show lookB bookL 45 args = none; unfold lookB; rw [bookNo45]
theorem bookNo48 : bookL.get 48 = none := by kernel_rfl
theorem memo48 (args : List AVal) : lawProg.memo 48 args = none := by show lookB bookL 48 args = none; unfold lookB; rw [bookNo48]
theorem bookNo49 : bookL.get 49 = none := by kernel_rfl
theorem memo49 (args : List AVal) : lawProg.memo 49 args = none := by show lookB bookL 49 args = none; unfold lookB; rw [bookNo49]
theorem bookNo54 : bookL.get 54 = none := by kernel_rfl
theorem memo54 (args : List AVal) : lawProg.memo 54 args = none := by show lookB bookL 54 args = none; unfold lookB; rw [bookNo54]
theorem bookNo55 : bookL.get 55 = none := by kernel_rfl
theorem memo55 (args : List AVal) : lawProg.memo 55 args = none := by show lookB bookL 55 args = none; unfold lookB; rw [bookNo55]
theorem bookNo56 : bookL.get 56 = none := by kernel_rfl
theorem memo56 (args : List AVal) : lawProg.memo 56 args = none := by show lookB bookL 56 args = none; unfold lookB; rw [bookNo56]
theorem bookNo57 : bookL.get 57 = none := by kernel_rfl
theorem memo57 (args : List AVal) : lawProg.memo 57 args = none := by show lookB bookL 57 args = none; unfold lookB; rw [bookNo57]
theorem bookNo58 : bookL.get 58 = none := by kernel_rfl
theorem memo58 (args : List AVal) : lawProg.memo 58 args = none := by show lookB bookL 58 args = none; unfold lookB; rw [bookNo58]
theorem bookNo59 : bookL.get 59 = none := by kernel_rfl
theorem memo59 (args : List AVal) : lawProg.memo 59 args = none := by show lookB bookL 59 args = none; unfold lookB; rw [bookNo59]
theorem bookNo68 : bookL.get 68 = none := by kernel_rfl
theorem memo68 (args : List AVal) : lawProg.memo 68 args = none := by show lookB bookL 68 args = none; unfold lookB; rw [bookNo68]
theorem bookNo72 : bookL.get 72 = none := by kernel_rfl
theorem memo72 (args : List AVal) : lawProg.memo 72 args = none := by show lookB bookL 72 args = none; unfold lookB; rw [bookNo72]
theorem bookNo86 : bookL.get 86 = none := by kernel_rfl
theorem memo86 (args : List AVal) : lawProg.memo 86 args = none := by show lookB bookL 86 args = none; unfold lookB; rw [bookNo86]
theorem bookNo88 : bookL.get 88 = none := by kernel_rfl
theorem memo88 (args : List AVal) : lawProg.memo 88 args = none := by show lookB bookL 88 args = none; unfold lookB; rw [bookNo88]
theorem bookNo89 : bookL.get 89 = none := by kernel_rfl
theorem memo89 (args : List AVal) : lawProg.memo 89 args = none := by show lookB bookL 89 args = none; unfold lookB; rw [bookNo89]
theorem bookNo113 : bookL.get 113 = none := by kernel_rfl
theorem memo113 (args : List AVal) : lawProg.memo 113 args = none := by show lookB bookL 113 args = none; unfold lookB; rw [bookNo113]
theorem bookNo114 : bookL.get 114 = none := by kernel_rfl
theorem memo114 (args : List AVal) : lawProg.memo 114 args = none := by show lookB bookL 114 args = none; unfold lookB; rw [bookNo114]
theorem bookNo115 : bookL.get 115 = none := by kernel_rfl
theorem memo115 (args : List AVal) : lawProg.memo 115 args = none := by show lookB bookL 115 args = none; unfold lookB; rw [bookNo115]
theorem bookNo116 : bookL.get 116 = none := by kernel_rfl
theorem memo116 (args : List AVal) : lawProg.memo 116 args = none := by show lookB bookL 116 args = none; unfold lookB; rw [bookNo116]
theorem bookNo117 : bookL.get 117 = none := by kernel_rfl
theorem memo117 (args : List AVal) : lawProg.memo 117 args = none := by show lookB bookL 117 args = none; unfold lookB; rw [bookNo117]
theorem bookNo118 : bookL.get 118 = none := by kernel_rfl
theorem memo118 (args : List AVal) : lawProg.memo 118 args = none := by show lookB bookL 118 args = none; unfold lookB; rw [bookNo118]
theorem bookNo122 : bookL.get 122 = none := by kernel_rfl
theorem memo122 (args : List AVal) : lawProg.memo 122 args = none := by show lookB bookL 122 args = none; unfold lookB; rw [bookNo122]
theorem bookNo123 : bookL.get 123 = none := by kernel_rfl
theorem memo123 (args : List AVal) : lawProg.memo 123 args = none := by show lookB bookL 123 args = none; unfold lookB; rw [bookNo123]
theorem bookNo152 : bookL.get 152 = none := by kernel_rfl
theorem memo152 (args : List AVal) : lawProg.memo 152 args = none := by show lookB bookL 152 args = none; unfold lookB; rw [bookNo152]
theorem bookNo159 : bookL.get 159 = none := by kernel_rfl
theorem memo159 (args : List AVal) : lawProg.memo 159 args = none := by show lookB bookL 159 args = none; unfold lookB; rw [bookNo159]
theorem bookNo160 : bookL.get 160 = none := by kernel_rfl
theorem memo160 (args : List AVal) : lawProg.memo 160 args = none := by show lookB bookL 160 args = none; unfold lookB; rw [bookNo160]
theorem bookNo161 : bookL.get 161 = none := by kernel_rfl
theorem memo161 (args : List AVal) : lawProg.memo 161 args = none := by show lookB bookL 161 args = none; unfold lookB; rw [bookNo161]
theorem bookNo162 : bookL.get 162 = none := by kernel_rfl
theorem memo162 (args : List AVal) : lawProg.memo 162 args = none := by show lookB bookL 162 args = none; unfold lookB; rw [bookNo162]
theorem bookNo163 : bookL.get 163 = none := by kernel_rfl
theorem memo163 (args : List AVal) : lawProg.memo 163 args = none := by show lookB bookL 163 args = none; unfold lookB; rw [bookNo163]
theorem bookNo164 : bookL.get 164 = none := by kernel_rfl
theorem memo164 (args : List AVal) : lawProg.memo 164 args = none := by show lookB bookL 164 args = none; unfold lookB; rw [bookNo164]
theorem bookNo167 : bookL.get 167 = none := by kernel_rfl
theorem memo167 (args : List AVal) : lawProg.memo 167 args = none := by show lookB bookL 167 args = none; unfold lookB; rw [bookNo167]
theorem bookNo168 : bookL.get 168 = none := by kernel_rfl
theorem memo168 (args : List AVal) : lawProg.memo 168 args = none := by show lookB bookL 168 args = none; unfold lookB; rw [bookNo168]
theorem bookNo169 : bookL.get 169 = none := by kernel_rfl
theorem memo169 (args : List AVal) : lawProg.memo 169 args = none := by show lookB bookL 169 args = none; unfold lookB; rw [bookNo169]
theorem bookNo170 : bookL.get 170 = none := by kernel_rfl
theorem memo170 (args : List AVal) : lawProg.memo 170 args = none := by show lookB bookL 170 args = none; unfold lookB; rw [bookNo170]
theorem bookNo171 : bookL.get 171 = none := by kernel_rfl
theorem memo171 (args : List AVal) : lawProg.memo 171 args = none := by show lookB bookL 171 args = none; unfold lookB; rw [bookNo171]
theorem bookNo172 : bookL.get 172 = none := by kernel_rfl
theorem memo172 (args : List AVal) : lawProg.memo 172 args = none := by show lookB bookL 172 args = none; unfold lookB; rw [bookNo172]
theorem bookNo173 : bookL.get 173 = none := by kernel_rfl
theorem memo173 (args : List AVal) : lawProg.memo 173 args = none := by show lookB bookL 173 args = none; unfold lookB; rw [bookNo173]
theorem bookNo174 : bookL.get 174 = none := by kernel_rfl
theorem memo174 (args : List AVal) : lawProg.memo 174 args = none := by show lookB bookL 174 args = none; unfold lookB; rw [bookNo174]
theorem bookNo175 : bookL.get 175 = none := by kernel_rfl
theorem memo175 (args : List AVal) : lawProg.memo 175 args = none := by show lookB bookL 175 args = none; unfold lookB; rw [bookNo175]
theorem bookNo191 : bookL.get 191 = none := by kernel_rfl
theorem memo191 (args : List AVal) : lawProg.memo 191 args = none := by show lookB bookL 191 args = none; unfold lookB; rw [bookNo191]
theorem bookNo192 : bookL.get 192 = none := by kernel_rfl
theorem memo192 (args : List AVal) : lawProg.memo 192 args = none := by show lookB bookL 192 args = none; unfold lookB; rw [bookNo192]
theorem bookNo193 : bookL.get 193 = none := by kernel_rfl
theorem memo193 (args : List AVal) : lawProg.memo 193 args = none := by show lookB bookL 193 args = none; unfold lookB; rw [bookNo193]
theorem bookNo194 : bookL.get 194 = none := by kernel_rfl
theorem memo194 (args : List AVal) : lawProg.memo 194 args = none := by show lookB bookL 194 args = none; unfold lookB; rw [bookNo194]
theorem bookNo206 : bookL.get 206 = none := by kernel_rfl
theorem memo206 (args : List AVal) : lawProg.memo 206 args = none := by show lookB bookL 206 args = none; unfold lookB; rw [bookNo206]
theorem bookNo207 : bookL.get 207 = none := by kernel_rfl
theorem memo207 (args : List AVal) : lawProg.memo 207 args = none := by show lookB bookL 207 args = none; unfold lookB; rw [bookNo207]
theorem bookNo209 : bookL.get 209 = none := by kernel_rfl
theorem memo209 (args : List AVal) : lawProg.memo 209 args = none := by show lookB bookL 209 args = none; unfold lookB; rw [bookNo209]
theorem bookNo210 : bookL.get 210 = none := by kernel_rfl
theorem memo210 (args : List AVal) : lawProg.memo 210 args = none := by show lookB bookL 210 args = none; unfold lookB; rw [bookNo210]
theorem bookNo211 : bookL.get 211 = none := by kernel_rfl
theorem memo211 (args : List AVal) : lawProg.memo 211 args = none := by show lookB bookL 211 args = none; unfold lookB; rw [bookNo211]
theorem vp7_9 : lawProg.isVal 7 9 = true := by kernel_rfl
theorem vp7_10 : lawProg.isVal 7 10 = true := by kernel_rfl
theorem vp7_11 : lawProg.isVal 7 11 = true := by kernel_rfl
theorem vp7_13 : lawProg.isVal 7 13 = true := by kernel_rfl
theorem vp7_15 : lawProg.isVal 7 15 = true := by kernel_rfl
theorem vp7_21 : lawProg.isVal 7 21 = true := by kernel_rfl
theorem vp7_27 : lawProg.isVal 7 27 = true := by kernel_rfl
theorem vp7_28 : lawProg.isVal 7 28 = true := by kernel_rfl
theorem vp7_32 : lawProg.isVal 7 32 = true := by kernel_rfl
theorem vp9_34 : lawProg.isVal 9 34 = true := by kernel_rfl
theorem vp11_39 : lawProg.isVal 11 39 = true := by kernel_rfl
theorem vp11_40 : lawProg.isVal 11 40 = true := by kernel_rfl
theorem vp11_41 : lawProg.isVal 11 41 = true := by kernel_rfl
theorem vp11_42 : lawProg.isVal 11 42 = false := by kernel_rfl
theorem vp11_43 : lawProg.isVal 11 43 = false := by kernel_rfl
theorem vp11_44 : lawProg.isVal 11 44 = false := by kernel_rfl
theorem vp11_45 : lawProg.isVal 11 45 = false := by kernel_rfl
theorem vp13_48 : lawProg.isVal 13 48 = true := by kernel_rfl
theorem vp13_49 : lawProg.isVal 13 49 = true := by kernel_rfl
theorem vp15_11 : lawProg.isVal 15 11 = true := by kernel_rfl
theorem vp15_39 : lawProg.isVal 15 39 = true := by kernel_rfl
theorem vp15_54 : lawProg.isVal 15 54 = false := by kernel_rfl
theorem vp15_55 : lawProg.isVal 15 55 = true := by kernel_rfl
theorem vp15_56 : lawProg.isVal 15 56 = false := by kernel_rfl
theorem vp15_57 : lawProg.isVal 15 57 = false := by kernel_rfl
theorem vp15_58 : lawProg.isVal 15 58 = false := by kernel_rfl
theorem vp15_59 : lawProg.isVal 15 59 = true := by kernel_rfl
theorem vp27_42 : lawProg.isVal 27 42 = false := by kernel_rfl
theorem vp27_45 : lawProg.isVal 27 45 = false := by kernel_rfl
theorem vp27_68 : lawProg.isVal 27 68 = true := by kernel_rfl
theorem vp27_88 : lawProg.isVal 27 88 = false := by kernel_rfl
theorem vp28_27 : lawProg.isVal 28 27 = true := by kernel_rfl
theorem vp28_54 : lawProg.isVal 28 54 = false := by kernel_rfl
theorem vp28_56 : lawProg.isVal 28 56 = false := by kernel_rfl
theorem vp28_59 : lawProg.isVal 28 59 = true := by kernel_rfl
theorem vp28_72 : lawProg.isVal 28 72 = true := by kernel_rfl
theorem vp28_89 : lawProg.isVal 28 89 = false := by kernel_rfl
theorem vp34_34 : lawProg.isVal 34 34 = true := by kernel_rfl
theorem vp40_86 : lawProg.isVal 40 86 = true := by kernel_rfl
theorem vp40_114 : lawProg.isVal 40 114 = true := by kernel_rfl
theorem vp40_115 : lawProg.isVal 40 115 = true := by kernel_rfl
theorem vp40_116 : lawProg.isVal 40 116 = false := by kernel_rfl
theorem vp41_117 : lawProg.isVal 41 117 = true := by kernel_rfl
theorem vp41_118 : lawProg.isVal 41 118 = true := by kernel_rfl
theorem vp43_42 : lawProg.isVal 43 42 = false := by kernel_rfl
theorem vp44_43 : lawProg.isVal 44 43 = false := by kernel_rfl
theorem vp45_38 : lawProg.isVal 45 38 = true := by kernel_rfl
theorem vp45_88 : lawProg.isVal 45 88 = false := by kernel_rfl
theorem vp48_48 : lawProg.isVal 48 48 = true := by kernel_rfl
theorem vp54_56 : lawProg.isVal 54 56 = false := by kernel_rfl
theorem vp55_59 : lawProg.isVal 55 59 = true := by kernel_rfl
theorem vp55_117 : lawProg.isVal 55 117 = true := by kernel_rfl
theorem vp55_118 : lawProg.isVal 55 118 = true := by kernel_rfl
theorem vp55_122 : lawProg.isVal 55 122 = false := by kernel_rfl
theorem vp55_123 : lawProg.isVal 55 123 = true := by kernel_rfl
theorem vp57_54 : lawProg.isVal 57 54 = false := by kernel_rfl
theorem vp58_57 : lawProg.isVal 58 57 = false := by kernel_rfl
theorem vp68_86 : lawProg.isVal 68 86 = true := by kernel_rfl
theorem vp88_42 : lawProg.isVal 88 42 = false := by kernel_rfl
theorem vp89_54 : lawProg.isVal 89 54 = false := by kernel_rfl
theorem vp113_114 : lawProg.isVal 113 114 = true := by kernel_rfl
theorem vp114_159 : lawProg.isVal 114 159 = true := by kernel_rfl
theorem vp115_117 : lawProg.isVal 115 117 = true := by kernel_rfl
theorem vp116_160 : lawProg.isVal 116 160 = false := by kernel_rfl
theorem vp117_39 : lawProg.isVal 117 39 = true := by kernel_rfl
theorem vp117_162 : lawProg.isVal 117 162 = false := by kernel_rfl
theorem vp118_118 : lawProg.isVal 118 118 = false := by kernel_rfl
theorem vp118_163 : lawProg.isVal 118 163 = false := by kernel_rfl
theorem vp118_164 : lawProg.isVal 118 164 = false := by kernel_rfl
theorem vp122_122 : lawProg.isVal 122 122 = false := by kernel_rfl
theorem vp122_167 : lawProg.isVal 122 167 = false := by kernel_rfl
theorem vp122_168 : lawProg.isVal 122 168 = false := by kernel_rfl
theorem vp122_169 : lawProg.isVal 122 169 = false := by kernel_rfl
theorem vp123_123 : lawProg.isVal 123 123 = true := by kernel_rfl
theorem vp123_162 : lawProg.isVal 123 162 = false := by kernel_rfl
theorem vp123_170 : lawProg.isVal 123 170 = true := by kernel_rfl
theorem vp123_171 : lawProg.isVal 123 171 = true := by kernel_rfl
theorem vp123_172 : lawProg.isVal 123 172 = true := by kernel_rfl
theorem vp123_173 : lawProg.isVal 123 173 = true := by kernel_rfl
theorem vp123_174 : lawProg.isVal 123 174 = true := by kernel_rfl
theorem vp159_191 : lawProg.isVal 159 191 = true := by kernel_rfl
theorem vp159_192 : lawProg.isVal 159 192 = false := by kernel_rfl
theorem vp161_123 : lawProg.isVal 161 123 = true := by kernel_rfl
theorem vp162_193 : lawProg.isVal 162 193 = false := by kernel_rfl
theorem vp163_164 : lawProg.isVal 163 164 = false := by kernel_rfl
theorem vp168_169 : lawProg.isVal 168 169 = false := by kernel_rfl
theorem vp169_167 : lawProg.isVal 169 167 = false := by kernel_rfl
theorem vp173_152 : lawProg.isVal 173 152 = false := by kernel_rfl
theorem vp174_172 : lawProg.isVal 174 172 = true := by kernel_rfl
theorem vp175_123 : lawProg.isVal 175 123 = true := by kernel_rfl
theorem vp175_170 : lawProg.isVal 175 170 = true := by kernel_rfl
theorem vp191_206 : lawProg.isVal 191 206 = true := by kernel_rfl
theorem vp192_207 : lawProg.isVal 192 207 = false := by kernel_rfl
theorem vp206_209 : lawProg.isVal 206 209 = true := by kernel_rfl
theorem vp210_206 : lawProg.isVal 210 206 = true := by kernel_rfl
theorem vp210_211 : lawProg.isVal 210 211 = true := by kernel_rfl
theorem ord7_4 : lawProg.ord 7 4 = some ⟨[(0, []), (1, []), (2, [0]), (3, []), (4, []), (5, []), (6, []), (7, []), (8, [])], [[], [], [1], [0, 1, 2], [0, 1, 2, 3], [0, 1, 2, 3, 4], [0, 1, 2, 3, 4], [0, 1, 2, 3, 4, 5], [0, 1, 2, 3, 4, 5, 6, 7]]⟩ := by kernel_rfl
theorem ord13_1 : lawProg.ord 13 1 = some ⟨[(0, []), (1, []), (2, []), (3, []), (4, []), (5, []), (6, []), (7, []), (9, []), (10, []), (12, []), (13, []), (14, []), (8, [1, 3, 5, 10, 14]), (11, [1, 3, 5, 14]), (15, [1, 3, 5]), (16, []), (17, [])], [[], [0], [], [2], [], [4], [], [6], [6, 7], [], [9], [6, 7, 8, 9, 10], [], [], [13], [6, 7, 8, 9, 10, 11, 12, 13, 14], [0, 1, 2, 3, 4, 5, 6, 7, 8, 9, 10, 11, 12, 13, 14, 15], [0, 1, 2, 3, 4, 5, 6, 7, 8, 9, 10, 11, 12, 13, 14, 15, 16]]⟩ := by kernel_rfl
theorem ord15_7 : lawProg.ord 15 7 = some ⟨[(0, []), (1, []), (2, []), (9, []), (3, [0]), (4, [0]), (5, []), (6, []), (7, []), (8, []), (10, []), (11, [])], [[], [], [], [2], [1, 2, 3], [0, 1, 2, 3, 4], [0, 1, 2, 3, 4, 5], [0, 1, 2, 3, 4, 5, 6], [0, 1, 2, 3, 4, 5, 6], [], [0, 1, 2, 3, 4, 5, 6, 7, 9], [0, 1, 2, 3, 4, 5, 6, 7, 8, 9, 10]]⟩ := by kernel_rfl
theorem ord15_13 : lawProg.ord 15 13 = some ⟨[(0, []), (1, []), (2, []), (3, [1]), (4, []), (5, []), (6, []), (7, [])], [[], [0], [], [2], [2, 3], [0, 1, 2, 3, 4], [0, 1, 2, 3, 4, 5], [0, 1, 2, 3, 4, 5, 6]]⟩ := by kernel_rfl
theorem ord32_9 : lawProg.ord 32 9 = some ⟨[(0, []), (1, []), (2, []), (3, []), (4, []), (5, []), (6, []), (7, []), (8, []), (9, []), (10, []), (11, []), (12, []), (13, []), (14, []), (15, []), (16, []), (17, [])], [[], [], [], [], [3], [], [], [6], [5, 6, 7], [5, 6, 7, 8], [], [], [10, 11], [10, 11, 12], [0, 1, 5, 6, 7, 8, 9, 10, 11, 12, 13], [0, 1, 5, 6, 7, 8, 9, 10, 11, 12, 13, 14], [0, 1, 2, 3, 4, 5, 6, 7, 8, 9, 10, 11, 12, 13, 14, 15], [0, 1, 2, 3, 4, 5, 6, 7, 8, 9, 10, 11, 12, 13, 14, 15, 16]]⟩ := by kernel_rfl
theorem ord32_10 : lawProg.ord 32 10 = some ⟨[(0, []), (1, []), (2, []), (3, []), (4, []), (5, []), (6, []), (7, []), (8, []), (9, []), (10, []), (11, []), (12, [])], [[], [], [], [1, 2], [1, 2, 3], [], [], [6], [5, 6, 7], [5, 6, 7, 8], [1, 2, 3, 4, 5, 6, 7, 8, 9], [0], [0, 1, 2, 3, 4, 5, 6, 7, 8, 9, 10, 11]]⟩ := by kernel_rfl
theorem ord34_7 : lawProg.ord 34 7 = some ⟨[(0, []), (1, []), (2, []), (3, []), (4, []), (5, []), (6, []), (7, []), (8, []), (9, []), (10, []), (11, []), (12, []), (13, []), (14, []), (15, []), (16, []), (17, [])], [[], [], [1], [], [1, 2, 3], [1, 2, 3, 4], [1, 2, 3, 4, 5], [1, 2, 3, 4, 5, 6], [], [8], [], [8, 9, 10], [8, 9, 10, 11], [8, 9, 10, 11, 12], [8, 9, 10, 11, 12, 13], [1, 2, 3, 4, 5, 6, 7, 8, 9, 10, 11, 12, 13, 14], [0, 1, 2, 3, 4, 5, 6, 7, 8, 9, 10, 11, 12, 13, 14, 15], [0, 1, 2, 3, 4, 5, 6, 7, 8, 9, 10, 11, 12, 13, 14, 15, 16]]⟩ := by kernel_rfl
theorem ord48_1 : lawProg.ord 48 1 = some ⟨[(0, []), (1, []), (2, []), (3, []), (4, []), (5, []), (6, []), (9, []), (7, [1, 3]), (8, []), (10, [])], [[], [0], [], [2], [], [], [5], [4, 5, 6], [0, 1, 2, 3, 4, 5, 6, 7], [], [0, 1, 2, 3, 4, 5, 6, 7, 8, 9]]⟩ := by kernel_rfl
theorem ord48_5 : lawProg.ord 48 5 = some ⟨[(0, []), (1, []), (2, []), (3, []), (4, []), (5, []), (6, []), (7, [1]), (8, []), (9, []), (10, []), (11, [])], [[], [0], [], [2], [], [2, 3, 4], [2, 3, 4, 5], [2, 3, 4, 5, 6], [2, 3, 4, 5, 6, 7], [0, 1, 2, 3, 4, 5, 6, 7, 8], [0, 1, 2, 3, 4, 5, 6, 7, 8, 9], [0, 1, 2, 3, 4, 5, 6, 7, 8, 9, 10]]⟩ := by kernel_rfl
theorem ord59_6 : lawProg.ord 59 6 = some ⟨[(0, []), (1, []), (2, []), (3, []), (4, []), (5, []), (6, []), (7, []), (8, [])], [[], [], [0, 1], [0, 1, 2], [], [], [4, 5], [4, 5, 6], [0, 1, 2, 3, 4, 5, 6, 7]]⟩ := by kernel_rfl
theorem ord118_18 : lawProg.ord 118 18 = some ⟨[(0, []), (1, []), (2, []), (3, []), (4, []), (6, []), (7, []), (8, []), (9, []), (5, [7, 9]), (10, []), (11, [])], [[], [], [1], [1, 2], [1, 2, 3], [0, 1, 2, 3, 4], [], [6], [6, 7], [6, 7, 8], [0, 1, 2, 3, 4, 5, 6, 7, 8, 9], [0, 1, 2, 3, 4, 5, 6, 7, 8, 9, 10]]⟩ := by kernel_rfl
theorem ord122_13 : lawProg.ord 122 13 = some ⟨[(0, []), (1, []), (2, []), (3, [1]), (4, []), (5, []), (6, []), (7, [])], [[], [0], [], [2], [2, 3], [0, 1, 2, 3, 4], [0, 1, 2, 3, 4, 5], [0, 1, 2, 3, 4, 5, 6]]⟩ := by kernel_rfl
theorem ord122_15 : lawProg.ord 122 15 = some ⟨[(0, []), (1, []), (2, []), (3, []), (4, []), (5, [1]), (6, []), (7, []), (8, []), (9, [])], [[], [0], [], [], [3], [2, 3, 4], [2, 3, 4, 5], [0, 1, 2, 3, 4, 5, 6], [0, 1, 2, 3, 4, 5, 6, 7], [0, 1, 2, 3, 4, 5, 6, 7, 8]]⟩ := by kernel_rfl
theorem ord122_19 : lawProg.ord 122 19 = some ⟨[(0, []), (1, []), (2, []), (3, []), (4, []), (5, [1]), (6, []), (7, []), (8, []), (9, [])], [[], [0], [], [], [3], [2, 3, 4], [2, 3, 4, 5], [0, 1, 2, 3, 4, 5, 6], [0, 1, 2, 3, 4, 5, 6, 7], [0, 1, 2, 3, 4, 5, 6, 7, 8]]⟩ := by kernel_rfl
theorem ord123_6 : lawProg.ord 123 6 = some ⟨[(0, []), (1, []), (2, []), (3, []), (4, []), (6, []), (5, [6]), (7, []), (8, []), (9, [])], [[], [0], [0, 1], [0, 1, 2], [0, 1, 2, 3], [0, 1, 2, 3, 4], [0, 1, 2, 3], [0, 1, 2, 3, 4, 5, 6], [0, 1, 2, 3, 4, 5, 6, 7], [0, 1, 2, 3, 4, 5, 6, 7, 8]]⟩ := by kernel_rfl
theorem ord123_8 : lawProg.ord 123 8 = some ⟨[(0, []), (1, []), (2, []), (3, []), (4, []), (6, []), (5, [6]), (7, []), (8, []), (9, [])], [[], [0], [0, 1], [0, 1, 2], [0, 1, 2, 3], [0, 1, 2, 3, 4], [0, 1, 2, 3], [0, 1, 2, 3, 4, 5, 6], [0, 1, 2, 3, 4, 5, 6, 7], [0, 1, 2, 3, 4, 5, 6, 7, 8]]⟩ := by kernel_rfl
theorem ord123_11 : lawProg.ord 123 11 = some ⟨[(0, []), (1, []), (2, []), (3, []), (4, []), (5, []), (6, []), (7, []), (8, []), (9, []), (10, []), (11, []), (12, []), (13, []), (15, []), (14, [15]), (16, []), (17, []), (18, [])], [[], [0], [0, 1], [0, 1, 2], [0, 1, 2, 3], [0, 1, 2, 3, 4], [0, 1, 2, 3, 4, 5], [0, 1, 2, 3, 4, 5, 6], [0, 1, 2, 3, 4, 5, 6, 7], [0, 1, 2, 3, 4, 5, 6, 7, 8], [0, 1, 2, 3, 4, 5, 6, 7, 8, 9], [0, 1, 2, 3, 4, 5, 6, 7, 8, 9, 10], [0, 1, 2, 3, 4, 5, 6, 7, 8, 9, 10, 11], [0, 1, 2, 3, 4, 5, 6, 7, 8, 9, 10, 11, 12], [0, 1, 2, 3, 4, 5, 6, 7, 8, 9, 10, 11, 12, 13], [0, 1, 2, 3, 4, 5, 6, 7, 8, 9, 10, 11, 12], [0, 1, 2, 3, 4, 5, 6, 7, 8, 9, 10, 11, 12, 13, 14, 15], [0, 1, 2, 3, 4, 5, 6, 7, 8, 9, 10, 11, 12, 13, 14, 15, 16], [0, 1, 2, 3, 4, 5, 6, 7, 8, 9, 10, 11, 12, 13, 14, 15, 16, 17]]⟩ := by kernel_rfl
theorem ord123_14 : lawProg.ord 123 14 = some ⟨[(0, []), (1, []), (2, []), (3, []), (4, []), (5, []), (6, []), (7, []), (8, []), (9, []), (10, []), (11, []), (12, []), (13, []), (14, []), (15, []), (16, []), (17, []), (19, []), (18, [19]), (20, []), (21, []), (22, [])], [[], [0], [0, 1], [0, 1, 2], [0, 1, 2, 3], [0, 1, 2, 3, 4], [0, 1, 2, 3, 4, 5], [0, 1, 2, 3, 4, 5, 6], [0, 1, 2, 3, 4, 5, 6, 7], [0, 1, 2, 3, 4, 5, 6, 7], [0, 1, 2, 3, 4, 5, 6, 7], [0, 1, 2, 3, 4, 5, 6, 7, 9, 10], [0, 1, 2, 3, 4, 5, 6, 7, 9, 10, 11], [0, 1, 2, 3, 4, 5, 6, 7, 9, 10, 11, 12], [0, 1, 2, 3, 4, 5, 6, 7, 8, 9, 10, 11, 12, 13], [0, 1, 2, 3, 4, 5, 6, 7, 8, 9, 10, 11, 12, 13, 14], [0, 1, 2, 3, 4, 5, 6, 7, 8, 9, 10, 11, 12, 13, 14, 15], [0, 1, 2, 3, 4, 5, 6, 7, 8, 9, 10, 11, 12, 13, 14, 15, 16], [0, 1, 2, 3, 4, 5, 6, 7, 8, 9, 10, 11, 12, 13, 14, 15, 16, 17], [0, 1, 2, 3, 4, 5, 6, 7, 8, 9, 10, 11, 12, 13, 14, 15, 16], [0, 1, 2, 3, 4, 5, 6, 7, 8, 9, 10, 11, 12, 13, 14, 15, 16, 17, 18, 19], [0, 1, 2, 3, 4, 5, 6, 7, 8, 9, 10, 11, 12, 13, 14, 15, 16, 17, 18, 19, 20], [0, 1, 2, 3, 4, 5, 6, 7, 8, 9, 10, 11, 12, 13, 14, 15, 16, 17, 18, 19, 20, 21]]⟩ := by kernel_rfl
theorem ord123_23 : lawProg.ord 123 23 = some ⟨[(0, []), (1, []), (2, []), (3, []), (4, []), (5, []), (6, []), (7, []), (8, []), (9, []), (10, []), (11, []), (12, []), (13, []), (14, []), (15, []), (16, []), (17, []), (18, []), (19, []), (20, []), (21, []), (22, []), (23, []), (24, []), (25, []), (26, []), (27, []), (28, []), (29, []), (30, []), (31, []), (32, []), (33, []), (34, []), (35, []), (36, []), (37, [])], [[], [], [1], [1, 2], [1, 2, 3], [], [5], [5, 6], [5, 6, 7], [0, 1, 2, 3, 4, 5, 6, 7, 8], [0, 1, 2, 3, 4, 5, 6, 7, 8, 9], [0, 1, 2, 3, 4, 5, 6, 7, 8, 9, 10], [0, 1, 2, 3, 4, 5, 6, 7, 8, 9, 10], [0, 1, 2, 3, 4, 5, 6, 7, 8, 9, 10, 12], [0, 1, 2, 3, 4, 5, 6, 7, 8, 9, 10, 12, 13], [0, 1, 2, 3, 4, 5, 6, 7, 8, 9, 10, 12, 13, 14], [0, 1, 2, 3, 4, 5, 6, 7, 8, 9, 10], [0, 1, 2, 3, 4, 5, 6, 7, 8, 9, 10, 16], [0, 1, 2, 3, 4, 5, 6, 7, 8, 9, 10, 16, 17], [0, 1, 2, 3, 4, 5, 6, 7, 8, 9, 10, 16, 17, 18], [0, 1, 2, 3, 4, 5, 6, 7, 8, 9, 10, 11, 12, 13, 14, 15, 16, 17, 18, 19], [0, 1, 2, 3, 4, 5, 6, 7, 8, 9, 10, 11, 12, 13, 14, 15, 16, 17, 18, 19, 20], [0, 1, 2, 3, 4, 5, 6, 7, 8, 9, 10, 11, 12, 13, 14, 15, 16, 17, 18, 19, 20, 21], [0, 1, 2, 3, 4, 5, 6, 7, 8, 9, 10, 11, 12, 13, 14, 15, 16, 17, 18, 19, 20, 21, 22], [0, 1, 2, 3, 4, 5, 6, 7, 8, 9, 10, 11, 12, 13, 14, 15, 16, 17, 18, 19, 20, 21, 22, 23], [0, 1, 2, 3, 4, 5, 6, 7, 8, 9, 10, 11, 12, 13, 14, 15, 16, 17, 18, 19, 20, 21, 22, 23, 24], [0, 1, 2, 3, 4, 5, 6, 7, 8, 9, 10, 11, 12, 13, 14, 15, 16, 17, 18, 19, 20, 21, 22, 23, 24, 25], [0, 1, 2, 3, 4, 5, 6, 7, 8, 9, 10, 11, 12, 13, 14, 15, 16, 17, 18, 19, 20, 21, 22, 23, 24, 25, 26], [0, 1, 2, 3, 4, 5, 6, 7, 8, 9, 10, 11, 12, 13, 14, 15, 16, 17, 18, 19, 20, 21, 22, 23, 24, 25, 26, 27], [0, 1, 2, 3, 4, 5, 6, 7, 8, 9, 10, 11, 12, 13, 14, 15, 16, 17, 18, 19, 20, 21, 22, 23, 24, 25, 26, 27, 28], [0, 1, 2, 3, 4, 5, 6, 7, 8, 9, 10, 11, 12, 13, 14, 15, 16, 17, 18, 19, 20, 21, 22, 23, 24, 25, 26, 27, 28, 29], [0, 1, 2, 3, 4, 5, 6, 7, 8, 9, 10, 11, 12, 13, 14, 15, 16, 17, 18, 19, 20, 21, 22, 23, 24, 25, 26, 27, 28, 29, 30], [0, 1, 2, 3, 4, 5, 6, 7, 8, 9, 10, 11, 12, 13, 14, 15, 16, 17, 18, 19, 20, 21, 22, 23, 24, 25, 26, 27, 28, 29, 30, 31], [0, 1, 2, 3, 4, 5, 6, 7, 8, 9, 10, 11, 12, 13, 14, 15, 16, 17, 18, 19, 20, 21, 22, 23, 24, 25, 26, 27, 28, 29, 30, 31, 32], [0, 1, 2, 3, 4, 5, 6, 7, 8, 9, 10, 11, 12, 13, 14, 15, 16, 17, 18, 19, 20, 21, 22, 23, 24, 25, 26, 27, 28, 29, 30, 31, 32, 33], [0, 1, 2, 3, 4, 5, 6, 7, 8, 9, 10, 11, 12, 13, 14, 15, 16, 17, 18, 19, 20, 21, 22, 23, 24, 25, 26, 27, 28, 29, 30, 31, 32, 33, 34], [0, 1, 2, 3, 4, 5, 6, 7, 8, 9, 10, 11, 12, 13, 14, 15, 16, 17, 18, 19, 20, 21, 22, 23, 24, 25, 26, 27, 28, 29, 30, 31, 32, 33, 34, 35], [0, 1, 2, 3, 4, 5, 6, 7, 8, 9, 10, 11, 12, 13, 14, 15, 16, 17, 18, 19, 20, 21, 22, 23, 24, 25, 26, 27, 28, 29, 30, 31, 32, 33, 34, 35, 36]]⟩ := by kernel_rfl
theorem ord167_2 : lawProg.ord 167 2 = some ⟨[(0, []), (1, []), (2, []), (3, []), (4, []), (5, []), (6, []), (7, []), (8, []), (9, []), (10, []), (11, []), (12, []), (13, []), (14, []), (15, [])], [[], [], [1], [1, 2], [1, 2, 3], [1, 2, 3, 4], [1, 2, 3, 4, 5], [], [7], [7, 8], [7, 8, 9], [7, 8, 9, 10], [1, 2, 3, 4, 5, 6], [0, 1, 2, 3, 4, 5, 6, 7, 8, 9, 10, 11, 12], [0, 1, 2, 3, 4, 5, 6, 7, 8, 9, 10, 11, 12, 13], [0, 1, 2, 3, 4, 5, 6, 7, 8, 9, 10, 11, 12, 13, 14]]⟩ := by kernel_rfl
theorem ord175_1 : lawProg.ord 175 1 = some ⟨[(0, []), (1, []), (2, []), (3, []), (4, []), (5, []), (6, []), (7, []), (8, []), (9, []), (10, []), (11, []), (12, [])], [[], [0], [0, 1], [0, 1, 2], [0, 1, 2], [0, 1, 2, 4], [0, 1, 2, 4, 5], [0, 1, 2, 4, 5, 6], [0, 1, 2], [0, 1, 2, 3, 4, 5, 6, 7, 8], [0, 1, 2, 3, 4, 5, 6, 7, 8, 9], [0, 1, 2, 3, 4, 5, 6, 7, 8, 9, 10], [0, 1, 2, 3, 4, 5, 6, 7, 8, 9, 10, 11]]⟩ := by kernel_rfl
theorem ord210_4 : lawProg.ord 210 4 = some ⟨[(0, []), (1, []), (2, []), (3, [0]), (4, []), (5, [])], [[], [], [], [1, 2], [0, 1, 2, 3], [0, 1, 2, 3, 4]]⟩ := by kernel_rfl
set_option linter.defProp false
def sx := And.intro @q_seq (And.intro @q_cond (And.intro @q_block (And.intro @q_region (And.intro @q_drawn (And.intro @q_skip (And.intro @q_exit (And.intro @q_ret (And.intro @lenB_vs (And.intro @lenB_sl (And.intro @lenB_str (And.intro @cells_bool (And.intro @one_bool (And.intro @cells_int (And.intro @one_int (And.intro @cells_str (And.intro @one_str (And.intro @cells_ptr (And.intro @one_ptr (And.intro @cells_nilptr (And.intro @one_nilptr (And.intro @cells_slice (And.intro @one_slice (And.intro @cells_vs (And.intro @one_vs (And.intro @cells_vptr (And.intro @one_vptr (And.intro @cells_func (And.intro @one_func (And.intro @cells_yield (And.intro @one_yield (And.intro @cells_nilfn (And.intro @one_nilfn (And.intro @cells_nilmap (And.intro @one_nilmap (And.intro @cells_map (And.intro @one_map (And.intro @cells_agg (And.intro @Tr.get_set (And.intro @AMem.get_put (And.intro @AMem.get_push (And.intro @AMem.next_put (And.intro @AMem.next_push (And.intro @AMem.get_empty (And.intro @next_empty (And.intro @Option.map_some.{0, 0} (And.intro @Option.map_none.{0, 0} (And.intro @Option.bind_some.{0, 0} (And.intro @Nat.zero_add (And.intro @Nat.add_zero (And.intro @Nat.mul_one (And.intro @Nat.one_mul (And.intro @Nat.zero_mul (And.intro @and_self (And.intro @and_true (And.intro @true_and (And.intro @false_and (And.intro @and_false (And.intro @Bool.and_true (And.intro @Bool.true_and (And.intro @Bool.and_false (And.intro @Bool.false_and (And.intro @if_true.{1} (And.intro @if_false.{1} (And.intro @Bool.false_eq_true (And.intro @Bool.not_true (And.intro @Bool.not_false (And.intro @BEq.rfl.{0} (And.intro @beq_true_true (And.intro @beq_true_false (And.intro @beq_false_true (And.intro @beq_false_false (And.intro @List.length_cons.{0} (And.intro @List.length_nil.{0} (And.intro @List.all_cons.{0} (And.intro @List.all_nil.{0} (And.intro @List.getElem?_cons_zero.{0} (And.intro @List.getElem?_cons_succ.{0} (And.intro @List.getElem?_nil.{0} (And.intro @List.getElem?_toArray.{0} (And.intro @List.take_succ_cons.{0} (And.intro @List.take_zero.{0} (And.intro @List.drop_succ_cons.{0} (And.intro @List.drop_zero.{0} (And.intro @List.set_cons_zero.{0} (And.intro @List.set_cons_succ.{0} (And.intro @List.append_nil.{0} (And.intro @List.nil_append.{0} (And.intro @List.cons_append.{0} (And.intro @decide_true (And.intro @decide_false (And.intro @decide_eq_true_eq (And.intro @Option.isNone_none.{0} (And.intro @Option.isNone_some.{0} (And.intro @Option.isSome_none.{0} (And.intro @Option.isSome_some.{0} (And.intro @Bool.or_true (And.intro @Bool.true_or (And.intro @Bool.or_false (And.intro @Bool.false_or (And.intro @ne_eq.{1} (And.intro @not_false_eq_true (And.intro @not_true_eq_false (And.intro @eq_self.{1} (@beq_refl))))))))))))))))))))))))))))))))))))))))))))))))))))))))))))))))))))))))))))))))))))))))))))))))))))))))
def dx := And.intro @runOps.eq_1 (And.intro @runOps.eq_2 (And.intro @runD.eq_1 (And.intro @runD.eq_2 (And.intro @again.eq_1 (And.intro @step1.eq_1 (And.intro @wantA.eq_1 (And.intro @opSem.eq_1 (And.intro @evalO.eq_1 (And.intro @evalO.eq_2 (And.intro @evalO.eq_3 (And.intro @evalO.eq_4 (And.intro @evalL.eq_1 (And.intro @evalL.eq_2 (And.intro @evalOpt.eq_1 (And.intro @evalOpt.eq_2 (And.intro @evalParts.eq_1 (And.intro @evalParts.eq_2 (And.intro @putA.eq_1 (And.intro @putA.eq_2 (And.intro @ofConst.eq_1 (And.intro @ofConst.eq_2 (And.intro @ofConst.eq_3 (And.intro @ofScalar.eq_1 (And.intro @ofScalar.eq_2 (And.intro @ofScalar.eq_3 (And.intro @ofScalar.eq_4 (And.intro @ofScalar.eq_5 (And.intro @ofScalar.eq_6 (And.intro @ofScalar.eq_7 (And.intro @ofScalar.eq_8 (And.intro @ofScalars.eq_1 (And.intro @ofScalars.eq_2 (And.intro @abin.eq_1 (And.intro @abin.eq_2 (And.intro @abin.eq_3 (And.intro @abin.eq_4 (And.intro @abin.eq_5 (And.intro @abin.eq_6 (And.intro @abin.eq_7 (And.intro @abinInt.eq_1 (And.intro @abinInt.eq_2 (And.intro @abinInt.eq_3 (And.intro @abinInt.eq_4 (And.intro @abinInt.eq_5 (And.intro @abinInt.eq_6 (And.intro @abinInt.eq_7 (And.intro @abinInt.eq_8 (And.intro @abinInt.eq_9 (And.intro @abinInt.eq_10 (And.intro @abinInt.eq_11 (And.intro @abinInt.eq_12 (And.intro @abinInt.eq_13 (And.intro @abinInt.eq_14 (And.intro @abinInt.eq_15 (And.intro @abinInt.eq_16 (And.intro @aun.eq_1 (And.intro @aun.eq_2 (And.intro @aun.eq_3 (And.intro @aun.eq_4 (And.intro @convA.eq_1 (And.intro @convA.eq_2 (And.intro @convA.eq_3 (And.intro @convA.eq_4 (And.intro @builtinA.eq_def (And.intro @oneTy.eq_1 (And.intro @elemTy.eq_1 (And.intro @loadA.eq_1 (And.intro @loadA.eq_2 (And.intro @loadA.eq_3 (And.intro @loadA.eq_4 (And.intro @storeA.eq_1 (And.intro @storeA.eq_2 (And.intro @storeCellsA.eq_1 (And.intro @setAt.eq_1 (And.intro @setAt.eq_2 (And.intro @partA.eq_1 (And.intro @fillA.eq_1 (And.intro @fillA.eq_2 (And.intro @placesA.eq_1 (And.intro @placesA.eq_2 (And.intro @isFn.eq_1 (And.intro @isFn.eq_2 (And.intro @TyI.isAgg.eq_1 (And.intro @isSeq.eq_1 (And.intro @isNum.eq_1 (And.intro @sliceA.eq_1 (And.intro @sliceA.eq_2 (And.intro @sliceA.eq_3 (And.intro @sliceA.eq_4 (And.intro @sliceA.eq_5 (And.intro @sliceA.eq_6 (And.intro @sliceA.eq_7 (And.intro @boundA.eq_1 (And.intro @boundA.eq_2 (And.intro @boundA.eq_3 (And.intro @setParams.eq_1 (And.intro @setParams.eq_2 (And.intro @minL.eq_1 (And.intro @minL.eq_2 (And.intro @minF.eq_1 (And.intro @minF.eq_2 (And.intro @minF.eq_3 (And.intro @maxL.eq_1 (And.intro @maxL.eq_2 (And.intro @maxF.eq_1 (And.intro @maxF.eq_2 (And.intro @maxF.eq_3 (And.intro @repZ.eq_1 (@repZ.eq_2)))))))))))))))))))))))))))))))))))))))))))))))))))))))))))))))))))))))))))))))))))))))))))))))))))))))))))))
def fx7 := And.intro @vp7_9 (And.intro @vp7_10 (And.intro @vp7_11 (And.intro @vp7_13 (And.intro @vp7_15 (And.intro @vp7_21 (And.intro @vp7_27 (And.intro @vp7_28 (And.intro @vp7_32 (And.intro @ty3 (And.intro @ty4 (And.intro @ty5 (And.intro @ty9 (And.intro @ty22 (And.intro @ty23 (And.intro @ty25 (And.intro @ty27 (And.intro @ty28 (And.intro @ty29 (And.intro @ty31 (And.intro @ty32 (And.intro @ty33 (And.intro @ty35 (And.intro @ty39 (And.intro @ty40 (And.intro @ty54 (And.intro @ty72 (And.intro @ty73 (And.intro @ty78 (And.intro @ty79 (And.intro @ty80 (And.intro @ty82 (And.intro @ty146 (@ord7_4)))))))))))))))))))))))))))))))))
def fx9 := And.intro @vp9_34 (And.intro @ty3 (And.intro @ty4 (And.intro @ty5 (And.intro @ty28 (And.intro @ty29 (And.intro @ty31 (And.intro @ty32 (And.intro @ty33 (And.intro @ty35 (@ty146))))))))))
def fx11 := And.intro @vp11_39 (And.intro @vp11_40 (And.intro @vp11_41 (And.intro @vp11_42 (And.intro @vp11_43 (And.intro @vp11_44 (And.intro @vp11_45 (And.intro @ty3 (And.intro @ty4 (And.intro @ty5 (And.intro @ty9 (And.intro @ty22 (And.intro @ty23 (And.intro @ty25 (And.intro @ty27 (And.intro @ty28 (And.intro @ty29 (And.intro @ty31 (And.intro @ty32 (And.intro @ty33 (And.intro @ty35 (And.intro @ty39 (And.intro @ty40 (And.intro @ty78 (And.intro @ty79 (And.intro @ty80 (And.intro @ty82 (And.intro @ty93 (@ty146))))))))))))))))))))))))))))
def fx13 := And.intro @vp13_48 (And.intro @vp13_49 (And.intro @ty3 (And.intro @ty4 (And.intro @ty5 (And.intro @ty28 (And.intro @ty29 (And.intro @ty31 (And.intro @ty32 (And.intro @ty33 (And.intro @ty35 (And.intro @ty146 (@ord13_1))))))))))))
def fx15 := And.intro @vp15_11 (And.intro @vp15_39 (And.intro @vp15_54 (And.intro @vp15_55 (And.intro @vp15_56 (And.intro @vp15_57 (And.intro @vp15_58 (And.intro @vp15_59 (And.intro @ty3 (And.intro @ty4 (And.intro @ty5 (And.intro @ty9 (And.intro @ty22 (And.intro @ty23 (And.intro @ty25 (And.intro @ty27 (And.intro @ty28 (And.intro @ty29 (And.intro @ty31 (And.intro @ty32 (And.intro @ty33 (And.intro @ty35 (And.intro @ty39 (And.intro @ty40 (And.intro @ty78 (And.intro @ty79 (And.intro @ty80 (And.intro @ty82 (And.intro @ty106 (And.intro @ty146 (And.intro @ord15_7 (@ord15_13)))))))))))))))))))))))))))))))
def fx21 := And.intro @ty3 (And.intro @ty5 (And.intro @ty39 (@ty54)))
def fx27 := And.intro @vp27_42 (And.intro @vp27_45 (And.intro @vp27_68 (And.intro @vp27_88 (And.intro @ty3 (And.intro @ty4 (And.intro @ty5 (And.intro @ty39 (And.intro @ty54 (@ty93)))))))))
def fx28 := And.intro @vp28_27 (And.intro @vp28_54 (And.intro @vp28_56 (And.intro @vp28_59 (And.intro @vp28_72 (And.intro @vp28_89 (And.intro @ty3 (And.intro @ty4 (And.intro @ty5 (And.intro @ty39 (And.intro @ty40 (And.intro @ty54 (@ty106))))))))))))
def fx32 := And.intro @ty3 (And.intro @ty5 (And.intro @ty39 (And.intro @ty72 (And.intro @ord32_9 (@ord32_10)))))
def fx34 := And.intro @vp34_34 (And.intro @ty3 (And.intro @ty4 (And.intro @ty5 (And.intro @ty28 (And.intro @ty29 (And.intro @ty31 (@ord34_7)))))))
def fx38 := And.intro @ty3 (And.intro @ty5 (@ty39))
def fx40 := And.intro @vp40_86 (And.intro @vp40_114 (And.intro @vp40_115 (And.intro @vp40_116 (And.intro @ty3 (And.intro @ty4 (And.intro @ty5 (And.intro @ty9 (And.intro @ty22 (And.intro @ty23 (And.intro @ty25 (And.intro @ty27 (And.intro @ty28 (And.intro @ty29 (And.intro @ty31 (And.intro @ty32 (And.intro @ty33 (And.intro @ty35 (And.intro @ty40 (And.intro @ty78 (And.intro @ty79 (And.intro @ty80 (And.intro @ty82 (@ty146)))))))))))))))))))))))
def fx41 := And.intro @vp41_117 (And.intro @vp41_118 (And.intro @ty3 (And.intro @ty4 (And.intro @ty5 (And.intro @ty9 (And.intro @ty22 (And.intro @ty23 (And.intro @ty25 (And.intro @ty27 (And.intro @ty28 (And.intro @ty29 (And.intro @ty31 (And.intro @ty39 (And.intro @ty40 (And.intro @ty78 (And.intro @ty79 (And.intro @ty80 (And.intro @ty82 (@ty163)))))))))))))))))))
def fx42 := And.intro @ty5 (And.intro @ty39 (@ty93))
def fx43 := And.intro @vp43_42 (And.intro @ty3 (And.intro @ty5 (@ty39)))
def fx44 := And.intro @vp44_43 (And.intro @ty3 (And.intro @ty33 (@ty146)))
def fx45 := And.intro @vp45_38 (And.intro @vp45_88 (And.intro @ty5 (And.intro @ty39 (@ty93))))
def fx48 := And.intro @vp48_48 (And.intro @ty3 (And.intro @ty5 (And.intro @ty28 (And.intro @ty29 (And.intro @ty31 (And.intro @ord48_1 (@ord48_5)))))))
def fx49 := And.intro @ty3 (And.intro @ty32 (And.intro @ty33 (@ty146)))
def fx54 := And.intro @vp54_56 (And.intro @ty3 (And.intro @ty5 (@ty39)))
def fx55 := And.intro @vp55_59 (And.intro @vp55_117 (And.intro @vp55_118 (And.intro @vp55_122 (And.intro @vp55_123 (And.intro @ty3 (And.intro @ty4 (And.intro @ty5 (And.intro @ty9 (And.intro @ty22 (And.intro @ty23 (And.intro @ty25 (And.intro @ty27 (And.intro @ty28 (And.intro @ty29 (And.intro @ty31 (And.intro @ty39 (And.intro @ty40 (And.intro @ty78 (And.intro @ty79 (And.intro @ty80 (And.intro @ty82 (And.intro @ty163 (@ty171)))))))))))))))))))))))
def fx56 := And.intro @ty3 (And.intro @ty5 (And.intro @ty39 (@ty106)))
def fx57 := And.intro @vp57_54 (@ty3)
def fx58 := And.intro @vp58_57 (And.intro @ty3 (And.intro @ty33 (@ty146)))
def fx59 := And.intro @ty3 (And.intro @ty5 (And.intro @ty39 (@ord59_6)))
def fx68 := And.intro @vp68_86 (And.intro @ty3 (And.intro @ty5 (And.intro @ty39 (@ty54))))
def fx72 := And.intro @ty5 (@ty39)
def fx86 := @ty3
def fx88 := And.intro @vp88_42 (And.intro @ty3 (And.intro @ty5 (@ty39)))
def fx89 := And.intro @vp89_54 (@ty3)
def fx113 := And.intro @vp113_114 (@ty4)
def fx114 := And.intro @vp114_159 (@ty40)
def fx115 := And.intro @vp115_117 (And.intro @ty3 (And.intro @ty4 (And.intro @ty5 (And.intro @ty9 (And.intro @ty22 (And.intro @ty23 (And.intro @ty25 (And.intro @ty27 (And.intro @ty28 (And.intro @ty29 (And.intro @ty31 (And.intro @ty78 (And.intro @ty79 (And.intro @ty80 (And.intro @ty82 (@ty163))))))))))))))))
def fx116 := And.intro @vp116_160 (@ty3)
def fx117 := And.intro @vp117_39 (And.intro @vp117_162 (And.intro @ty3 (And.intro @ty4 (And.intro @ty5 (And.intro @ty9 (And.intro @ty22 (And.intro @ty23 (And.intro @ty25 (And.intro @ty27 (And.intro @ty28 (And.intro @ty40 (And.intro @ty78 (And.intro @ty79 (And.intro @ty80 (And.intro @ty82 (@ty163))))))))))))))))
def fx118 := And.intro @vp118_118 (And.intro @vp118_163 (And.intro @vp118_164 (And.intro @ty3 (And.intro @ty5 (And.intro @ty28 (And.intro @ty29 (And.intro @ty31 (And.intro @ty39 (@ord118_18)))))))))
def fx122 := And.intro @vp122_122 (And.intro @vp122_167 (And.intro @vp122_168 (And.intro @vp122_169 (And.intro @ty3 (And.intro @ty5 (And.intro @ty28 (And.intro @ty29 (And.intro @ty31 (And.intro @ord122_13 (And.intro @ord122_15 (@ord122_19)))))))))))
def fx123 := And.intro @vp123_123 (And.intro @vp123_162 (And.intro @vp123_170 (And.intro @vp123_171 (And.intro @vp123_172 (And.intro @vp123_173 (And.intro @vp123_174 (And.intro @ty3 (And.intro @ty4 (And.intro @ty5 (And.intro @ty9 (And.intro @ty22 (And.intro @ty23 (And.intro @ty25 (And.intro @ty27 (And.intro @ty28 (And.intro @ty29 (And.intro @ty31 (And.intro @ty78 (And.intro @ty79 (And.intro @ty80 (And.intro @ty82 (And.intro @ty163 (And.intro @ty211 (And.intro @ord123_6 (And.intro @ord123_8 (And.intro @ord123_11 (And.intro @ord123_14 (@ord123_23))))))))))))))))))))))))))))
def fx152 := And.intro @ty3 (And.intro @ty4 (And.intro @ty9 (And.intro @ty22 (And.intro @ty28 (And.intro @ty78 (And.intro @ty79 (And.intro @ty80 (@ty82))))))))
def fx159 := And.intro @vp159_191 (And.intro @vp159_192 (And.intro @ty4 (And.intro @ty228 (@ty241))))
def fx160 := And.intro @ty3 (And.intro @ty32 (And.intro @ty33 (@ty146)))
def fx161 := And.intro @vp161_123 (And.intro @ty3 (And.intro @ty4 (And.intro @ty5 (And.intro @ty9 (And.intro @ty22 (And.intro @ty23 (And.intro @ty25 (And.intro @ty27 (And.intro @ty28 (And.intro @ty29 (And.intro @ty31 (And.intro @ty78 (And.intro @ty79 (And.intro @ty80 (And.intro @ty82 (@ty163))))))))))))))))
def fx162 := And.intro @vp162_193 (@ty3)
def fx163 := And.intro @vp163_164 (@ty3)
def fx164 := And.intro @ty3 (And.intro @ty5 (@ty39))
def fx167 := And.intro @ty3 (And.intro @ty5 (And.intro @ty39 (And.intro @ty171 (@ord167_2))))
def fx168 := And.intro @vp168_169 (@ty3)
def fx169 := And.intro @vp169_167 (And.intro @ty3 (@ty5))
def fx170 := And.intro @ty3 (And.intro @ty5 (And.intro @ty28 (And.intro @ty29 (@ty31))))
def fx171 := And.intro @ty3 (And.intro @ty4 (And.intro @ty5 (And.intro @ty28 (And.intro @ty29 (And.intro @ty31 (@ty211))))))
def fx172 := @ty3
def fx173 := And.intro @vp173_152 (And.intro @ty3 (And.intro @ty4 (And.intro @ty5 (And.intro @ty9 (And.intro @ty22 (And.intro @ty23 (And.intro @ty25 (And.intro @ty27 (And.intro @ty28 (And.intro @ty78 (And.intro @ty79 (And.intro @ty80 (And.intro @ty82 (@ty163))))))))))))))
def fx174 := And.intro @vp174_172 (And.intro @ty3 (And.intro @ty4 (@ty28)))
def fx175 := And.intro @vp175_123 (And.intro @vp175_170 (And.intro @ty3 (And.intro @ty4 (And.intro @ty5 (And.intro @ty9 (And.intro @ty22 (And.intro @ty23 (And.intro @ty25 (And.intro @ty27 (And.intro @ty28 (And.intro @ty29 (And.intro @ty31 (And.intro @ty78 (And.intro @ty79 (And.intro @ty80 (And.intro @ty82 (And.intro @ty163 (@ord175_1))))))))))))))))))
def fx191 := And.intro @vp191_206 (And.intro @ty3 (And.intro @ty33 (And.intro @ty146 (@ty228))))
def fx192 := And.intro @vp192_207 (And.intro @ty3 (And.intro @ty33 (And.intro @ty146 (And.intro @ty228 (@ty241)))))
def fx193 := And.intro @ty3 (And.intro @ty5 (And.intro @ty28 (And.intro @ty29 (@ty31))))
def fx194 := And.intro @ty3 (And.intro @ty4 (And.intro @ty5 (And.intro @ty9 (And.intro @ty23 (And.intro @ty25 (And.intro @ty28 (And.intro @ty78 (And.intro @ty79 (And.intro @ty80 (@ty82))))))))))
def fx206 := And.intro @vp206_209 (And.intro @ty3 (@ty228))
def fx207 := @ty228
def fx209 := And.intro @ty3 (@ty228)
def fx210 := And.intro @vp210_206 (And.intro @vp210_211 (And.intro @ty3 (And.intro @ty4 (And.intro @ty146 (And.intro @ty227 (And.intro @ty228 (@ord210_4)))))))
def fx211 := And.intro @ty3 (And.intro @ty5 (And.intro @ty227 (@ty248)))
end Go.Proofs.YtjckhhkhgjbpaaaGreatDoor
