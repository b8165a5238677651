/-
  Facts of the program's types, as the engine asks for them. No conditions of its own.
-/
import Derived.Test.YtcbnfkbnbdbfoaaGreatMC
import Derived.Test.YtcbnfkbnbdbfoaaGreatRows
namespace Go.Proofs.YtcbnfkbnbdbfoaaGreat
set_option linter.unusedSimpArgs false
set_option linter.unusedVariables false
set_option linter.defProp false
open Go.RowKit

theorem ti2 : tiOf Tryz.prog 2 = some ⟨.int .i64, 1, 8, [.v (.int .i64 0)], false⟩ := by kernel_rfl
theorem ti3 : tiOf Tryz.prog 3 = some ⟨.int .i64, 1, 8, [.v (.int .i64 0)], false⟩ := by kernel_rfl
theorem ti4 : tiOf Tryz.prog 4 = some ⟨.bool, 1, 1, [.v (.bool false)], false⟩ := by kernel_rfl
theorem ti5 : tiOf Tryz.prog 5 = some ⟨.int .u8, 1, 1, [.v (.int .u8 0)], false⟩ := by kernel_rfl
theorem ti6 : tiOf Tryz.prog 6 = some ⟨.int .u8, 1, 1, [.v (.int .u8 0)], false⟩ := by kernel_rfl
theorem ti7 : tiOf Tryz.prog 7 = some ⟨.struct [(0, 1, false), (1, 1, false), (2, 1, false), (3, 1, false)], 4, 24, [.v (.int .i64 0), .v (.int .i64 0), .v (.bool false), .v (.int .u8 0)], true⟩ := by kernel_rfl
theorem ti8 : tiOf Tryz.prog 8 = some ⟨.struct [(0, 1, false), (1, 1, false), (2, 1, false), (3, 1, false)], 4, 24, [.v (.int .i64 0), .v (.int .i64 0), .v (.bool false), .v (.int .u8 0)], true⟩ := by kernel_rfl
theorem ti9 : tiOf Tryz.prog 9 = some ⟨.str, 1, 16, [.v (.string ⟨#[]⟩)], false⟩ := by kernel_rfl
theorem ti10 : tiOf Tryz.prog 10 = some ⟨.str, 1, 16, [.v (.string ⟨#[]⟩)], false⟩ := by kernel_rfl
theorem ti11 : tiOf Tryz.prog 11 = some ⟨.str, 1, 16, [.v (.string ⟨#[]⟩)], false⟩ := by kernel_rfl
theorem ti12 : tiOf Tryz.prog 12 = some ⟨.int .u64, 1, 8, [.v (.int .u64 0)], false⟩ := by kernel_rfl
theorem ti13 : tiOf Tryz.prog 13 = some ⟨.struct [(0, 1, false), (1, 1, false)], 2, 24, [.v (.string ⟨#[]⟩), .v (.int .u64 0)], true⟩ := by kernel_rfl
theorem ti14 : tiOf Tryz.prog 14 = some ⟨.struct [(0, 1, false), (1, 1, false)], 2, 24, [.v (.string ⟨#[]⟩), .v (.int .u64 0)], true⟩ := by kernel_rfl
theorem ti18 : tiOf Tryz.prog 18 = some ⟨.struct [(0, 1, false)], 1, 8, [.v (.pointer none)], true⟩ := by kernel_rfl
theorem ti19 : tiOf Tryz.prog 19 = some ⟨.struct [(0, 1, false)], 1, 8, [.v (.pointer none)], true⟩ := by kernel_rfl
theorem ti21 : tiOf Tryz.prog 21 = some ⟨.int .i32, 1, 4, [.v (.int .i32 0)], false⟩ := by kernel_rfl
theorem ti22 : tiOf Tryz.prog 22 = some ⟨.struct [(0, 1, false), (1, 1, false)], 2, 16, [.v (.int .i64 0), .v (.int .i64 0)], true⟩ := by kernel_rfl
theorem ti23 : tiOf Tryz.prog 23 = some ⟨.struct [(0, 1, false), (1, 1, false)], 2, 16, [.v (.int .i64 0), .v (.int .i64 0)], true⟩ := by kernel_rfl
theorem ti24 : tiOf Tryz.prog 24 = some ⟨.slice 3, 1, 24, [.nil], false⟩ := by kernel_rfl
theorem ti25 : tiOf Tryz.prog 25 = some ⟨.slice 5, 1, 24, [.nil], false⟩ := by kernel_rfl
theorem ti26 : tiOf Tryz.prog 26 = some ⟨.struct [(0, 1, false), (1, 1, false)], 2, 32, [.v (.int .i64 0), .nil], true⟩ := by kernel_rfl
theorem ti27 : tiOf Tryz.prog 27 = some ⟨.struct [(0, 1, false), (1, 1, false)], 2, 32, [.v (.int .i64 0), .nil], true⟩ := by kernel_rfl
theorem ti28 : tiOf Tryz.prog 28 = some ⟨.slice 206, 1, 24, [.nil], false⟩ := by kernel_rfl
theorem ti29 : tiOf Tryz.prog 29 = some ⟨.struct [(0, 1, false), (1, 1, false), (2, 1, false)], 3, 56, [.v (.int .i64 0), .nil, .nil], true⟩ := by kernel_rfl
theorem ti30 : tiOf Tryz.prog 30 = some ⟨.struct [(0, 1, false), (1, 1, false), (2, 1, false)], 3, 56, [.v (.int .i64 0), .nil, .nil], true⟩ := by kernel_rfl
theorem ti31 : tiOf Tryz.prog 31 = some ⟨.struct [(0, 2, true), (2, 1, false), (3, 1, false), (4, 1, false), (5, 2, true), (7, 3, true)], 10, 144, [.v (.int .i64 0), .v (.int .i64 0), .v (.int .i64 0), .v (.bool false), .nil, .v (.int .i64 0), .nil, .v (.int .i64 0), .nil, .nil], true⟩ := by kernel_rfl
theorem ti32 : tiOf Tryz.prog 32 = some ⟨.struct [(0, 2, true), (2, 1, false), (3, 1, false), (4, 1, false), (5, 2, true), (7, 3, true)], 10, 144, [.v (.int .i64 0), .v (.int .i64 0), .v (.int .i64 0), .v (.bool false), .nil, .v (.int .i64 0), .nil, .v (.int .i64 0), .nil, .nil], true⟩ := by kernel_rfl
theorem ti33 : tiOf Tryz.prog 33 = some ⟨.slice 169, 1, 24, [.nil], false⟩ := by kernel_rfl
theorem ti34 : tiOf Tryz.prog 34 = some ⟨.struct [(0, 1, false), (1, 1, false), (2, 1, false), (3, 1, false), (4, 1, false)], 5, 56, [.v (.int .i64 0), .v (.int .i64 0), .v (.int .i64 0), .nil, .v (.int .i64 0)], true⟩ := by kernel_rfl
theorem ti35 : tiOf Tryz.prog 35 = some ⟨.struct [(0, 1, false), (1, 1, false), (2, 1, false), (3, 1, false), (4, 1, false)], 5, 56, [.v (.int .i64 0), .v (.int .i64 0), .v (.int .i64 0), .nil, .v (.int .i64 0)], true⟩ := by kernel_rfl
theorem ti39 : tiOf Tryz.prog 39 = some ⟨.struct [(0, 1, false), (1, 1, false)], 2, 16, [.v (.int .i64 0), .v (.int .i64 0)], true⟩ := by kernel_rfl
theorem ti40 : tiOf Tryz.prog 40 = some ⟨.struct [(0, 1, false), (1, 1, false)], 2, 32, [.v (.int .i64 0), .nil], true⟩ := by kernel_rfl
theorem ti41 : tiOf Tryz.prog 41 = some ⟨.slice 179, 1, 24, [.nil], false⟩ := by kernel_rfl
theorem ti42 : tiOf Tryz.prog 42 = some ⟨.struct [(0, 1, false), (1, 1, false), (2, 1, false)], 3, 56, [.v (.int .i64 0), .nil, .nil], true⟩ := by kernel_rfl
theorem ti43 : tiOf Tryz.prog 43 = some ⟨.struct [(0, 1, false), (1, 1, false), (2, 1, false)], 3, 56, [.v (.int .i64 0), .nil, .nil], true⟩ := by kernel_rfl
theorem ti44 : tiOf Tryz.prog 44 = some ⟨.struct [(0, 2, true), (2, 1, false), (3, 1, false), (4, 1, false), (5, 2, true), (7, 3, true)], 10, 144, [.v (.int .i64 0), .v (.int .i64 0), .v (.int .i64 0), .v (.bool false), .nil, .v (.int .i64 0), .nil, .v (.int .i64 0), .nil, .nil], true⟩ := by kernel_rfl
theorem ti45 : tiOf Tryz.prog 45 = some ⟨.struct [(0, 2, true), (2, 1, false), (3, 1, false), (4, 1, false), (5, 2, true), (7, 3, true)], 10, 144, [.v (.int .i64 0), .v (.int .i64 0), .v (.int .i64 0), .v (.bool false), .nil, .v (.int .i64 0), .nil, .v (.int .i64 0), .nil, .nil], true⟩ := by kernel_rfl
theorem ti46 : tiOf Tryz.prog 46 = some ⟨.slice 98, 1, 24, [.nil], false⟩ := by kernel_rfl
theorem ti47 : tiOf Tryz.prog 47 = some ⟨.struct [(0, 1, false), (1, 1, false), (2, 1, false), (3, 1, false), (4, 1, false)], 5, 56, [.v (.int .i64 0), .v (.int .i64 0), .v (.int .i64 0), .nil, .v (.int .i64 0)], true⟩ := by kernel_rfl
theorem ti48 : tiOf Tryz.prog 48 = some ⟨.struct [(0, 1, false), (1, 1, false), (2, 1, false), (3, 1, false), (4, 1, false)], 5, 56, [.v (.int .i64 0), .v (.int .i64 0), .v (.int .i64 0), .nil, .v (.int .i64 0)], true⟩ := by kernel_rfl
theorem ti61 : tiOf Tryz.prog 61 = some ⟨.struct [(0, 1, false), (1, 1, false), (2, 1, false)], 3, 24, [.v (.int .i64 0), .v (.int .i64 0), .v (.int .i64 0)], true⟩ := by kernel_rfl
theorem ti62 : tiOf Tryz.prog 62 = some ⟨.struct [(0, 1, false), (1, 1, false), (2, 1, false)], 3, 24, [.v (.int .i64 0), .v (.int .i64 0), .v (.int .i64 0)], true⟩ := by kernel_rfl
theorem ti69 : tiOf Tryz.prog 69 = some ⟨.slice 141, 1, 24, [.nil], false⟩ := by kernel_rfl
theorem ti70 : tiOf Tryz.prog 70 = some ⟨.struct [(0, 1, false), (1, 1, false)], 2, 32, [.v (.int .i64 0), .nil], true⟩ := by kernel_rfl
theorem ti71 : tiOf Tryz.prog 71 = some ⟨.struct [(0, 1, false), (1, 1, false)], 2, 32, [.v (.int .i64 0), .nil], true⟩ := by kernel_rfl
theorem ti74 : tiOf Tryz.prog 74 = some ⟨.struct [(0, 2, true), (2, 1, false), (3, 1, false), (4, 1, false), (5, 1, false), (6, 2, true)], 8, 112, [.v (.int .i64 0), .v (.int .i64 0), .v (.int .i64 0), .v (.bool false), .nil, .nil, .v (.int .i64 0), .nil], true⟩ := by kernel_rfl
theorem ti75 : tiOf Tryz.prog 75 = some ⟨.struct [(0, 2, true), (2, 1, false), (3, 1, false), (4, 1, false), (5, 1, false), (6, 2, true)], 8, 112, [.v (.int .i64 0), .v (.int .i64 0), .v (.int .i64 0), .v (.bool false), .nil, .nil, .v (.int .i64 0), .nil], true⟩ := by kernel_rfl
theorem ti95 : tiOf Tryz.prog 95 = some ⟨.struct [(0, 1, false), (1, 1, false), (2, 1, false), (3, 1, false), (4, 1, false)], 5, 40, [.v (.int .i64 0), .v (.int .i64 0), .v (.int .i64 0), .v (.int .i64 0), .v (.int .i64 0)], true⟩ := by kernel_rfl
theorem ti96 : tiOf Tryz.prog 96 = some ⟨.struct [(0, 1, false), (1, 1, false), (2, 1, false), (3, 1, false), (4, 1, false)], 5, 40, [.v (.int .i64 0), .v (.int .i64 0), .v (.int .i64 0), .v (.int .i64 0), .v (.int .i64 0)], true⟩ := by kernel_rfl
theorem ti97 : tiOf Tryz.prog 97 = some ⟨.struct [(0, 1, false), (1, 1, false), (2, 5, true)], 7, 56, [.v (.int .i64 0), .v (.int .i64 0), .v (.int .i64 0), .v (.int .i64 0), .v (.int .i64 0), .v (.int .i64 0), .v (.int .i64 0)], true⟩ := by kernel_rfl
theorem ti98 : tiOf Tryz.prog 98 = some ⟨.struct [(0, 1, false), (1, 1, false), (2, 5, true)], 7, 56, [.v (.int .i64 0), .v (.int .i64 0), .v (.int .i64 0), .v (.int .i64 0), .v (.int .i64 0), .v (.int .i64 0), .v (.int .i64 0)], true⟩ := by kernel_rfl
theorem ti133 : tiOf Tryz.prog 133 = some ⟨.struct [(0, 1, false), (1, 1, false), (2, 1, false)], 3, 40, [.nil, .v (.int .i64 0), .v (.int .i64 0)], true⟩ := by kernel_rfl
theorem ti134 : tiOf Tryz.prog 134 = some ⟨.struct [(0, 1, false), (1, 1, false), (2, 1, false)], 3, 40, [.nil, .v (.int .i64 0), .v (.int .i64 0)], true⟩ := by kernel_rfl
theorem ti140 : tiOf Tryz.prog 140 = some ⟨.struct [(0, 1, false), (1, 1, false), (2, 1, false)], 3, 24, [.v (.int .i64 0), .v (.int .i64 0), .v (.int .i64 0)], true⟩ := by kernel_rfl
theorem ti141 : tiOf Tryz.prog 141 = some ⟨.struct [(0, 1, false), (1, 1, false), (2, 1, false)], 3, 24, [.v (.int .i64 0), .v (.int .i64 0), .v (.int .i64 0)], true⟩ := by kernel_rfl
theorem ti157 : tiOf Tryz.prog 157 = some ⟨.slice 208, 1, 24, [.nil], false⟩ := by kernel_rfl
theorem ti167 : tiOf Tryz.prog 167 = some ⟨.struct [(0, 1, false), (1, 1, false), (2, 1, false), (3, 1, false), (4, 1, false)], 5, 40, [.v (.int .i64 0), .v (.int .i64 0), .v (.int .i64 0), .v (.int .i64 0), .v (.int .i64 0)], true⟩ := by kernel_rfl
theorem ti168 : tiOf Tryz.prog 168 = some ⟨.struct [(0, 1, false), (1, 1, false), (2, 5, true)], 7, 56, [.v (.int .i64 0), .v (.int .i64 0), .v (.int .i64 0), .v (.int .i64 0), .v (.int .i64 0), .v (.int .i64 0), .v (.int .i64 0)], true⟩ := by kernel_rfl
theorem ti169 : tiOf Tryz.prog 169 = some ⟨.struct [(0, 1, false), (1, 1, false), (2, 5, true)], 7, 56, [.v (.int .i64 0), .v (.int .i64 0), .v (.int .i64 0), .v (.int .i64 0), .v (.int .i64 0), .v (.int .i64 0), .v (.int .i64 0)], true⟩ := by kernel_rfl
theorem ti177 : tiOf Tryz.prog 177 = some ⟨.slice 96, 1, 24, [.nil], false⟩ := by kernel_rfl
theorem ti178 : tiOf Tryz.prog 178 = some ⟨.struct [(0, 1, false), (1, 1, false), (2, 1, false)], 3, 40, [.v (.int .i64 0), .v (.int .i64 0), .nil], true⟩ := by kernel_rfl
theorem ti179 : tiOf Tryz.prog 179 = some ⟨.struct [(0, 1, false), (1, 1, false), (2, 1, false)], 3, 40, [.v (.int .i64 0), .v (.int .i64 0), .nil], true⟩ := by kernel_rfl
theorem ti185 : tiOf Tryz.prog 185 = some ⟨.slice 187, 1, 24, [.nil], false⟩ := by kernel_rfl
theorem ti186 : tiOf Tryz.prog 186 = some ⟨.struct [(0, 1, false), (1, 1, false), (2, 1, false)], 3, 24, [.v (.int .i64 0), .v (.int .i64 0), .v (.int .i64 0)], true⟩ := by kernel_rfl
theorem ti187 : tiOf Tryz.prog 187 = some ⟨.struct [(0, 1, false), (1, 1, false), (2, 1, false)], 3, 24, [.v (.int .i64 0), .v (.int .i64 0), .v (.int .i64 0)], true⟩ := by kernel_rfl
theorem ti201 : tiOf Tryz.prog 201 = some ⟨.slice 4, 1, 24, [.nil], false⟩ := by kernel_rfl
theorem ti204 : tiOf Tryz.prog 204 = some ⟨.slice 167, 1, 24, [.nil], false⟩ := by kernel_rfl
theorem ti205 : tiOf Tryz.prog 205 = some ⟨.struct [(0, 1, false), (1, 1, false), (2, 1, false)], 3, 40, [.v (.int .i64 0), .v (.int .i64 0), .nil], true⟩ := by kernel_rfl
theorem ti206 : tiOf Tryz.prog 206 = some ⟨.struct [(0, 1, false), (1, 1, false), (2, 1, false)], 3, 40, [.v (.int .i64 0), .v (.int .i64 0), .nil], true⟩ := by kernel_rfl
theorem ti207 : tiOf Tryz.prog 207 = some ⟨.struct [(0, 1, false), (1, 1, false), (2, 1, false), (3, 1, false)], 4, 24, [.v (.bool false), .v (.bool false), .v (.int .i64 0), .v (.int .i64 0)], true⟩ := by kernel_rfl
theorem ti208 : tiOf Tryz.prog 208 = some ⟨.struct [(0, 1, false), (1, 1, false), (2, 1, false), (3, 1, false)], 4, 24, [.v (.bool false), .v (.bool false), .v (.int .i64 0), .v (.int .i64 0)], true⟩ := by kernel_rfl
theorem ti224 : tiOf Tryz.prog 224 = some ⟨.int .u64, 1, 8, [.v (.int .u64 0)], false⟩ := by kernel_rfl
theorem ti231 : tiOf Tryz.prog 231 = some ⟨.int .u64, 1, 8, [.v (.int .u64 0)], false⟩ := by kernel_rfl
theorem ti236 : tiOf Tryz.prog 236 = some ⟨.slice 263, 1, 24, [.nil], false⟩ := by kernel_rfl
theorem ti247 : tiOf Tryz.prog 247 = some ⟨.struct [(0, 1, false)], 1, 8, [.v (.pointer none)], true⟩ := by kernel_rfl
theorem ti248 : tiOf Tryz.prog 248 = some ⟨.struct [(0, 1, false)], 1, 8, [.v (.pointer none)], true⟩ := by kernel_rfl
theorem ti251 : tiOf Tryz.prog 251 = some ⟨.int .u32, 1, 4, [.v (.int .u32 0)], false⟩ := by kernel_rfl
theorem ti253 : tiOf Tryz.prog 253 = some ⟨.int .u64, 1, 8, [.v (.int .u64 0)], false⟩ := by kernel_rfl
theorem ti255 : tiOf Tryz.prog 255 = some ⟨.int .i64, 1, 8, [.v (.int .i64 0)], false⟩ := by kernel_rfl
theorem ti262 : tiOf Tryz.prog 262 = some ⟨.struct [(0, 1, false)], 1, 24, [.nil], true⟩ := by kernel_rfl
theorem ti263 : tiOf Tryz.prog 263 = some ⟨.struct [(0, 1, false)], 1, 24, [.nil], true⟩ := by kernel_rfl
theorem ti266 : tiOf Tryz.prog 266 = some ⟨.int .u64, 1, 8, [.v (.int .u64 0)], false⟩ := by kernel_rfl
theorem ti277 : tiOf Tryz.prog 277 = some ⟨.struct [(0, 1, false), (1, 1, false), (2, 1, false), (3, 1, false)], 4, 40, [.v (.pointer none), .v (.pointer none), .v (.pointer none), .v (.string ⟨#[]⟩)], true⟩ := by kernel_rfl
theorem ti278 : tiOf Tryz.prog 278 = some ⟨.struct [(0, 1, false), (1, 1, false), (2, 1, false), (3, 1, false)], 4, 40, [.v (.pointer none), .v (.pointer none), .v (.pointer none), .v (.string ⟨#[]⟩)], true⟩ := by kernel_rfl
theorem ti282 : tiOf Tryz.prog 282 = some ⟨.int .u8, 1, 1, [.v (.int .u8 0)], false⟩ := by kernel_rfl
theorem ti283 : tiOf Tryz.prog 283 = some ⟨.int .u8, 1, 1, [.v (.int .u8 0)], false⟩ := by kernel_rfl
theorem ti286 : tiOf Tryz.prog 286 = some ⟨.int .i32, 1, 4, [.v (.int .i32 0)], false⟩ := by kernel_rfl
theorem ti287 : tiOf Tryz.prog 287 = some ⟨.int .i32, 1, 4, [.v (.int .i32 0)], false⟩ := by kernel_rfl
theorem ti290 : tiOf Tryz.prog 290 = some ⟨.struct [(0, 1, false), (1, 1, false)], 2, 24, [.v (.string ⟨#[]⟩), .v (.int .u8 0)], true⟩ := by kernel_rfl
theorem ti291 : tiOf Tryz.prog 291 = some ⟨.struct [(0, 1, false), (1, 1, false)], 2, 24, [.v (.string ⟨#[]⟩), .v (.int .u8 0)], true⟩ := by kernel_rfl
theorem tn179 : nzT Tryz.prog 179 = some [.v (.int .i64 0), .v (.int .i64 0), .sl 96 5 []] := by kernel_rfl
theorem tn206 : nzT Tryz.prog 206 = some [.v (.int .i64 0), .v (.int .i64 0), .sl 167 5 []] := by kernel_rfl
theorem tn263 : nzT Tryz.prog 263 = some [.sl 187 3 []] := by kernel_rfl

def tiAll :=
  (And.intro (And.intro (And.intro (And.intro (And.intro (And.intro ti2 ti3)
  (And.intro ti4 (And.intro ti5 ti6)))
  (And.intro (And.intro ti7 (And.intro ti8 ti9))
  (And.intro ti10 (And.intro ti11 ti12))))
  (And.intro (And.intro (And.intro ti13 (And.intro ti14 ti18))
  (And.intro ti19 (And.intro ti21 ti22)))
  (And.intro (And.intro ti23 (And.intro ti24 ti25))
  (And.intro ti26 (And.intro ti27 ti28)))))
  (And.intro (And.intro (And.intro (And.intro ti29 ti30)
  (And.intro ti31 (And.intro ti32 ti33)))
  (And.intro (And.intro ti34 (And.intro ti35 ti39))
  (And.intro ti40 (And.intro ti41 ti42))))
  (And.intro (And.intro (And.intro ti43 (And.intro ti44 ti45))
  (And.intro ti46 (And.intro ti47 ti48)))
  (And.intro (And.intro ti61 (And.intro ti62 ti69))
  (And.intro ti70 (And.intro ti71 ti74))))))
  (And.intro (And.intro (And.intro (And.intro (And.intro ti75 ti95)
  (And.intro ti96 (And.intro ti97 ti98)))
  (And.intro (And.intro ti133 (And.intro ti134 ti140))
  (And.intro ti141 (And.intro ti157 ti167))))
  (And.intro (And.intro (And.intro ti168 (And.intro ti169 ti177))
  (And.intro ti178 (And.intro ti179 ti185)))
  (And.intro (And.intro ti186 (And.intro ti187 ti201))
  (And.intro ti204 (And.intro ti205 ti206)))))
  (And.intro (And.intro (And.intro (And.intro ti207 (And.intro ti208 ti224))
  (And.intro ti231 (And.intro ti236 ti247)))
  (And.intro (And.intro ti248 (And.intro ti251 ti253))
  (And.intro ti255 (And.intro ti262 ti263))))
  (And.intro (And.intro (And.intro ti266 (And.intro ti277 ti278))
  (And.intro ti282 (And.intro ti283 ti286)))
  (And.intro (And.intro ti287 (And.intro ti290 ti291))
  (And.intro tn179 (And.intro tn206 tn263)))))))

end Go.Proofs.YtcbnfkbnbdbfoaaGreat
