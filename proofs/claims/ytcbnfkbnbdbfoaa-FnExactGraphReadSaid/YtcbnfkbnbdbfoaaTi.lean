/-
  Facts of the program's types, as the engine asks for them. No conditions of its own.
-/
import Derived.Test.YtcbnfkbnbdbfoaaMC
import Derived.Test.YtcbnfkbnbdbfoaaRows
namespace Go.Proofs.Ytcbnfkbnbdbfoaa
set_option linter.unusedSimpArgs false
set_option linter.unusedVariables false
set_option linter.defProp false
open Go.RowKit

theorem ti2 : tiOf Try.prog 2 = some ⟨.int .i64, 1, 8, [.v (.int .i64 0)], false⟩ := by kernel_rfl
theorem ti3 : tiOf Try.prog 3 = some ⟨.int .i64, 1, 8, [.v (.int .i64 0)], false⟩ := by kernel_rfl
theorem ti4 : tiOf Try.prog 4 = some ⟨.bool, 1, 1, [.v (.bool false)], false⟩ := by kernel_rfl
theorem ti5 : tiOf Try.prog 5 = some ⟨.int .u8, 1, 1, [.v (.int .u8 0)], false⟩ := by kernel_rfl
theorem ti6 : tiOf Try.prog 6 = some ⟨.int .u8, 1, 1, [.v (.int .u8 0)], false⟩ := by kernel_rfl
theorem ti7 : tiOf Try.prog 7 = some ⟨.struct [(0, 1, false), (1, 1, false), (2, 1, false), (3, 1, false)], 4, 24, [.v (.int .i64 0), .v (.int .i64 0), .v (.bool false), .v (.int .u8 0)], true⟩ := by kernel_rfl
theorem ti8 : tiOf Try.prog 8 = some ⟨.struct [(0, 1, false), (1, 1, false), (2, 1, false), (3, 1, false)], 4, 24, [.v (.int .i64 0), .v (.int .i64 0), .v (.bool false), .v (.int .u8 0)], true⟩ := by kernel_rfl
theorem ti9 : tiOf Try.prog 9 = some ⟨.str, 1, 16, [.v (.string ⟨#[]⟩)], false⟩ := by kernel_rfl
theorem ti10 : tiOf Try.prog 10 = some ⟨.str, 1, 16, [.v (.string ⟨#[]⟩)], false⟩ := by kernel_rfl
theorem ti11 : tiOf Try.prog 11 = some ⟨.str, 1, 16, [.v (.string ⟨#[]⟩)], false⟩ := by kernel_rfl
theorem ti12 : tiOf Try.prog 12 = some ⟨.int .u64, 1, 8, [.v (.int .u64 0)], false⟩ := by kernel_rfl
theorem ti13 : tiOf Try.prog 13 = some ⟨.struct [(0, 1, false), (1, 1, false)], 2, 24, [.v (.string ⟨#[]⟩), .v (.int .u64 0)], true⟩ := by kernel_rfl
theorem ti14 : tiOf Try.prog 14 = some ⟨.struct [(0, 1, false), (1, 1, false)], 2, 24, [.v (.string ⟨#[]⟩), .v (.int .u64 0)], true⟩ := by kernel_rfl
theorem ti18 : tiOf Try.prog 18 = some ⟨.struct [(0, 1, false)], 1, 8, [.v (.pointer none)], true⟩ := by kernel_rfl
theorem ti19 : tiOf Try.prog 19 = some ⟨.struct [(0, 1, false)], 1, 8, [.v (.pointer none)], true⟩ := by kernel_rfl
theorem ti21 : tiOf Try.prog 21 = some ⟨.int .i32, 1, 4, [.v (.int .i32 0)], false⟩ := by kernel_rfl
theorem ti22 : tiOf Try.prog 22 = some ⟨.slice 3, 1, 24, [.nil], false⟩ := by kernel_rfl
theorem ti23 : tiOf Try.prog 23 = some ⟨.slice 124, 1, 24, [.nil], false⟩ := by kernel_rfl
theorem ti24 : tiOf Try.prog 24 = some ⟨.struct [(0, 1, false), (1, 1, false), (2, 1, false)], 3, 56, [.v (.int .i64 0), .nil, .nil], true⟩ := by kernel_rfl
theorem ti25 : tiOf Try.prog 25 = some ⟨.struct [(0, 1, false), (1, 1, false), (2, 1, false)], 3, 56, [.v (.int .i64 0), .nil, .nil], true⟩ := by kernel_rfl
theorem ti27 : tiOf Try.prog 27 = some ⟨.slice 66, 1, 24, [.nil], false⟩ := by kernel_rfl
theorem ti28 : tiOf Try.prog 28 = some ⟨.struct [(0, 1, false), (1, 1, false), (2, 1, false), (3, 1, false), (4, 1, false)], 5, 56, [.v (.int .i64 0), .v (.int .i64 0), .v (.int .i64 0), .nil, .v (.int .i64 0)], true⟩ := by kernel_rfl
theorem ti29 : tiOf Try.prog 29 = some ⟨.struct [(0, 1, false), (1, 1, false), (2, 1, false), (3, 1, false), (4, 1, false)], 5, 56, [.v (.int .i64 0), .v (.int .i64 0), .v (.int .i64 0), .nil, .v (.int .i64 0)], true⟩ := by kernel_rfl
theorem ti32 : tiOf Try.prog 32 = some ⟨.slice 77, 1, 24, [.nil], false⟩ := by kernel_rfl
theorem ti33 : tiOf Try.prog 33 = some ⟨.struct [(0, 1, false), (1, 1, false), (2, 1, false)], 3, 56, [.v (.int .i64 0), .nil, .nil], true⟩ := by kernel_rfl
theorem ti34 : tiOf Try.prog 34 = some ⟨.struct [(0, 1, false), (1, 1, false), (2, 1, false)], 3, 56, [.v (.int .i64 0), .nil, .nil], true⟩ := by kernel_rfl
theorem ti45 : tiOf Try.prog 45 = some ⟨.slice 140, 1, 24, [.nil], false⟩ := by kernel_rfl
theorem ti46 : tiOf Try.prog 46 = some ⟨.struct [(0, 1, false), (1, 1, false)], 2, 32, [.v (.int .i64 0), .nil], true⟩ := by kernel_rfl
theorem ti47 : tiOf Try.prog 47 = some ⟨.struct [(0, 1, false), (1, 1, false)], 2, 32, [.v (.int .i64 0), .nil], true⟩ := by kernel_rfl
theorem ti51 : tiOf Try.prog 51 = some ⟨.slice 133, 1, 24, [.nil], false⟩ := by kernel_rfl
theorem ti52 : tiOf Try.prog 52 = some ⟨.struct [(0, 1, false), (1, 1, false)], 2, 32, [.v (.int .i64 0), .nil], true⟩ := by kernel_rfl
theorem ti53 : tiOf Try.prog 53 = some ⟨.struct [(0, 1, false), (1, 1, false)], 2, 32, [.v (.int .i64 0), .nil], true⟩ := by kernel_rfl
theorem ti58 : tiOf Try.prog 58 = some ⟨.slice 5, 1, 24, [.nil], false⟩ := by kernel_rfl
theorem ti63 : tiOf Try.prog 63 = some ⟨.struct [(0, 1, false), (1, 1, false), (2, 1, false), (3, 1, false), (4, 1, false)], 5, 40, [.v (.int .i64 0), .v (.int .i64 0), .v (.int .i64 0), .v (.int .i64 0), .v (.int .i64 0)], true⟩ := by kernel_rfl
theorem ti64 : tiOf Try.prog 64 = some ⟨.struct [(0, 1, false), (1, 1, false), (2, 1, false), (3, 1, false), (4, 1, false)], 5, 40, [.v (.int .i64 0), .v (.int .i64 0), .v (.int .i64 0), .v (.int .i64 0), .v (.int .i64 0)], true⟩ := by kernel_rfl
theorem ti65 : tiOf Try.prog 65 = some ⟨.struct [(0, 1, false), (1, 1, false), (2, 5, true)], 7, 56, [.v (.int .i64 0), .v (.int .i64 0), .v (.int .i64 0), .v (.int .i64 0), .v (.int .i64 0), .v (.int .i64 0), .v (.int .i64 0)], true⟩ := by kernel_rfl
theorem ti66 : tiOf Try.prog 66 = some ⟨.struct [(0, 1, false), (1, 1, false), (2, 5, true)], 7, 56, [.v (.int .i64 0), .v (.int .i64 0), .v (.int .i64 0), .v (.int .i64 0), .v (.int .i64 0), .v (.int .i64 0), .v (.int .i64 0)], true⟩ := by kernel_rfl
theorem ti75 : tiOf Try.prog 75 = some ⟨.slice 64, 1, 24, [.nil], false⟩ := by kernel_rfl
theorem ti76 : tiOf Try.prog 76 = some ⟨.struct [(0, 1, false), (1, 1, false), (2, 1, false)], 3, 40, [.v (.int .i64 0), .v (.int .i64 0), .nil], true⟩ := by kernel_rfl
theorem ti77 : tiOf Try.prog 77 = some ⟨.struct [(0, 1, false), (1, 1, false), (2, 1, false)], 3, 40, [.v (.int .i64 0), .v (.int .i64 0), .nil], true⟩ := by kernel_rfl
theorem ti112 : tiOf Try.prog 112 = some ⟨.struct [(0, 1, false), (1, 1, false), (2, 1, false)], 3, 40, [.nil, .v (.int .i64 0), .v (.bool false)], true⟩ := by kernel_rfl
theorem ti113 : tiOf Try.prog 113 = some ⟨.struct [(0, 1, false), (1, 1, false), (2, 1, false)], 3, 40, [.nil, .v (.int .i64 0), .v (.bool false)], true⟩ := by kernel_rfl
theorem ti118 : tiOf Try.prog 118 = some ⟨.struct [(0, 1, false), (1, 1, false), (2, 1, false)], 3, 40, [.nil, .v (.int .i64 0), .v (.bool false)], true⟩ := by kernel_rfl
theorem ti119 : tiOf Try.prog 119 = some ⟨.struct [(0, 1, false), (1, 1, false), (2, 1, false)], 3, 40, [.nil, .v (.int .i64 0), .v (.bool false)], true⟩ := by kernel_rfl
theorem ti122 : tiOf Try.prog 122 = some ⟨.slice 185, 1, 24, [.nil], false⟩ := by kernel_rfl
theorem ti123 : tiOf Try.prog 123 = some ⟨.struct [(0, 1, false), (1, 1, false), (2, 1, false)], 3, 40, [.v (.int .i64 0), .v (.int .i64 0), .nil], true⟩ := by kernel_rfl
theorem ti124 : tiOf Try.prog 124 = some ⟨.struct [(0, 1, false), (1, 1, false), (2, 1, false)], 3, 40, [.v (.int .i64 0), .v (.int .i64 0), .nil], true⟩ := by kernel_rfl
theorem ti132 : tiOf Try.prog 132 = some ⟨.struct [(0, 1, false), (1, 1, false), (2, 1, false)], 3, 24, [.v (.int .i64 0), .v (.int .i64 0), .v (.int .i64 0)], true⟩ := by kernel_rfl
theorem ti133 : tiOf Try.prog 133 = some ⟨.struct [(0, 1, false), (1, 1, false), (2, 1, false)], 3, 24, [.v (.int .i64 0), .v (.int .i64 0), .v (.int .i64 0)], true⟩ := by kernel_rfl
theorem ti135 : tiOf Try.prog 135 = some ⟨.slice 137, 1, 24, [.nil], false⟩ := by kernel_rfl
theorem ti136 : tiOf Try.prog 136 = some ⟨.struct [(0, 1, false), (1, 1, false), (2, 1, false)], 3, 24, [.v (.int .i64 0), .v (.int .i64 0), .v (.int .i64 0)], true⟩ := by kernel_rfl
theorem ti137 : tiOf Try.prog 137 = some ⟨.struct [(0, 1, false), (1, 1, false), (2, 1, false)], 3, 24, [.v (.int .i64 0), .v (.int .i64 0), .v (.int .i64 0)], true⟩ := by kernel_rfl
theorem ti140 : tiOf Try.prog 140 = some ⟨.struct [(0, 1, false), (1, 1, false), (2, 1, false)], 3, 24, [.v (.int .i64 0), .v (.int .i64 0), .v (.int .i64 0)], true⟩ := by kernel_rfl
theorem ti143 : tiOf Try.prog 143 = some ⟨.struct [(0, 1, false), (1, 1, false), (2, 1, false)], 3, 40, [.nil, .v (.int .i64 0), .v (.int .i64 0)], true⟩ := by kernel_rfl
theorem ti144 : tiOf Try.prog 144 = some ⟨.struct [(0, 1, false), (1, 1, false), (2, 1, false)], 3, 40, [.nil, .v (.int .i64 0), .v (.int .i64 0)], true⟩ := by kernel_rfl
theorem ti149 : tiOf Try.prog 149 = some ⟨.slice 4, 1, 24, [.nil], false⟩ := by kernel_rfl
theorem ti150 : tiOf Try.prog 150 = some ⟨.struct [(0, 1, false), (1, 1, false)], 2, 32, [.v (.int .i64 0), .nil], true⟩ := by kernel_rfl
theorem ti151 : tiOf Try.prog 151 = some ⟨.struct [(0, 1, false), (1, 1, false)], 2, 32, [.v (.int .i64 0), .nil], true⟩ := by kernel_rfl
theorem ti163 : tiOf Try.prog 163 = some ⟨.int .u64, 1, 8, [.v (.int .u64 0)], false⟩ := by kernel_rfl
theorem ti170 : tiOf Try.prog 170 = some ⟨.int .u64, 1, 8, [.v (.int .u64 0)], false⟩ := by kernel_rfl
theorem ti177 : tiOf Try.prog 177 = some ⟨.slice 201, 1, 24, [.nil], false⟩ := by kernel_rfl
theorem ti185 : tiOf Try.prog 185 = some ⟨.struct [(0, 1, false), (1, 1, false), (2, 1, false), (3, 1, false), (4, 1, false)], 5, 40, [.v (.int .i64 0), .v (.int .i64 0), .v (.int .i64 0), .v (.int .i64 0), .v (.int .i64 0)], true⟩ := by kernel_rfl
theorem ti186 : tiOf Try.prog 186 = some ⟨.struct [(0, 1, false)], 1, 8, [.v (.pointer none)], true⟩ := by kernel_rfl
theorem ti187 : tiOf Try.prog 187 = some ⟨.struct [(0, 1, false)], 1, 8, [.v (.pointer none)], true⟩ := by kernel_rfl
theorem ti190 : tiOf Try.prog 190 = some ⟨.int .u32, 1, 4, [.v (.int .u32 0)], false⟩ := by kernel_rfl
theorem ti192 : tiOf Try.prog 192 = some ⟨.int .u64, 1, 8, [.v (.int .u64 0)], false⟩ := by kernel_rfl
theorem ti194 : tiOf Try.prog 194 = some ⟨.int .i64, 1, 8, [.v (.int .i64 0)], false⟩ := by kernel_rfl
theorem ti200 : tiOf Try.prog 200 = some ⟨.struct [(0, 1, false)], 1, 24, [.nil], true⟩ := by kernel_rfl
theorem ti201 : tiOf Try.prog 201 = some ⟨.struct [(0, 1, false)], 1, 24, [.nil], true⟩ := by kernel_rfl
theorem ti204 : tiOf Try.prog 204 = some ⟨.int .u64, 1, 8, [.v (.int .u64 0)], false⟩ := by kernel_rfl
theorem ti213 : tiOf Try.prog 213 = some ⟨.struct [(0, 1, false), (1, 1, false), (2, 1, false), (3, 1, false)], 4, 40, [.v (.pointer none), .v (.pointer none), .v (.pointer none), .v (.string ⟨#[]⟩)], true⟩ := by kernel_rfl
theorem ti214 : tiOf Try.prog 214 = some ⟨.struct [(0, 1, false), (1, 1, false), (2, 1, false), (3, 1, false)], 4, 40, [.v (.pointer none), .v (.pointer none), .v (.pointer none), .v (.string ⟨#[]⟩)], true⟩ := by kernel_rfl
theorem ti218 : tiOf Try.prog 218 = some ⟨.int .u8, 1, 1, [.v (.int .u8 0)], false⟩ := by kernel_rfl
theorem ti219 : tiOf Try.prog 219 = some ⟨.int .u8, 1, 1, [.v (.int .u8 0)], false⟩ := by kernel_rfl
theorem ti222 : tiOf Try.prog 222 = some ⟨.int .i32, 1, 4, [.v (.int .i32 0)], false⟩ := by kernel_rfl
theorem ti223 : tiOf Try.prog 223 = some ⟨.int .i32, 1, 4, [.v (.int .i32 0)], false⟩ := by kernel_rfl
theorem ti226 : tiOf Try.prog 226 = some ⟨.struct [(0, 1, false), (1, 1, false)], 2, 24, [.v (.string ⟨#[]⟩), .v (.int .u8 0)], true⟩ := by kernel_rfl
theorem ti227 : tiOf Try.prog 227 = some ⟨.struct [(0, 1, false), (1, 1, false)], 2, 24, [.v (.string ⟨#[]⟩), .v (.int .u8 0)], true⟩ := by kernel_rfl
theorem tn77 : nzT Try.prog 77 = some [.v (.int .i64 0), .v (.int .i64 0), .sl 64 5 []] := by kernel_rfl
theorem tn124 : nzT Try.prog 124 = some [.v (.int .i64 0), .v (.int .i64 0), .sl 185 5 []] := by kernel_rfl
theorem tn201 : nzT Try.prog 201 = some [.sl 137 3 []] := by kernel_rfl

def tiAll :=
  (And.intro (And.intro (And.intro (And.intro (And.intro (And.intro ti2 ti3)
  (And.intro ti4 (And.intro ti5 ti6)))
  (And.intro (And.intro ti7 ti8)
  (And.intro ti9 (And.intro ti10 ti11))))
  (And.intro (And.intro (And.intro ti12 ti13)
  (And.intro ti14 (And.intro ti18 ti19)))
  (And.intro (And.intro ti21 ti22)
  (And.intro ti23 (And.intro ti24 ti25)))))
  (And.intro (And.intro (And.intro (And.intro ti27 ti28)
  (And.intro ti29 (And.intro ti32 ti33)))
  (And.intro (And.intro ti34 ti45)
  (And.intro ti46 (And.intro ti47 ti51))))
  (And.intro (And.intro (And.intro ti52 ti53)
  (And.intro ti58 (And.intro ti63 ti64)))
  (And.intro (And.intro ti65 ti66)
  (And.intro ti75 (And.intro ti76 ti77))))))
  (And.intro (And.intro (And.intro (And.intro (And.intro ti112 ti113)
  (And.intro ti118 (And.intro ti119 ti122)))
  (And.intro (And.intro ti123 ti124)
  (And.intro ti132 (And.intro ti133 ti135))))
  (And.intro (And.intro (And.intro ti136 ti137)
  (And.intro ti140 (And.intro ti143 ti144)))
  (And.intro (And.intro ti149 ti150)
  (And.intro ti151 (And.intro ti163 ti170)))))
  (And.intro (And.intro (And.intro (And.intro ti177 ti185)
  (And.intro ti186 (And.intro ti187 ti190)))
  (And.intro (And.intro ti192 ti194)
  (And.intro ti200 (And.intro ti201 ti204))))
  (And.intro (And.intro (And.intro ti213 ti214)
  (And.intro ti218 (And.intro ti219 ti222)))
  (And.intro (And.intro ti223 (And.intro ti226 ti227))
  (And.intro tn77 (And.intro tn124 tn201)))))))

end Go.Proofs.Ytcbnfkbnbdbfoaa
