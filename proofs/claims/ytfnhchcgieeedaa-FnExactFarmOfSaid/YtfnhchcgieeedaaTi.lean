/-
  Facts of the program's types, as the engine asks for them. No conditions of its own.
-/
import Derived.Test.YtfnhchcgieeedaaMC
import Derived.Test.YtfnhchcgieeedaaRows
namespace Go.Proofs.Ytfnhchcgieeedaa
set_option linter.unusedSimpArgs false
set_option linter.unusedVariables false
set_option linter.defProp false
open Go.RowKit

theorem ti2 : tiOf Try.prog 2 = some ⟨.int .i64, 1, 8, [.v (.int .i64 0)], false⟩ := by kernel_rfl
theorem ti3 : tiOf Try.prog 3 = some ⟨.int .i64, 1, 8, [.v (.int .i64 0)], false⟩ := by kernel_rfl
theorem ti4 : tiOf Try.prog 4 = some ⟨.bool, 1, 1, [.v (.bool false)], false⟩ := by kernel_rfl
theorem ti5 : tiOf Try.prog 5 = some ⟨.int .u8, 1, 1, [.v (.int .u8 0)], false⟩ := by kernel_rfl
theorem ti6 : tiOf Try.prog 6 = some ⟨.int .u8, 1, 1, [.v (.int .u8 0)], false⟩ := by kernel_rfl
theorem ti7 : tiOf Try.prog 7 = some ⟨.struct [(0, 1, false), (1, 1, false), (2, 1, false), (3, 1, false)], 4, 24, [.v (.int .i64 0), .v (.int .i64 0), .v (.bool false), .v (.int .u8 0)], true⟩ := by kernel_rfl
theorem ti8 : tiOf Try.prog 8 = some ⟨.struct [(0, 1, false), (1, 1, false), (2, 1, false), (3, 1, false)], 4, 24, [.v (.int .i64 0), .v (.int .i64 0), .v (.bool false), .v (.int .u8 0)], true⟩ := by kernel_rfl
theorem ti9 : tiOf Try.prog 9 = some ⟨.str, 1, 16, [.v (.string ⟨#[]⟩)], false⟩ := by kernel_rfl
theorem ti10 : tiOf Try.prog 10 = some ⟨.str, 1, 16, [.v (.string ⟨#[]⟩)], false⟩ := by kernel_rfl
theorem ti11 : tiOf Try.prog 11 = some ⟨.str, 1, 16, [.v (.string ⟨#[]⟩)], false⟩ := by kernel_rfl
theorem ti12 : tiOf Try.prog 12 = some ⟨.int .u64, 1, 8, [.v (.int .u64 0)], false⟩ := by kernel_rfl
theorem ti13 : tiOf Try.prog 13 = some ⟨.struct [(0, 1, false), (1, 1, false)], 2, 24, [.v (.string ⟨#[]⟩), .v (.int .u64 0)], true⟩ := by kernel_rfl
theorem ti14 : tiOf Try.prog 14 = some ⟨.struct [(0, 1, false), (1, 1, false)], 2, 24, [.v (.string ⟨#[]⟩), .v (.int .u64 0)], true⟩ := by kernel_rfl
theorem ti18 : tiOf Try.prog 18 = some ⟨.struct [(0, 1, false)], 1, 8, [.v (.pointer none)], true⟩ := by kernel_rfl
theorem ti19 : tiOf Try.prog 19 = some ⟨.struct [(0, 1, false)], 1, 8, [.v (.pointer none)], true⟩ := by kernel_rfl
theorem ti21 : tiOf Try.prog 21 = some ⟨.int .i32, 1, 4, [.v (.int .i32 0)], false⟩ := by kernel_rfl
theorem ti22 : tiOf Try.prog 22 = some ⟨.slice 133, 1, 24, [.nil], false⟩ := by kernel_rfl
theorem ti23 : tiOf Try.prog 23 = some ⟨.struct [(0, 1, false), (1, 1, false)], 2, 32, [.v (.int .i64 0), .nil], true⟩ := by kernel_rfl
theorem ti24 : tiOf Try.prog 24 = some ⟨.struct [(0, 1, false), (1, 1, false)], 2, 32, [.v (.int .i64 0), .nil], true⟩ := by kernel_rfl
theorem ti26 : tiOf Try.prog 26 = some ⟨.slice 3, 1, 24, [.nil], false⟩ := by kernel_rfl
theorem ti27 : tiOf Try.prog 27 = some ⟨.slice 129, 1, 24, [.nil], false⟩ := by kernel_rfl
theorem ti28 : tiOf Try.prog 28 = some ⟨.struct [(0, 1, false), (1, 1, false), (2, 1, false)], 3, 56, [.v (.int .i64 0), .nil, .nil], true⟩ := by kernel_rfl
theorem ti29 : tiOf Try.prog 29 = some ⟨.struct [(0, 1, false), (1, 1, false), (2, 1, false)], 3, 56, [.v (.int .i64 0), .nil, .nil], true⟩ := by kernel_rfl
theorem ti32 : tiOf Try.prog 32 = some ⟨.slice 119, 1, 24, [.nil], false⟩ := by kernel_rfl
theorem ti33 : tiOf Try.prog 33 = some ⟨.struct [(0, 1, false), (1, 1, false)], 2, 32, [.v (.int .i64 0), .nil], true⟩ := by kernel_rfl
theorem ti34 : tiOf Try.prog 34 = some ⟨.struct [(0, 1, false), (1, 1, false)], 2, 32, [.v (.int .i64 0), .nil], true⟩ := by kernel_rfl
theorem ti41 : tiOf Try.prog 41 = some ⟨.slice 139, 1, 24, [.nil], false⟩ := by kernel_rfl
theorem ti42 : tiOf Try.prog 42 = some ⟨.slice 141, 1, 24, [.nil], false⟩ := by kernel_rfl
theorem ti43 : tiOf Try.prog 43 = some ⟨.struct [(0, 1, false), (1, 1, false), (2, 1, false), (3, 1, false)], 4, 64, [.v (.int .i64 0), .v (.int .i64 0), .nil, .nil], true⟩ := by kernel_rfl
theorem ti44 : tiOf Try.prog 44 = some ⟨.struct [(0, 1, false), (1, 1, false), (2, 1, false), (3, 1, false)], 4, 64, [.v (.int .i64 0), .v (.int .i64 0), .nil, .nil], true⟩ := by kernel_rfl
theorem ti46 : tiOf Try.prog 46 = some ⟨.slice 95, 1, 24, [.nil], false⟩ := by kernel_rfl
theorem ti48 : tiOf Try.prog 48 = some ⟨.slice 66, 1, 24, [.nil], false⟩ := by kernel_rfl
theorem ti49 : tiOf Try.prog 49 = some ⟨.struct [(0, 1, false), (1, 1, false), (2, 1, false), (3, 1, false)], 4, 64, [.v (.int .i64 0), .v (.int .i64 0), .nil, .nil], true⟩ := by kernel_rfl
theorem ti50 : tiOf Try.prog 50 = some ⟨.struct [(0, 1, false), (1, 1, false), (2, 1, false), (3, 1, false)], 4, 64, [.v (.int .i64 0), .v (.int .i64 0), .nil, .nil], true⟩ := by kernel_rfl
theorem ti62 : tiOf Try.prog 62 = some ⟨.slice 5, 1, 24, [.nil], false⟩ := by kernel_rfl
theorem ti65 : tiOf Try.prog 65 = some ⟨.struct [(0, 1, false), (1, 1, false), (2, 1, false), (3, 1, false)], 4, 64, [.v (.int .i64 0), .v (.string ⟨#[]⟩), .v (.string ⟨#[]⟩), .nil], true⟩ := by kernel_rfl
theorem ti66 : tiOf Try.prog 66 = some ⟨.struct [(0, 1, false), (1, 1, false), (2, 1, false), (3, 1, false)], 4, 64, [.v (.int .i64 0), .v (.string ⟨#[]⟩), .v (.string ⟨#[]⟩), .nil], true⟩ := by kernel_rfl
theorem ti94 : tiOf Try.prog 94 = some ⟨.struct [(0, 1, false), (1, 1, false)], 2, 40, [.v (.string ⟨#[]⟩), .nil], true⟩ := by kernel_rfl
theorem ti95 : tiOf Try.prog 95 = some ⟨.struct [(0, 1, false), (1, 1, false)], 2, 40, [.v (.string ⟨#[]⟩), .nil], true⟩ := by kernel_rfl
theorem ti109 : tiOf Try.prog 109 = some ⟨.struct [(0, 1, false), (1, 1, false), (2, 1, false)], 3, 40, [.nil, .v (.int .i64 0), .v (.int .i64 0)], true⟩ := by kernel_rfl
theorem ti110 : tiOf Try.prog 110 = some ⟨.struct [(0, 1, false), (1, 1, false), (2, 1, false)], 3, 40, [.nil, .v (.int .i64 0), .v (.int .i64 0)], true⟩ := by kernel_rfl
theorem ti118 : tiOf Try.prog 118 = some ⟨.struct [(0, 1, false), (1, 1, false), (2, 1, false)], 3, 24, [.v (.int .i64 0), .v (.int .i64 0), .v (.int .i64 0)], true⟩ := by kernel_rfl
theorem ti119 : tiOf Try.prog 119 = some ⟨.struct [(0, 1, false), (1, 1, false), (2, 1, false)], 3, 24, [.v (.int .i64 0), .v (.int .i64 0), .v (.int .i64 0)], true⟩ := by kernel_rfl
theorem ti122 : tiOf Try.prog 122 = some ⟨.slice 124, 1, 24, [.nil], false⟩ := by kernel_rfl
theorem ti123 : tiOf Try.prog 123 = some ⟨.struct [(0, 1, false), (1, 1, false), (2, 1, false)], 3, 24, [.v (.int .i64 0), .v (.int .i64 0), .v (.int .i64 0)], true⟩ := by kernel_rfl
theorem ti124 : tiOf Try.prog 124 = some ⟨.struct [(0, 1, false), (1, 1, false), (2, 1, false)], 3, 24, [.v (.int .i64 0), .v (.int .i64 0), .v (.int .i64 0)], true⟩ := by kernel_rfl
theorem ti127 : tiOf Try.prog 127 = some ⟨.slice 131, 1, 24, [.nil], false⟩ := by kernel_rfl
theorem ti128 : tiOf Try.prog 128 = some ⟨.struct [(0, 1, false), (1, 1, false), (2, 1, false)], 3, 40, [.v (.int .i64 0), .v (.int .i64 0), .nil], true⟩ := by kernel_rfl
theorem ti129 : tiOf Try.prog 129 = some ⟨.struct [(0, 1, false), (1, 1, false), (2, 1, false)], 3, 40, [.v (.int .i64 0), .v (.int .i64 0), .nil], true⟩ := by kernel_rfl
theorem ti130 : tiOf Try.prog 130 = some ⟨.struct [(0, 1, false), (1, 1, false), (2, 1, false), (3, 1, false), (4, 1, false)], 5, 40, [.v (.int .i64 0), .v (.int .i64 0), .v (.int .i64 0), .v (.int .i64 0), .v (.int .i64 0)], true⟩ := by kernel_rfl
theorem ti131 : tiOf Try.prog 131 = some ⟨.struct [(0, 1, false), (1, 1, false), (2, 1, false), (3, 1, false), (4, 1, false)], 5, 40, [.v (.int .i64 0), .v (.int .i64 0), .v (.int .i64 0), .v (.int .i64 0), .v (.int .i64 0)], true⟩ := by kernel_rfl
theorem ti133 : tiOf Try.prog 133 = some ⟨.struct [(0, 1, false), (1, 1, false), (2, 1, false)], 3, 24, [.v (.int .i64 0), .v (.int .i64 0), .v (.int .i64 0)], true⟩ := by kernel_rfl
theorem ti139 : tiOf Try.prog 139 = some ⟨.struct [(0, 1, false), (1, 1, false)], 2, 40, [.v (.string ⟨#[]⟩), .nil], true⟩ := by kernel_rfl
theorem ti141 : tiOf Try.prog 141 = some ⟨.struct [(0, 1, false), (1, 1, false), (2, 1, false), (3, 1, false)], 4, 64, [.v (.int .i64 0), .v (.string ⟨#[]⟩), .v (.string ⟨#[]⟩), .nil], true⟩ := by kernel_rfl
theorem ti160 : tiOf Try.prog 160 = some ⟨.slice 178, 1, 24, [.nil], false⟩ := by kernel_rfl
theorem ti164 : tiOf Try.prog 164 = some ⟨.int .u64, 1, 8, [.v (.int .u64 0)], false⟩ := by kernel_rfl
theorem ti171 : tiOf Try.prog 171 = some ⟨.int .u64, 1, 8, [.v (.int .u64 0)], false⟩ := by kernel_rfl
theorem ti176 : tiOf Try.prog 176 = some ⟨.slice 9, 1, 24, [.nil], false⟩ := by kernel_rfl
theorem ti177 : tiOf Try.prog 177 = some ⟨.struct [(0, 1, false)], 1, 24, [.nil], true⟩ := by kernel_rfl
theorem ti178 : tiOf Try.prog 178 = some ⟨.struct [(0, 1, false)], 1, 24, [.nil], true⟩ := by kernel_rfl
theorem ti182 : tiOf Try.prog 182 = some ⟨.struct [(0, 1, false)], 1, 8, [.v (.pointer none)], true⟩ := by kernel_rfl
theorem ti183 : tiOf Try.prog 183 = some ⟨.struct [(0, 1, false)], 1, 8, [.v (.pointer none)], true⟩ := by kernel_rfl
theorem ti186 : tiOf Try.prog 186 = some ⟨.int .u32, 1, 4, [.v (.int .u32 0)], false⟩ := by kernel_rfl
theorem ti188 : tiOf Try.prog 188 = some ⟨.int .u64, 1, 8, [.v (.int .u64 0)], false⟩ := by kernel_rfl
theorem ti190 : tiOf Try.prog 190 = some ⟨.int .i64, 1, 8, [.v (.int .i64 0)], false⟩ := by kernel_rfl
theorem ti197 : tiOf Try.prog 197 = some ⟨.int .u64, 1, 8, [.v (.int .u64 0)], false⟩ := by kernel_rfl
theorem ti206 : tiOf Try.prog 206 = some ⟨.struct [(0, 1, false), (1, 1, false), (2, 1, false), (3, 1, false)], 4, 40, [.v (.pointer none), .v (.pointer none), .v (.pointer none), .v (.string ⟨#[]⟩)], true⟩ := by kernel_rfl
theorem ti207 : tiOf Try.prog 207 = some ⟨.struct [(0, 1, false), (1, 1, false), (2, 1, false), (3, 1, false)], 4, 40, [.v (.pointer none), .v (.pointer none), .v (.pointer none), .v (.string ⟨#[]⟩)], true⟩ := by kernel_rfl
theorem ti211 : tiOf Try.prog 211 = some ⟨.int .u8, 1, 1, [.v (.int .u8 0)], false⟩ := by kernel_rfl
theorem ti212 : tiOf Try.prog 212 = some ⟨.int .u8, 1, 1, [.v (.int .u8 0)], false⟩ := by kernel_rfl
theorem ti215 : tiOf Try.prog 215 = some ⟨.int .i32, 1, 4, [.v (.int .i32 0)], false⟩ := by kernel_rfl
theorem ti216 : tiOf Try.prog 216 = some ⟨.int .i32, 1, 4, [.v (.int .i32 0)], false⟩ := by kernel_rfl
theorem ti219 : tiOf Try.prog 219 = some ⟨.struct [(0, 1, false), (1, 1, false)], 2, 24, [.v (.string ⟨#[]⟩), .v (.int .u8 0)], true⟩ := by kernel_rfl
theorem ti220 : tiOf Try.prog 220 = some ⟨.struct [(0, 1, false), (1, 1, false)], 2, 24, [.v (.string ⟨#[]⟩), .v (.int .u8 0)], true⟩ := by kernel_rfl
theorem tn66 : nzT Try.prog 66 = some [.v (.int .i64 0), .v (.string ⟨#[]⟩), .v (.string ⟨#[]⟩), .sl 5 1 []] := by kernel_rfl
theorem tn95 : nzT Try.prog 95 = some [.v (.string ⟨#[]⟩), .sl 5 1 []] := by kernel_rfl
theorem tn129 : nzT Try.prog 129 = some [.v (.int .i64 0), .v (.int .i64 0), .sl 131 5 []] := by kernel_rfl
theorem tn139 : nzT Try.prog 139 = some [.v (.string ⟨#[]⟩), .sl 5 1 []] := by kernel_rfl
theorem tn141 : nzT Try.prog 141 = some [.v (.int .i64 0), .v (.string ⟨#[]⟩), .v (.string ⟨#[]⟩), .sl 5 1 []] := by kernel_rfl
theorem tn178 : nzT Try.prog 178 = some [.sl 124 3 []] := by kernel_rfl

def tiAll :=
  (And.intro (And.intro (And.intro (And.intro (And.intro (And.intro ti2 ti3)
  (And.intro ti4 (And.intro ti5 ti6)))
  (And.intro (And.intro ti7 ti8)
  (And.intro ti9 (And.intro ti10 ti11))))
  (And.intro (And.intro (And.intro ti12 ti13)
  (And.intro ti14 (And.intro ti18 ti19)))
  (And.intro (And.intro ti21 ti22)
  (And.intro ti23 (And.intro ti24 ti26)))))
  (And.intro (And.intro (And.intro (And.intro ti27 ti28)
  (And.intro ti29 (And.intro ti32 ti33)))
  (And.intro (And.intro ti34 ti41)
  (And.intro ti42 (And.intro ti43 ti44))))
  (And.intro (And.intro (And.intro ti46 ti48)
  (And.intro ti49 (And.intro ti50 ti62)))
  (And.intro (And.intro ti65 ti66)
  (And.intro ti94 (And.intro ti95 ti109))))))
  (And.intro (And.intro (And.intro (And.intro (And.intro ti110 ti118)
  (And.intro ti119 (And.intro ti122 ti123)))
  (And.intro (And.intro ti124 ti127)
  (And.intro ti128 (And.intro ti129 ti130))))
  (And.intro (And.intro (And.intro ti131 ti133)
  (And.intro ti139 (And.intro ti141 ti160)))
  (And.intro (And.intro ti164 ti171)
  (And.intro ti176 (And.intro ti177 ti178)))))
  (And.intro (And.intro (And.intro (And.intro ti182 ti183)
  (And.intro ti186 (And.intro ti188 ti190)))
  (And.intro (And.intro ti197 ti206)
  (And.intro ti207 (And.intro ti211 ti212))))
  (And.intro (And.intro (And.intro ti215 ti216)
  (And.intro ti219 (And.intro ti220 tn66)))
  (And.intro (And.intro tn95 tn129)
  (And.intro tn139 (And.intro tn141 tn178)))))))

end Go.Proofs.Ytfnhchcgieeedaa
