/-
  Facts of the program's types, as the engine asks for them. No conditions of its own.
-/
import Derived.Test.YtageceacjmmmdaaMC
import Derived.Test.YtageceacjmmmdaaRows
namespace Go.Proofs.Ytageceacjmmmdaa
set_option linter.unusedSimpArgs false
set_option linter.unusedVariables false
set_option linter.defProp false
open Go.RowKit

theorem ti2 : tiOf Try.prog 2 = some ⟨.int .i64, 1, 8, [.v (.int .i64 0)], false⟩ := by kernel_rfl
theorem ti3 : tiOf Try.prog 3 = some ⟨.int .i64, 1, 8, [.v (.int .i64 0)], false⟩ := by kernel_rfl
theorem ti4 : tiOf Try.prog 4 = some ⟨.bool, 1, 1, [.v (.bool false)], false⟩ := by kernel_rfl
theorem ti5 : tiOf Try.prog 5 = some ⟨.int .u8, 1, 1, [.v (.int .u8 0)], false⟩ := by kernel_rfl
theorem ti6 : tiOf Try.prog 6 = some ⟨.int .u8, 1, 1, [.v (.int .u8 0)], false⟩ := by kernel_rfl
theorem ti7 : tiOf Try.prog 7 = some ⟨.struct [(0, 1, false), (1, 1, false), (2, 1, false), (3, 1, false)], 4, 24, [.v (.int .i64 0), .v (.int .i64 0), .v (.bool false), .v (.int .u8 0)], true⟩ := by kernel_rfl
theorem ti8 : tiOf Try.prog 8 = some ⟨.struct [(0, 1, false), (1, 1, false), (2, 1, false), (3, 1, false)], 4, 24, [.v (.int .i64 0), .v (.int .i64 0), .v (.bool false), .v (.int .u8 0)], true⟩ := by kernel_rfl
theorem ti9 : tiOf Try.prog 9 = some ⟨.str, 1, 16, [.v (.string ⟨#[]⟩)], false⟩ := by kernel_rfl
theorem ti10 : tiOf Try.prog 10 = some ⟨.str, 1, 16, [.v (.string ⟨#[]⟩)], false⟩ := by kernel_rfl
theorem ti11 : tiOf Try.prog 11 = some ⟨.str, 1, 16, [.v (.string ⟨#[]⟩)], false⟩ := by kernel_rfl
theorem ti12 : tiOf Try.prog 12 = some ⟨.int .u64, 1, 8, [.v (.int .u64 0)], false⟩ := by kernel_rfl
theorem ti13 : tiOf Try.prog 13 = some ⟨.struct [(0, 1, false), (1, 1, false)], 2, 24, [.v (.string ⟨#[]⟩), .v (.int .u64 0)], true⟩ := by kernel_rfl
theorem ti14 : tiOf Try.prog 14 = some ⟨.struct [(0, 1, false), (1, 1, false)], 2, 24, [.v (.string ⟨#[]⟩), .v (.int .u64 0)], true⟩ := by kernel_rfl
theorem ti18 : tiOf Try.prog 18 = some ⟨.struct [(0, 1, false)], 1, 8, [.v (.pointer none)], true⟩ := by kernel_rfl
theorem ti19 : tiOf Try.prog 19 = some ⟨.struct [(0, 1, false)], 1, 8, [.v (.pointer none)], true⟩ := by kernel_rfl
theorem ti21 : tiOf Try.prog 21 = some ⟨.int .i32, 1, 4, [.v (.int .i32 0)], false⟩ := by kernel_rfl
theorem ti22 : tiOf Try.prog 22 = some ⟨.slice 5, 1, 24, [.nil], false⟩ := by kernel_rfl
theorem ti23 : tiOf Try.prog 23 = some ⟨.struct [(0, 1, false), (1, 1, false)], 2, 16, [.v (.int .i64 0), .v (.int .i64 0)], true⟩ := by kernel_rfl
theorem ti24 : tiOf Try.prog 24 = some ⟨.struct [(0, 1, false), (1, 1, false)], 2, 16, [.v (.int .i64 0), .v (.int .i64 0)], true⟩ := by kernel_rfl
theorem ti25 : tiOf Try.prog 25 = some ⟨.slice 32, 1, 24, [.nil], false⟩ := by kernel_rfl
theorem ti28 : tiOf Try.prog 28 = some ⟨.slice 3, 1, 24, [.nil], false⟩ := by kernel_rfl
theorem ti31 : tiOf Try.prog 31 = some ⟨.struct [(0, 1, false), (1, 1, false), (2, 1, false), (3, 1, false)], 4, 24, [.v (.bool false), .v (.bool false), .v (.int .i64 0), .v (.int .i64 0)], true⟩ := by kernel_rfl
theorem ti32 : tiOf Try.prog 32 = some ⟨.struct [(0, 1, false), (1, 1, false), (2, 1, false), (3, 1, false)], 4, 24, [.v (.bool false), .v (.bool false), .v (.int .i64 0), .v (.int .i64 0)], true⟩ := by kernel_rfl
theorem ti34 : tiOf Try.prog 34 = some ⟨.struct [(0, 1, false), (1, 1, false)], 2, 32, [.v (.int .i64 0), .nil], true⟩ := by kernel_rfl
theorem ti35 : tiOf Try.prog 35 = some ⟨.struct [(0, 1, false), (1, 1, false)], 2, 32, [.v (.int .i64 0), .nil], true⟩ := by kernel_rfl
theorem ti45 : tiOf Try.prog 45 = some ⟨.struct [(0, 1, false), (1, 1, false)], 2, 16, [.v (.int .i64 0), .v (.int .i64 0)], true⟩ := by kernel_rfl
theorem ti46 : tiOf Try.prog 46 = some ⟨.struct [(0, 1, false), (1, 1, false)], 2, 32, [.v (.int .i64 0), .nil], true⟩ := by kernel_rfl
theorem ti47 : tiOf Try.prog 47 = some ⟨.struct [(0, 2, true), (2, 1, false), (3, 1, false), (4, 1, false), (5, 2, true)], 7, 104, [.v (.int .i64 0), .v (.int .i64 0), .v (.int .i64 0), .nil, .nil, .v (.int .i64 0), .nil], true⟩ := by kernel_rfl
theorem ti48 : tiOf Try.prog 48 = some ⟨.struct [(0, 2, true), (2, 1, false), (3, 1, false), (4, 1, false), (5, 2, true)], 7, 104, [.v (.int .i64 0), .v (.int .i64 0), .v (.int .i64 0), .nil, .nil, .v (.int .i64 0), .nil], true⟩ := by kernel_rfl
theorem ti52 : tiOf Try.prog 52 = some ⟨.struct [(0, 2, true), (2, 1, false), (3, 1, false), (4, 1, false), (5, 2, true)], 7, 104, [.v (.int .i64 0), .v (.int .i64 0), .v (.int .i64 0), .nil, .nil, .v (.int .i64 0), .nil], true⟩ := by kernel_rfl
theorem ti53 : tiOf Try.prog 53 = some ⟨.struct [(0, 2, true), (2, 1, false), (3, 1, false), (4, 1, false), (5, 2, true)], 7, 104, [.v (.int .i64 0), .v (.int .i64 0), .v (.int .i64 0), .nil, .nil, .v (.int .i64 0), .nil], true⟩ := by kernel_rfl
theorem ti62 : tiOf Try.prog 62 = some ⟨.slice 196, 1, 24, [.nil], false⟩ := by kernel_rfl
theorem ti63 : tiOf Try.prog 63 = some ⟨.struct [(0, 1, false), (1, 1, false)], 2, 32, [.v (.int .i64 0), .nil], true⟩ := by kernel_rfl
theorem ti64 : tiOf Try.prog 64 = some ⟨.struct [(0, 1, false), (1, 1, false)], 2, 32, [.v (.int .i64 0), .nil], true⟩ := by kernel_rfl
theorem ti65 : tiOf Try.prog 65 = some ⟨.struct [(0, 2, true), (2, 1, false), (3, 1, false), (4, 1, false), (5, 1, false), (6, 2, true)], 8, 112, [.v (.int .i64 0), .v (.int .i64 0), .v (.int .i64 0), .v (.bool false), .nil, .nil, .v (.int .i64 0), .nil], true⟩ := by kernel_rfl
theorem ti66 : tiOf Try.prog 66 = some ⟨.struct [(0, 2, true), (2, 1, false), (3, 1, false), (4, 1, false), (5, 1, false), (6, 2, true)], 8, 112, [.v (.int .i64 0), .v (.int .i64 0), .v (.int .i64 0), .v (.bool false), .nil, .nil, .v (.int .i64 0), .nil], true⟩ := by kernel_rfl
theorem ti76 : tiOf Try.prog 76 = some ⟨.slice 203, 1, 24, [.nil], false⟩ := by kernel_rfl
theorem ti77 : tiOf Try.prog 77 = some ⟨.struct [(0, 1, false), (1, 1, false), (2, 1, false)], 3, 56, [.v (.int .i64 0), .nil, .nil], true⟩ := by kernel_rfl
theorem ti78 : tiOf Try.prog 78 = some ⟨.struct [(0, 1, false), (1, 1, false), (2, 1, false)], 3, 56, [.v (.int .i64 0), .nil, .nil], true⟩ := by kernel_rfl
theorem ti81 : tiOf Try.prog 81 = some ⟨.slice 152, 1, 24, [.nil], false⟩ := by kernel_rfl
theorem ti82 : tiOf Try.prog 82 = some ⟨.struct [(0, 1, false), (1, 1, false), (2, 1, false)], 3, 56, [.v (.int .i64 0), .nil, .nil], true⟩ := by kernel_rfl
theorem ti83 : tiOf Try.prog 83 = some ⟨.struct [(0, 1, false), (1, 1, false), (2, 1, false)], 3, 56, [.v (.int .i64 0), .nil, .nil], true⟩ := by kernel_rfl
theorem ti112 : tiOf Try.prog 112 = some ⟨.struct [(0, 1, false), (1, 1, false), (2, 1, false)], 3, 40, [.nil, .v (.int .i64 0), .v (.int .i64 0)], true⟩ := by kernel_rfl
theorem ti113 : tiOf Try.prog 113 = some ⟨.struct [(0, 1, false), (1, 1, false), (2, 1, false)], 3, 40, [.nil, .v (.int .i64 0), .v (.int .i64 0)], true⟩ := by kernel_rfl
theorem ti124 : tiOf Try.prog 124 = some ⟨.struct [(0, 1, false), (1, 1, false)], 2, 32, [.v (.int .i64 0), .nil], true⟩ := by kernel_rfl
theorem ti125 : tiOf Try.prog 125 = some ⟨.struct [(0, 1, false), (1, 1, false)], 2, 32, [.v (.int .i64 0), .nil], true⟩ := by kernel_rfl
theorem ti132 : tiOf Try.prog 132 = some ⟨.struct [(0, 1, false), (1, 1, false), (2, 1, false)], 3, 40, [.nil, .v (.int .i64 0), .v (.bool false)], true⟩ := by kernel_rfl
theorem ti133 : tiOf Try.prog 133 = some ⟨.struct [(0, 1, false), (1, 1, false), (2, 1, false)], 3, 40, [.nil, .v (.int .i64 0), .v (.bool false)], true⟩ := by kernel_rfl
theorem ti137 : tiOf Try.prog 137 = some ⟨.struct [(0, 1, false), (1, 1, false), (2, 1, false)], 3, 40, [.nil, .v (.int .i64 0), .v (.bool false)], true⟩ := by kernel_rfl
theorem ti138 : tiOf Try.prog 138 = some ⟨.struct [(0, 1, false), (1, 1, false), (2, 1, false)], 3, 40, [.nil, .v (.int .i64 0), .v (.bool false)], true⟩ := by kernel_rfl
theorem ti150 : tiOf Try.prog 150 = some ⟨.slice 156, 1, 24, [.nil], false⟩ := by kernel_rfl
theorem ti151 : tiOf Try.prog 151 = some ⟨.struct [(0, 1, false), (1, 1, false), (2, 1, false)], 3, 40, [.v (.int .i64 0), .v (.int .i64 0), .nil], true⟩ := by kernel_rfl
theorem ti152 : tiOf Try.prog 152 = some ⟨.struct [(0, 1, false), (1, 1, false), (2, 1, false)], 3, 40, [.v (.int .i64 0), .v (.int .i64 0), .nil], true⟩ := by kernel_rfl
theorem ti155 : tiOf Try.prog 155 = some ⟨.struct [(0, 1, false), (1, 1, false), (2, 1, false), (3, 1, false), (4, 1, false)], 5, 40, [.v (.int .i64 0), .v (.int .i64 0), .v (.int .i64 0), .v (.int .i64 0), .v (.int .i64 0)], true⟩ := by kernel_rfl
theorem ti156 : tiOf Try.prog 156 = some ⟨.struct [(0, 1, false), (1, 1, false), (2, 1, false), (3, 1, false), (4, 1, false)], 5, 40, [.v (.int .i64 0), .v (.int .i64 0), .v (.int .i64 0), .v (.int .i64 0), .v (.int .i64 0)], true⟩ := by kernel_rfl
theorem ti178 : tiOf Try.prog 178 = some ⟨.int .u32, 1, 4, [.v (.int .u32 0)], false⟩ := by kernel_rfl
theorem ti179 : tiOf Try.prog 179 = some ⟨.int .u64, 1, 8, [.v (.int .u64 0)], false⟩ := by kernel_rfl
theorem ti195 : tiOf Try.prog 195 = some ⟨.struct [(0, 1, false), (1, 1, false), (2, 1, false)], 3, 24, [.v (.int .i64 0), .v (.int .i64 0), .v (.int .i64 0)], true⟩ := by kernel_rfl
theorem ti196 : tiOf Try.prog 196 = some ⟨.struct [(0, 1, false), (1, 1, false), (2, 1, false)], 3, 24, [.v (.int .i64 0), .v (.int .i64 0), .v (.int .i64 0)], true⟩ := by kernel_rfl
theorem ti201 : tiOf Try.prog 201 = some ⟨.slice 221, 1, 24, [.nil], false⟩ := by kernel_rfl
theorem ti202 : tiOf Try.prog 202 = some ⟨.struct [(0, 1, false), (1, 1, false), (2, 1, false)], 3, 40, [.v (.int .i64 0), .v (.int .i64 0), .nil], true⟩ := by kernel_rfl
theorem ti203 : tiOf Try.prog 203 = some ⟨.struct [(0, 1, false), (1, 1, false), (2, 1, false)], 3, 40, [.v (.int .i64 0), .v (.int .i64 0), .nil], true⟩ := by kernel_rfl
theorem ti205 : tiOf Try.prog 205 = some ⟨.slice 4, 1, 24, [.nil], false⟩ := by kernel_rfl
theorem ti221 : tiOf Try.prog 221 = some ⟨.struct [(0, 1, false), (1, 1, false), (2, 1, false), (3, 1, false), (4, 1, false)], 5, 40, [.v (.int .i64 0), .v (.int .i64 0), .v (.int .i64 0), .v (.int .i64 0), .v (.int .i64 0)], true⟩ := by kernel_rfl
theorem ti224 : tiOf Try.prog 224 = some ⟨.struct [(0, 1, false), (1, 1, false), (2, 1, false), (3, 1, false)], 4, 40, [.v (.pointer none), .v (.pointer none), .v (.pointer none), .v (.string ⟨#[]⟩)], true⟩ := by kernel_rfl
theorem ti225 : tiOf Try.prog 225 = some ⟨.struct [(0, 1, false), (1, 1, false), (2, 1, false), (3, 1, false)], 4, 40, [.v (.pointer none), .v (.pointer none), .v (.pointer none), .v (.string ⟨#[]⟩)], true⟩ := by kernel_rfl
theorem ti229 : tiOf Try.prog 229 = some ⟨.int .u8, 1, 1, [.v (.int .u8 0)], false⟩ := by kernel_rfl
theorem ti230 : tiOf Try.prog 230 = some ⟨.int .u8, 1, 1, [.v (.int .u8 0)], false⟩ := by kernel_rfl
theorem ti233 : tiOf Try.prog 233 = some ⟨.int .i32, 1, 4, [.v (.int .i32 0)], false⟩ := by kernel_rfl
theorem ti234 : tiOf Try.prog 234 = some ⟨.int .i32, 1, 4, [.v (.int .i32 0)], false⟩ := by kernel_rfl
theorem tn152 : nzT Try.prog 152 = some [.v (.int .i64 0), .v (.int .i64 0), .sl 156 5 []] := by kernel_rfl
theorem tn203 : nzT Try.prog 203 = some [.v (.int .i64 0), .v (.int .i64 0), .sl 221 5 []] := by kernel_rfl

def tiAll :=
  (And.intro (And.intro (And.intro (And.intro (And.intro (And.intro ti2 ti3)
  (And.intro ti4 ti5))
  (And.intro (And.intro ti6 ti7)
  (And.intro ti8 (And.intro ti9 ti10))))
  (And.intro (And.intro (And.intro ti11 ti12)
  (And.intro ti13 ti14))
  (And.intro (And.intro ti18 ti19)
  (And.intro ti21 (And.intro ti22 ti23)))))
  (And.intro (And.intro (And.intro (And.intro ti24 ti25)
  (And.intro ti28 ti31))
  (And.intro (And.intro ti32 ti34)
  (And.intro ti35 (And.intro ti45 ti46))))
  (And.intro (And.intro (And.intro ti47 ti48)
  (And.intro ti52 ti53))
  (And.intro (And.intro ti62 ti63)
  (And.intro ti64 (And.intro ti65 ti66))))))
  (And.intro (And.intro (And.intro (And.intro (And.intro ti76 ti77)
  (And.intro ti78 ti81))
  (And.intro (And.intro ti82 ti83)
  (And.intro ti112 (And.intro ti113 ti124))))
  (And.intro (And.intro (And.intro ti125 ti132)
  (And.intro ti133 ti137))
  (And.intro (And.intro ti138 ti150)
  (And.intro ti151 (And.intro ti152 ti155)))))
  (And.intro (And.intro (And.intro (And.intro ti156 ti178)
  (And.intro ti179 ti195))
  (And.intro (And.intro ti196 ti201)
  (And.intro ti202 (And.intro ti203 ti205))))
  (And.intro (And.intro (And.intro ti221 ti224)
  (And.intro ti225 ti229))
  (And.intro (And.intro ti230 ti233)
  (And.intro ti234 (And.intro tn152 tn203)))))))

end Go.Proofs.Ytageceacjmmmdaa
