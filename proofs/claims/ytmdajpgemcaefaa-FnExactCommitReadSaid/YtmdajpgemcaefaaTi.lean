/-
  Facts of the program's types, as the engine asks for them. No conditions of its own.
-/
import Derived.Test.YtmdajpgemcaefaaMC
import Derived.Test.YtmdajpgemcaefaaRows
namespace Go.Proofs.Ytmdajpgemcaefaa
set_option linter.unusedSimpArgs false
set_option linter.unusedVariables false
open Go.RowKit

theorem ti2 : tiOf Try.prog 2 = some ⟨.int .i64, 1, 8, [.v (.int .i64 0)], false⟩ := by kernel_rfl
theorem ti3 : tiOf Try.prog 3 = some ⟨.int .i64, 1, 8, [.v (.int .i64 0)], false⟩ := by kernel_rfl
theorem ti4 : tiOf Try.prog 4 = some ⟨.bool, 1, 1, [.v (.bool false)], false⟩ := by kernel_rfl
theorem ti5 : tiOf Try.prog 5 = some ⟨.int .u8, 1, 1, [.v (.int .u8 0)], false⟩ := by kernel_rfl
theorem ti6 : tiOf Try.prog 6 = some ⟨.int .u8, 1, 1, [.v (.int .u8 0)], false⟩ := by kernel_rfl
theorem ti7 : tiOf Try.prog 7 = some ⟨.struct [(0, 1, false), (1, 1, false), (2, 1, false), (3, 1, false)], 4, 24, [.v (.int .i64 0), .v (.int .i64 0), .v (.bool false), .v (.int .u8 0)], true⟩ := by kernel_rfl
theorem ti8 : tiOf Try.prog 8 = some ⟨.struct [(0, 1, false), (1, 1, false), (2, 1, false), (3, 1, false)], 4, 24, [.v (.int .i64 0), .v (.int .i64 0), .v (.bool false), .v (.int .u8 0)], true⟩ := by kernel_rfl
theorem ti9 : tiOf Try.prog 9 = some ⟨.str, 1, 16, [.v (.string ⟨#[]⟩)], false⟩ := by kernel_rfl
theorem ti10 : tiOf Try.prog 10 = some ⟨.str, 1, 16, [.v (.string ⟨#[]⟩)], false⟩ := by kernel_rfl
theorem ti11 : tiOf Try.prog 11 = some ⟨.str, 1, 16, [.v (.string ⟨#[]⟩)], false⟩ := by kernel_rfl
theorem ti12 : tiOf Try.prog 12 = some ⟨.int .u64, 1, 8, [.v (.int .u64 0)], false⟩ := by kernel_rfl
theorem ti13 : tiOf Try.prog 13 = some ⟨.struct [(0, 1, false), (1, 1, false)], 2, 24, [.v (.string ⟨#[]⟩), .v (.int .u64 0)], true⟩ := by kernel_rfl
theorem ti14 : tiOf Try.prog 14 = some ⟨.struct [(0, 1, false), (1, 1, false)], 2, 24, [.v (.string ⟨#[]⟩), .v (.int .u64 0)], true⟩ := by kernel_rfl
theorem ti18 : tiOf Try.prog 18 = some ⟨.struct [(0, 1, false)], 1, 8, [.v (.pointer none)], true⟩ := by kernel_rfl
theorem ti19 : tiOf Try.prog 19 = some ⟨.struct [(0, 1, false)], 1, 8, [.v (.pointer none)], true⟩ := by kernel_rfl
theorem ti21 : tiOf Try.prog 21 = some ⟨.int .i32, 1, 4, [.v (.int .i32 0)], false⟩ := by kernel_rfl
theorem ti22 : tiOf Try.prog 22 = some ⟨.slice 5, 1, 24, [.nil], false⟩ := by kernel_rfl
theorem ti23 : tiOf Try.prog 23 = some ⟨.struct [(0, 1, false), (1, 1, false)], 2, 32, [.v (.int .i64 0), .nil], true⟩ := by kernel_rfl
theorem ti24 : tiOf Try.prog 24 = some ⟨.struct [(0, 1, false), (1, 1, false)], 2, 32, [.v (.int .i64 0), .nil], true⟩ := by kernel_rfl
theorem ti26 : tiOf Try.prog 26 = some ⟨.struct [(0, 1, false), (1, 1, false)], 2, 32, [.v (.int .i64 0), .nil], true⟩ := by kernel_rfl
theorem ti33 : tiOf Try.prog 33 = some ⟨.slice 194, 1, 24, [.nil], false⟩ := by kernel_rfl
theorem ti34 : tiOf Try.prog 34 = some ⟨.struct [(0, 1, false), (1, 1, false)], 2, 32, [.v (.int .i64 0), .nil], true⟩ := by kernel_rfl
theorem ti35 : tiOf Try.prog 35 = some ⟨.struct [(0, 1, false), (1, 1, false)], 2, 32, [.v (.int .i64 0), .nil], true⟩ := by kernel_rfl
theorem ti36 : tiOf Try.prog 36 = some ⟨.struct [(0, 1, false), (1, 1, false)], 2, 16, [.v (.int .i64 0), .v (.int .i64 0)], true⟩ := by kernel_rfl
theorem ti37 : tiOf Try.prog 37 = some ⟨.struct [(0, 1, false), (1, 1, false)], 2, 16, [.v (.int .i64 0), .v (.int .i64 0)], true⟩ := by kernel_rfl
theorem ti38 : tiOf Try.prog 38 = some ⟨.slice 3, 1, 24, [.nil], false⟩ := by kernel_rfl
theorem ti39 : tiOf Try.prog 39 = some ⟨.struct [(0, 2, true), (2, 1, false), (3, 1, false), (4, 1, false), (5, 2, true)], 7, 104, [.v (.int .i64 0), .v (.int .i64 0), .v (.int .i64 0), .nil, .nil, .v (.int .i64 0), .nil], true⟩ := by kernel_rfl
theorem ti40 : tiOf Try.prog 40 = some ⟨.struct [(0, 2, true), (2, 1, false), (3, 1, false), (4, 1, false), (5, 2, true)], 7, 104, [.v (.int .i64 0), .v (.int .i64 0), .v (.int .i64 0), .nil, .nil, .v (.int .i64 0), .nil], true⟩ := by kernel_rfl
theorem ti43 : tiOf Try.prog 43 = some ⟨.struct [(0, 1, false), (1, 1, false)], 2, 16, [.v (.int .i64 0), .v (.int .i64 0)], true⟩ := by kernel_rfl
theorem ti44 : tiOf Try.prog 44 = some ⟨.struct [(0, 2, true), (2, 1, false), (3, 1, false), (4, 1, false), (5, 1, false), (6, 2, true)], 8, 112, [.v (.int .i64 0), .v (.int .i64 0), .v (.int .i64 0), .v (.bool false), .nil, .nil, .v (.int .i64 0), .nil], true⟩ := by kernel_rfl
theorem ti45 : tiOf Try.prog 45 = some ⟨.struct [(0, 2, true), (2, 1, false), (3, 1, false), (4, 1, false), (5, 1, false), (6, 2, true)], 8, 112, [.v (.int .i64 0), .v (.int .i64 0), .v (.int .i64 0), .v (.bool false), .nil, .nil, .v (.int .i64 0), .nil], true⟩ := by kernel_rfl
theorem ti48 : tiOf Try.prog 48 = some ⟨.slice 192, 1, 24, [.nil], false⟩ := by kernel_rfl
theorem ti49 : tiOf Try.prog 49 = some ⟨.struct [(0, 1, false), (1, 1, false)], 2, 32, [.v (.int .i64 0), .nil], true⟩ := by kernel_rfl
theorem ti50 : tiOf Try.prog 50 = some ⟨.struct [(0, 1, false), (1, 1, false)], 2, 32, [.v (.int .i64 0), .nil], true⟩ := by kernel_rfl
theorem ti52 : tiOf Try.prog 52 = some ⟨.struct [(0, 2, true), (2, 1, false), (3, 1, false), (4, 1, false), (5, 2, true)], 7, 104, [.v (.int .i64 0), .v (.int .i64 0), .v (.int .i64 0), .nil, .nil, .v (.int .i64 0), .nil], true⟩ := by kernel_rfl
theorem ti53 : tiOf Try.prog 53 = some ⟨.struct [(0, 2, true), (2, 1, false), (3, 1, false), (4, 1, false), (5, 2, true)], 7, 104, [.v (.int .i64 0), .v (.int .i64 0), .v (.int .i64 0), .nil, .nil, .v (.int .i64 0), .nil], true⟩ := by kernel_rfl
theorem ti62 : tiOf Try.prog 62 = some ⟨.struct [(0, 2, true), (2, 1, false), (3, 1, false), (4, 1, false), (5, 1, false), (6, 2, true)], 8, 112, [.v (.int .i64 0), .v (.int .i64 0), .v (.int .i64 0), .v (.bool false), .nil, .nil, .v (.int .i64 0), .nil], true⟩ := by kernel_rfl
theorem ti63 : tiOf Try.prog 63 = some ⟨.struct [(0, 2, true), (2, 1, false), (3, 1, false), (4, 1, false), (5, 1, false), (6, 2, true)], 8, 112, [.v (.int .i64 0), .v (.int .i64 0), .v (.int .i64 0), .v (.bool false), .nil, .nil, .v (.int .i64 0), .nil], true⟩ := by kernel_rfl
theorem ti65 : tiOf Try.prog 65 = some ⟨.slice 118, 1, 24, [.nil], false⟩ := by kernel_rfl
theorem ti74 : tiOf Try.prog 74 = some ⟨.struct [(0, 1, false), (1, 1, false), (2, 1, false), (3, 1, false), (4, 1, false)], 5, 40, [.v (.int .i64 0), .v (.int .i64 0), .v (.int .i64 0), .v (.bool false), .v (.int .i64 0)], true⟩ := by kernel_rfl
theorem ti75 : tiOf Try.prog 75 = some ⟨.struct [(0, 1, false), (1, 1, false), (2, 1, false), (3, 1, false), (4, 1, false)], 5, 40, [.v (.int .i64 0), .v (.int .i64 0), .v (.int .i64 0), .v (.bool false), .v (.int .i64 0)], true⟩ := by kernel_rfl
theorem ti85 : tiOf Try.prog 85 = some ⟨.slice 145, 1, 24, [.nil], false⟩ := by kernel_rfl
theorem ti86 : tiOf Try.prog 86 = some ⟨.struct [(0, 1, false), (1, 1, false), (2, 1, false)], 3, 56, [.v (.int .i64 0), .nil, .nil], true⟩ := by kernel_rfl
theorem ti87 : tiOf Try.prog 87 = some ⟨.struct [(0, 1, false), (1, 1, false), (2, 1, false)], 3, 56, [.v (.int .i64 0), .nil, .nil], true⟩ := by kernel_rfl
theorem ti95 : tiOf Try.prog 95 = some ⟨.slice 211, 1, 24, [.nil], false⟩ := by kernel_rfl
theorem ti96 : tiOf Try.prog 96 = some ⟨.struct [(0, 1, false), (1, 1, false), (2, 1, false)], 3, 56, [.v (.int .i64 0), .nil, .nil], true⟩ := by kernel_rfl
theorem ti97 : tiOf Try.prog 97 = some ⟨.struct [(0, 1, false), (1, 1, false), (2, 1, false)], 3, 56, [.v (.int .i64 0), .nil, .nil], true⟩ := by kernel_rfl
theorem ti108 : tiOf Try.prog 108 = some ⟨.slice 175, 1, 24, [.nil], false⟩ := by kernel_rfl
theorem ti117 : tiOf Try.prog 117 = some ⟨.struct [(0, 1, false), (1, 1, false), (2, 1, false), (3, 1, false)], 4, 24, [.v (.bool false), .v (.bool false), .v (.int .i64 0), .v (.int .i64 0)], true⟩ := by kernel_rfl
theorem ti118 : tiOf Try.prog 118 = some ⟨.struct [(0, 1, false), (1, 1, false), (2, 1, false), (3, 1, false)], 4, 24, [.v (.bool false), .v (.bool false), .v (.int .i64 0), .v (.int .i64 0)], true⟩ := by kernel_rfl
theorem ti131 : tiOf Try.prog 131 = some ⟨.struct [(0, 1, false), (1, 1, false), (2, 1, false)], 3, 40, [.nil, .v (.int .i64 0), .v (.bool false)], true⟩ := by kernel_rfl
theorem ti132 : tiOf Try.prog 132 = some ⟨.struct [(0, 1, false), (1, 1, false), (2, 1, false)], 3, 40, [.nil, .v (.int .i64 0), .v (.bool false)], true⟩ := by kernel_rfl
theorem ti136 : tiOf Try.prog 136 = some ⟨.struct [(0, 1, false), (1, 1, false), (2, 1, false)], 3, 40, [.nil, .v (.int .i64 0), .v (.bool false)], true⟩ := by kernel_rfl
theorem ti137 : tiOf Try.prog 137 = some ⟨.struct [(0, 1, false), (1, 1, false), (2, 1, false)], 3, 40, [.nil, .v (.int .i64 0), .v (.bool false)], true⟩ := by kernel_rfl
theorem ti143 : tiOf Try.prog 143 = some ⟨.slice 185, 1, 24, [.nil], false⟩ := by kernel_rfl
theorem ti144 : tiOf Try.prog 144 = some ⟨.struct [(0, 1, false), (1, 1, false), (2, 1, false)], 3, 40, [.v (.int .i64 0), .v (.int .i64 0), .nil], true⟩ := by kernel_rfl
theorem ti145 : tiOf Try.prog 145 = some ⟨.struct [(0, 1, false), (1, 1, false), (2, 1, false)], 3, 40, [.v (.int .i64 0), .v (.int .i64 0), .nil], true⟩ := by kernel_rfl
theorem ti154 : tiOf Try.prog 154 = some ⟨.struct [(0, 1, false), (1, 1, false)], 2, 32, [.v (.int .i64 0), .nil], true⟩ := by kernel_rfl
theorem ti155 : tiOf Try.prog 155 = some ⟨.struct [(0, 1, false), (1, 1, false)], 2, 32, [.v (.int .i64 0), .nil], true⟩ := by kernel_rfl
theorem ti166 : tiOf Try.prog 166 = some ⟨.struct [(0, 1, false), (1, 1, false), (2, 1, false)], 3, 40, [.nil, .v (.int .i64 0), .v (.int .i64 0)], true⟩ := by kernel_rfl
theorem ti167 : tiOf Try.prog 167 = some ⟨.struct [(0, 1, false), (1, 1, false), (2, 1, false)], 3, 40, [.nil, .v (.int .i64 0), .v (.int .i64 0)], true⟩ := by kernel_rfl
theorem ti175 : tiOf Try.prog 175 = some ⟨.struct [(0, 1, false), (1, 1, false), (2, 1, false), (3, 1, false)], 4, 24, [.v (.bool false), .v (.bool false), .v (.int .i64 0), .v (.int .i64 0)], true⟩ := by kernel_rfl
theorem ti184 : tiOf Try.prog 184 = some ⟨.struct [(0, 1, false), (1, 1, false), (2, 1, false), (3, 1, false), (4, 1, false)], 5, 40, [.v (.int .i64 0), .v (.int .i64 0), .v (.int .i64 0), .v (.int .i64 0), .v (.int .i64 0)], true⟩ := by kernel_rfl
theorem ti185 : tiOf Try.prog 185 = some ⟨.struct [(0, 1, false), (1, 1, false), (2, 1, false), (3, 1, false), (4, 1, false)], 5, 40, [.v (.int .i64 0), .v (.int .i64 0), .v (.int .i64 0), .v (.int .i64 0), .v (.int .i64 0)], true⟩ := by kernel_rfl
theorem ti191 : tiOf Try.prog 191 = some ⟨.struct [(0, 1, false), (1, 1, false), (2, 1, false)], 3, 24, [.v (.int .i64 0), .v (.int .i64 0), .v (.int .i64 0)], true⟩ := by kernel_rfl
theorem ti192 : tiOf Try.prog 192 = some ⟨.struct [(0, 1, false), (1, 1, false), (2, 1, false)], 3, 24, [.v (.int .i64 0), .v (.int .i64 0), .v (.int .i64 0)], true⟩ := by kernel_rfl
theorem ti194 : tiOf Try.prog 194 = some ⟨.struct [(0, 1, false), (1, 1, false), (2, 1, false)], 3, 24, [.v (.int .i64 0), .v (.int .i64 0), .v (.int .i64 0)], true⟩ := by kernel_rfl
theorem ti209 : tiOf Try.prog 209 = some ⟨.slice 229, 1, 24, [.nil], false⟩ := by kernel_rfl
theorem ti210 : tiOf Try.prog 210 = some ⟨.struct [(0, 1, false), (1, 1, false), (2, 1, false)], 3, 40, [.v (.int .i64 0), .v (.int .i64 0), .nil], true⟩ := by kernel_rfl
theorem ti211 : tiOf Try.prog 211 = some ⟨.struct [(0, 1, false), (1, 1, false), (2, 1, false)], 3, 40, [.v (.int .i64 0), .v (.int .i64 0), .nil], true⟩ := by kernel_rfl
theorem ti216 : tiOf Try.prog 216 = some ⟨.int .u32, 1, 4, [.v (.int .u32 0)], false⟩ := by kernel_rfl
theorem ti217 : tiOf Try.prog 217 = some ⟨.int .u64, 1, 8, [.v (.int .u64 0)], false⟩ := by kernel_rfl
theorem ti222 : tiOf Try.prog 222 = some ⟨.slice 4, 1, 24, [.nil], false⟩ := by kernel_rfl
theorem ti229 : tiOf Try.prog 229 = some ⟨.struct [(0, 1, false), (1, 1, false), (2, 1, false), (3, 1, false), (4, 1, false)], 5, 40, [.v (.int .i64 0), .v (.int .i64 0), .v (.int .i64 0), .v (.int .i64 0), .v (.int .i64 0)], true⟩ := by kernel_rfl
theorem ti231 : tiOf Try.prog 231 = some ⟨.struct [(0, 1, false), (1, 1, false), (2, 1, false), (3, 1, false)], 4, 40, [.v (.pointer none), .v (.pointer none), .v (.pointer none), .v (.string ⟨#[]⟩)], true⟩ := by kernel_rfl
theorem ti232 : tiOf Try.prog 232 = some ⟨.struct [(0, 1, false), (1, 1, false), (2, 1, false), (3, 1, false)], 4, 40, [.v (.pointer none), .v (.pointer none), .v (.pointer none), .v (.string ⟨#[]⟩)], true⟩ := by kernel_rfl
theorem ti236 : tiOf Try.prog 236 = some ⟨.int .u8, 1, 1, [.v (.int .u8 0)], false⟩ := by kernel_rfl
theorem ti237 : tiOf Try.prog 237 = some ⟨.int .u8, 1, 1, [.v (.int .u8 0)], false⟩ := by kernel_rfl
theorem ti240 : tiOf Try.prog 240 = some ⟨.int .i32, 1, 4, [.v (.int .i32 0)], false⟩ := by kernel_rfl
theorem ti241 : tiOf Try.prog 241 = some ⟨.int .i32, 1, 4, [.v (.int .i32 0)], false⟩ := by kernel_rfl

theorem tiAll : type_of% (
  (And.intro (And.intro (And.intro (And.intro (And.intro (And.intro ti2 ti3)
  (And.intro ti4 (And.intro ti5 ti6)))
  (And.intro (And.intro ti7 ti8)
  (And.intro ti9 (And.intro ti10 ti11))))
  (And.intro (And.intro (And.intro ti12 ti13)
  (And.intro ti14 (And.intro ti18 ti19)))
  (And.intro (And.intro ti21 ti22)
  (And.intro ti23 (And.intro ti24 ti26)))))
  (And.intro (And.intro (And.intro (And.intro ti33 ti34)
  (And.intro ti35 (And.intro ti36 ti37)))
  (And.intro (And.intro ti38 ti39)
  (And.intro ti40 (And.intro ti43 ti44))))
  (And.intro (And.intro (And.intro ti45 ti48)
  (And.intro ti49 (And.intro ti50 ti52)))
  (And.intro (And.intro ti53 ti62)
  (And.intro ti63 (And.intro ti65 ti74))))))
  (And.intro (And.intro (And.intro (And.intro (And.intro ti75 ti85)
  (And.intro ti86 (And.intro ti87 ti95)))
  (And.intro (And.intro ti96 ti97)
  (And.intro ti108 (And.intro ti117 ti118))))
  (And.intro (And.intro (And.intro ti131 ti132)
  (And.intro ti136 (And.intro ti137 ti143)))
  (And.intro (And.intro ti144 ti145)
  (And.intro ti154 (And.intro ti155 ti166)))))
  (And.intro (And.intro (And.intro (And.intro ti167 ti175)
  (And.intro ti184 (And.intro ti185 ti191)))
  (And.intro (And.intro ti192 ti194)
  (And.intro ti209 (And.intro ti210 ti211))))
  (And.intro (And.intro (And.intro ti216 ti217)
  (And.intro ti222 (And.intro ti229 ti231)))
  (And.intro (And.intro ti232 ti236)
  (And.intro ti237 (And.intro ti240 ti241)))))))) :=
  (And.intro (And.intro (And.intro (And.intro (And.intro (And.intro ti2 ti3)
  (And.intro ti4 (And.intro ti5 ti6)))
  (And.intro (And.intro ti7 ti8)
  (And.intro ti9 (And.intro ti10 ti11))))
  (And.intro (And.intro (And.intro ti12 ti13)
  (And.intro ti14 (And.intro ti18 ti19)))
  (And.intro (And.intro ti21 ti22)
  (And.intro ti23 (And.intro ti24 ti26)))))
  (And.intro (And.intro (And.intro (And.intro ti33 ti34)
  (And.intro ti35 (And.intro ti36 ti37)))
  (And.intro (And.intro ti38 ti39)
  (And.intro ti40 (And.intro ti43 ti44))))
  (And.intro (And.intro (And.intro ti45 ti48)
  (And.intro ti49 (And.intro ti50 ti52)))
  (And.intro (And.intro ti53 ti62)
  (And.intro ti63 (And.intro ti65 ti74))))))
  (And.intro (And.intro (And.intro (And.intro (And.intro ti75 ti85)
  (And.intro ti86 (And.intro ti87 ti95)))
  (And.intro (And.intro ti96 ti97)
  (And.intro ti108 (And.intro ti117 ti118))))
  (And.intro (And.intro (And.intro ti131 ti132)
  (And.intro ti136 (And.intro ti137 ti143)))
  (And.intro (And.intro ti144 ti145)
  (And.intro ti154 (And.intro ti155 ti166)))))
  (And.intro (And.intro (And.intro (And.intro ti167 ti175)
  (And.intro ti184 (And.intro ti185 ti191)))
  (And.intro (And.intro ti192 ti194)
  (And.intro ti209 (And.intro ti210 ti211))))
  (And.intro (And.intro (And.intro ti216 ti217)
  (And.intro ti222 (And.intro ti229 ti231)))
  (And.intro (And.intro ti232 ti236)
  (And.intro ti237 (And.intro ti240 ti241)))))))

end Go.Proofs.Ytmdajpgemcaefaa
