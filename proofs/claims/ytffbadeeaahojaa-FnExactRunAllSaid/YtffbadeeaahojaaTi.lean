/-
  Facts of the program's types, as the engine asks for them. No conditions of its own.
-/
import Derived.Test.YtffbadeeaahojaaMC
import Derived.Test.YtffbadeeaahojaaRows
namespace Go.Proofs.Ytffbadeeaahojaa
set_option linter.unusedSimpArgs false
set_option linter.unusedVariables false
open Go.RowKit

theorem ti2 : tiOf Try.prog 2 = some ⟨.int .i64, 1, 8, [.v (.int .i64 0)], false⟩ := by kernel_rfl
theorem ti3 : tiOf Try.prog 3 = some ⟨.int .i64, 1, 8, [.v (.int .i64 0)], false⟩ := by kernel_rfl
theorem ti4 : tiOf Try.prog 4 = some ⟨.bool, 1, 1, [.v (.bool false)], false⟩ := by kernel_rfl
theorem ti5 : tiOf Try.prog 5 = some ⟨.int .u8, 1, 1, [.v (.int .u8 0)], false⟩ := by kernel_rfl
theorem ti6 : tiOf Try.prog 6 = some ⟨.int .u8, 1, 1, [.v (.int .u8 0)], false⟩ := by kernel_rfl
theorem ti7 : tiOf Try.prog 7 = some ⟨.struct [(0, 1, false), (1, 1, false), (2, 1, false), (3, 1, false)], 4, 24, [.v (.int .i64 0), .v (.int .i64 0), .v (.bool false), .v (.int .u8 0)], true⟩ := by kernel_rfl
theorem ti8 : tiOf Try.prog 8 = some ⟨.struct [(0, 1, false), (1, 1, false), (2, 1, false), (3, 1, false)], 4, 24, [.v (.int .i64 0), .v (.int .i64 0), .v (.bool false), .v (.int .u8 0)], true⟩ := by kernel_rfl
theorem ti9 : tiOf Try.prog 9 = some ⟨.str, 1, 16, [.v (.string ⟨#[]⟩)], false⟩ := by kernel_rfl
theorem ti10 : tiOf Try.prog 10 = some ⟨.str, 1, 16, [.v (.string ⟨#[]⟩)], false⟩ := by kernel_rfl
theorem ti11 : tiOf Try.prog 11 = some ⟨.str, 1, 16, [.v (.string ⟨#[]⟩)], false⟩ := by kernel_rfl
theorem ti12 : tiOf Try.prog 12 = some ⟨.int .u64, 1, 8, [.v (.int .u64 0)], false⟩ := by kernel_rfl
theorem ti13 : tiOf Try.prog 13 = some ⟨.struct [(0, 1, false), (1, 1, false)], 2, 24, [.v (.string ⟨#[]⟩), .v (.int .u64 0)], true⟩ := by kernel_rfl
theorem ti14 : tiOf Try.prog 14 = some ⟨.struct [(0, 1, false), (1, 1, false)], 2, 24, [.v (.string ⟨#[]⟩), .v (.int .u64 0)], true⟩ := by kernel_rfl
theorem ti18 : tiOf Try.prog 18 = some ⟨.struct [(0, 1, false)], 1, 8, [.v (.pointer none)], true⟩ := by kernel_rfl
theorem ti19 : tiOf Try.prog 19 = some ⟨.struct [(0, 1, false)], 1, 8, [.v (.pointer none)], true⟩ := by kernel_rfl
theorem ti21 : tiOf Try.prog 21 = some ⟨.int .i32, 1, 4, [.v (.int .i32 0)], false⟩ := by kernel_rfl
theorem ti22 : tiOf Try.prog 22 = some ⟨.slice 103, 1, 24, [.nil], false⟩ := by kernel_rfl
theorem ti23 : tiOf Try.prog 23 = some ⟨.struct [(0, 1, false), (1, 1, false)], 2, 32, [.v (.int .i64 0), .nil], true⟩ := by kernel_rfl
theorem ti24 : tiOf Try.prog 24 = some ⟨.struct [(0, 1, false), (1, 1, false)], 2, 32, [.v (.int .i64 0), .nil], true⟩ := by kernel_rfl
theorem ti25 : tiOf Try.prog 25 = some ⟨.struct [(0, 1, false), (1, 1, false)], 2, 16, [.v (.int .i64 0), .v (.int .i64 0)], true⟩ := by kernel_rfl
theorem ti26 : tiOf Try.prog 26 = some ⟨.struct [(0, 1, false), (1, 1, false)], 2, 16, [.v (.int .i64 0), .v (.int .i64 0)], true⟩ := by kernel_rfl
theorem ti27 : tiOf Try.prog 27 = some ⟨.slice 3, 1, 24, [.nil], false⟩ := by kernel_rfl
theorem ti28 : tiOf Try.prog 28 = some ⟨.slice 5, 1, 24, [.nil], false⟩ := by kernel_rfl
theorem ti29 : tiOf Try.prog 29 = some ⟨.struct [(0, 1, false), (1, 1, false)], 2, 32, [.v (.int .i64 0), .nil], true⟩ := by kernel_rfl
theorem ti30 : tiOf Try.prog 30 = some ⟨.struct [(0, 1, false), (1, 1, false)], 2, 32, [.v (.int .i64 0), .nil], true⟩ := by kernel_rfl
theorem ti31 : tiOf Try.prog 31 = some ⟨.struct [(0, 2, true), (2, 1, false), (3, 1, false), (4, 1, false), (5, 1, false), (6, 2, true)], 8, 112, [.v (.int .i64 0), .v (.int .i64 0), .v (.int .i64 0), .v (.bool false), .nil, .nil, .v (.int .i64 0), .nil], true⟩ := by kernel_rfl
theorem ti32 : tiOf Try.prog 32 = some ⟨.struct [(0, 2, true), (2, 1, false), (3, 1, false), (4, 1, false), (5, 1, false), (6, 2, true)], 8, 112, [.v (.int .i64 0), .v (.int .i64 0), .v (.int .i64 0), .v (.bool false), .nil, .nil, .v (.int .i64 0), .nil], true⟩ := by kernel_rfl
theorem ti36 : tiOf Try.prog 36 = some ⟨.struct [(0, 1, false), (1, 1, false)], 2, 16, [.v (.int .i64 0), .v (.int .i64 0)], true⟩ := by kernel_rfl
theorem ti37 : tiOf Try.prog 37 = some ⟨.struct [(0, 1, false), (1, 1, false)], 2, 32, [.v (.int .i64 0), .nil], true⟩ := by kernel_rfl
theorem ti38 : tiOf Try.prog 38 = some ⟨.struct [(0, 2, true), (2, 1, false), (3, 1, false), (4, 1, false), (5, 1, false), (6, 2, true)], 8, 112, [.v (.int .i64 0), .v (.int .i64 0), .v (.int .i64 0), .v (.bool false), .nil, .nil, .v (.int .i64 0), .nil], true⟩ := by kernel_rfl
theorem ti39 : tiOf Try.prog 39 = some ⟨.struct [(0, 2, true), (2, 1, false), (3, 1, false), (4, 1, false), (5, 1, false), (6, 2, true)], 8, 112, [.v (.int .i64 0), .v (.int .i64 0), .v (.int .i64 0), .v (.bool false), .nil, .nil, .v (.int .i64 0), .nil], true⟩ := by kernel_rfl
theorem ti42 : tiOf Try.prog 42 = some ⟨.slice 101, 1, 24, [.nil], false⟩ := by kernel_rfl
theorem ti43 : tiOf Try.prog 43 = some ⟨.struct [(0, 1, false), (1, 1, false)], 2, 32, [.v (.int .i64 0), .nil], true⟩ := by kernel_rfl
theorem ti44 : tiOf Try.prog 44 = some ⟨.struct [(0, 1, false), (1, 1, false)], 2, 32, [.v (.int .i64 0), .nil], true⟩ := by kernel_rfl
theorem ti94 : tiOf Try.prog 94 = some ⟨.slice 117, 1, 24, [.nil], false⟩ := by kernel_rfl
theorem ti100 : tiOf Try.prog 100 = some ⟨.struct [(0, 1, false), (1, 1, false), (2, 1, false)], 3, 24, [.v (.int .i64 0), .v (.int .i64 0), .v (.int .i64 0)], true⟩ := by kernel_rfl
theorem ti101 : tiOf Try.prog 101 = some ⟨.struct [(0, 1, false), (1, 1, false), (2, 1, false)], 3, 24, [.v (.int .i64 0), .v (.int .i64 0), .v (.int .i64 0)], true⟩ := by kernel_rfl
theorem ti103 : tiOf Try.prog 103 = some ⟨.struct [(0, 1, false), (1, 1, false), (2, 1, false)], 3, 24, [.v (.int .i64 0), .v (.int .i64 0), .v (.int .i64 0)], true⟩ := by kernel_rfl
theorem ti108 : tiOf Try.prog 108 = some ⟨.struct [(0, 1, false), (1, 1, false), (2, 1, false)], 3, 40, [.nil, .v (.int .i64 0), .v (.int .i64 0)], true⟩ := by kernel_rfl
theorem ti109 : tiOf Try.prog 109 = some ⟨.struct [(0, 1, false), (1, 1, false), (2, 1, false)], 3, 40, [.nil, .v (.int .i64 0), .v (.int .i64 0)], true⟩ := by kernel_rfl
theorem ti116 : tiOf Try.prog 116 = some ⟨.struct [(0, 1, false), (1, 1, false), (2, 1, false), (3, 1, false)], 4, 24, [.v (.bool false), .v (.bool false), .v (.int .i64 0), .v (.int .i64 0)], true⟩ := by kernel_rfl
theorem ti117 : tiOf Try.prog 117 = some ⟨.struct [(0, 1, false), (1, 1, false), (2, 1, false), (3, 1, false)], 4, 24, [.v (.bool false), .v (.bool false), .v (.int .i64 0), .v (.int .i64 0)], true⟩ := by kernel_rfl
theorem ti133 : tiOf Try.prog 133 = some ⟨.int .u64, 1, 8, [.v (.int .u64 0)], false⟩ := by kernel_rfl
theorem ti135 : tiOf Try.prog 135 = some ⟨.struct [(0, 1, false), (1, 1, false), (2, 1, false), (3, 1, false)], 4, 40, [.v (.pointer none), .v (.pointer none), .v (.pointer none), .v (.string ⟨#[]⟩)], true⟩ := by kernel_rfl
theorem ti136 : tiOf Try.prog 136 = some ⟨.struct [(0, 1, false), (1, 1, false), (2, 1, false), (3, 1, false)], 4, 40, [.v (.pointer none), .v (.pointer none), .v (.pointer none), .v (.string ⟨#[]⟩)], true⟩ := by kernel_rfl
theorem ti141 : tiOf Try.prog 141 = some ⟨.int .u32, 1, 4, [.v (.int .u32 0)], false⟩ := by kernel_rfl
theorem ti142 : tiOf Try.prog 142 = some ⟨.int .u8, 1, 1, [.v (.int .u8 0)], false⟩ := by kernel_rfl
theorem ti143 : tiOf Try.prog 143 = some ⟨.int .u8, 1, 1, [.v (.int .u8 0)], false⟩ := by kernel_rfl
theorem ti146 : tiOf Try.prog 146 = some ⟨.int .i32, 1, 4, [.v (.int .i32 0)], false⟩ := by kernel_rfl
theorem ti147 : tiOf Try.prog 147 = some ⟨.int .i32, 1, 4, [.v (.int .i32 0)], false⟩ := by kernel_rfl

theorem tiAll : type_of% (
  (And.intro (And.intro (And.intro (And.intro (And.intro ti2 (And.intro ti3 ti4))
  (And.intro ti5 (And.intro ti6 ti7)))
  (And.intro (And.intro ti8 (And.intro ti9 ti10))
  (And.intro ti11 (And.intro ti12 ti13))))
  (And.intro (And.intro (And.intro ti14 (And.intro ti18 ti19))
  (And.intro ti21 (And.intro ti22 ti23)))
  (And.intro (And.intro ti24 (And.intro ti25 ti26))
  (And.intro (And.intro ti27 ti28)
  (And.intro ti29 ti30)))))
  (And.intro (And.intro (And.intro (And.intro ti31 (And.intro ti32 ti36))
  (And.intro ti37 (And.intro ti38 ti39)))
  (And.intro (And.intro ti42 (And.intro ti43 ti44))
  (And.intro ti94 (And.intro ti100 ti101))))
  (And.intro (And.intro (And.intro ti103 (And.intro ti108 ti109))
  (And.intro ti116 (And.intro ti117 ti133)))
  (And.intro (And.intro ti135 (And.intro ti136 ti141))
  (And.intro (And.intro ti142 ti143)
  (And.intro ti146 ti147))))))) :=
  (And.intro (And.intro (And.intro (And.intro (And.intro ti2 (And.intro ti3 ti4))
  (And.intro ti5 (And.intro ti6 ti7)))
  (And.intro (And.intro ti8 (And.intro ti9 ti10))
  (And.intro ti11 (And.intro ti12 ti13))))
  (And.intro (And.intro (And.intro ti14 (And.intro ti18 ti19))
  (And.intro ti21 (And.intro ti22 ti23)))
  (And.intro (And.intro ti24 (And.intro ti25 ti26))
  (And.intro (And.intro ti27 ti28)
  (And.intro ti29 ti30)))))
  (And.intro (And.intro (And.intro (And.intro ti31 (And.intro ti32 ti36))
  (And.intro ti37 (And.intro ti38 ti39)))
  (And.intro (And.intro ti42 (And.intro ti43 ti44))
  (And.intro ti94 (And.intro ti100 ti101))))
  (And.intro (And.intro (And.intro ti103 (And.intro ti108 ti109))
  (And.intro ti116 (And.intro ti117 ti133)))
  (And.intro (And.intro ti135 (And.intro ti136 ti141))
  (And.intro (And.intro ti142 ti143)
  (And.intro ti146 ti147))))))

end Go.Proofs.Ytffbadeeaahojaa
