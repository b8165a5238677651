/-
  Facts of the program's types, as the engine asks for them. No conditions of its own.
-/
import Derived.Test.YtmmlacninkpgkaaE21
import Derived.Test.YtmmlacninkpgkaaRows
namespace Go.Proofs.Ytmmlacninkpgkaa
open Go.RowKit

theorem ti2 : tiOf Try.prog 2 = some ⟨.int .i64, 1, 8, [.v (.int .i64 0)], false⟩ := by kernel_rfl
theorem ti3 : tiOf Try.prog 3 = some ⟨.int .i64, 1, 8, [.v (.int .i64 0)], false⟩ := by kernel_rfl
theorem ti4 : tiOf Try.prog 4 = some ⟨.bool, 1, 1, [.v (.bool false)], false⟩ := by kernel_rfl
theorem ti5 : tiOf Try.prog 5 = some ⟨.int .u8, 1, 1, [.v (.int .u8 0)], false⟩ := by kernel_rfl
theorem ti6 : tiOf Try.prog 6 = some ⟨.int .u8, 1, 1, [.v (.int .u8 0)], false⟩ := by kernel_rfl
theorem ti7 : tiOf Try.prog 7 = some ⟨.struct [(0, 1, false), (1, 1, false), (2, 1, false), (3, 1, false)], 4, 24, [.v (.int .i64 0), .v (.int .i64 0), .v (.bool false), .v (.int .u8 0)], true⟩ := by kernel_rfl
theorem ti8 : tiOf Try.prog 8 = some ⟨.struct [(0, 1, false), (1, 1, false), (2, 1, false), (3, 1, false)], 4, 24, [.v (.int .i64 0), .v (.int .i64 0), .v (.bool false), .v (.int .u8 0)], true⟩ := by kernel_rfl
theorem ti9 : tiOf Try.prog 9 = some ⟨.str, 1, 16, [.v (.string ⟨#[]⟩)], false⟩ := by kernel_rfl
theorem ti10 : tiOf Try.prog 10 = some ⟨.str, 1, 16, [.v (.string ⟨#[]⟩)], false⟩ := by kernel_rfl
theorem ti11 : tiOf Try.prog 11 = some ⟨.str, 1, 16, [.v (.string ⟨#[]⟩)], false⟩ := by kernel_rfl
theorem ti12 : tiOf Try.prog 12 = some ⟨.int .u64, 1, 8, [.v (.int .u64 0)], false⟩ := by kernel_rfl
theorem ti13 : tiOf Try.prog 13 = some ⟨.struct [(0, 1, false), (1, 1, false)], 2, 24, [.v (.string ⟨#[]⟩), .v (.int .u64 0)], true⟩ := by kernel_rfl
theorem ti14 : tiOf Try.prog 14 = some ⟨.struct [(0, 1, false), (1, 1, false)], 2, 24, [.v (.string ⟨#[]⟩), .v (.int .u64 0)], true⟩ := by kernel_rfl
theorem ti18 : tiOf Try.prog 18 = some ⟨.struct [(0, 1, false)], 1, 8, [.v (.pointer none)], true⟩ := by kernel_rfl
theorem ti19 : tiOf Try.prog 19 = some ⟨.struct [(0, 1, false)], 1, 8, [.v (.pointer none)], true⟩ := by kernel_rfl
theorem ti21 : tiOf Try.prog 21 = some ⟨.int .i32, 1, 4, [.v (.int .i32 0)], false⟩ := by kernel_rfl
theorem ti22 : tiOf Try.prog 22 = some ⟨.slice 5, 1, 24, [.nil], false⟩ := by kernel_rfl
theorem ti23 : tiOf Try.prog 23 = some ⟨.struct [(0, 1, false), (1, 1, false), (2, 1, false), (3, 1, false), (4, 1, false)], 5, 40, [.v (.int .i64 0), .v (.int .i64 0), .v (.int .i64 0), .v (.bool false), .v (.int .i64 0)], true⟩ := by kernel_rfl
theorem ti24 : tiOf Try.prog 24 = some ⟨.struct [(0, 1, false), (1, 1, false), (2, 1, false), (3, 1, false), (4, 1, false)], 5, 40, [.v (.int .i64 0), .v (.int .i64 0), .v (.int .i64 0), .v (.bool false), .v (.int .i64 0)], true⟩ := by kernel_rfl
theorem ti31 : tiOf Try.prog 31 = some ⟨.struct [(0, 1, false), (1, 1, false)], 2, 32, [.v (.int .i64 0), .nil], true⟩ := by kernel_rfl
theorem ti32 : tiOf Try.prog 32 = some ⟨.struct [(0, 1, false), (1, 1, false)], 2, 32, [.v (.int .i64 0), .nil], true⟩ := by kernel_rfl
theorem ti34 : tiOf Try.prog 34 = some ⟨.struct [(0, 1, false), (1, 1, false)], 2, 32, [.v (.int .i64 0), .nil], true⟩ := by kernel_rfl
theorem ti45 : tiOf Try.prog 45 = some ⟨.slice 3, 1, 24, [.nil], false⟩ := by kernel_rfl
theorem ti49 : tiOf Try.prog 49 = some ⟨.slice 217, 1, 24, [.nil], false⟩ := by kernel_rfl
theorem ti50 : tiOf Try.prog 50 = some ⟨.struct [(0, 1, false), (1, 1, false), (2, 1, false), (3, 1, false), (4, 1, false)], 5, 56, [.v (.int .i64 0), .v (.int .i64 0), .v (.int .i64 0), .nil, .v (.int .i64 0)], true⟩ := by kernel_rfl
theorem ti51 : tiOf Try.prog 51 = some ⟨.struct [(0, 1, false), (1, 1, false), (2, 1, false), (3, 1, false), (4, 1, false)], 5, 56, [.v (.int .i64 0), .v (.int .i64 0), .v (.int .i64 0), .nil, .v (.int .i64 0)], true⟩ := by kernel_rfl
theorem ti53 : tiOf Try.prog 53 = some ⟨.slice 89, 1, 24, [.nil], false⟩ := by kernel_rfl
theorem ti56 : tiOf Try.prog 56 = some ⟨.slice 154, 1, 24, [.nil], false⟩ := by kernel_rfl
theorem ti57 : tiOf Try.prog 57 = some ⟨.struct [(0, 1, false), (1, 1, false), (2, 1, false), (3, 1, false), (4, 1, false)], 5, 56, [.v (.int .i64 0), .v (.int .i64 0), .v (.int .i64 0), .nil, .v (.int .i64 0)], true⟩ := by kernel_rfl
theorem ti58 : tiOf Try.prog 58 = some ⟨.struct [(0, 1, false), (1, 1, false), (2, 1, false), (3, 1, false), (4, 1, false)], 5, 56, [.v (.int .i64 0), .v (.int .i64 0), .v (.int .i64 0), .nil, .v (.int .i64 0)], true⟩ := by kernel_rfl
theorem ti67 : tiOf Try.prog 67 = some ⟨.struct [(0, 1, false), (1, 1, false)], 2, 16, [.v (.int .i64 0), .v (.int .i64 0)], true⟩ := by kernel_rfl
theorem ti68 : tiOf Try.prog 68 = some ⟨.struct [(0, 1, false), (1, 1, false)], 2, 16, [.v (.int .i64 0), .v (.int .i64 0)], true⟩ := by kernel_rfl
theorem ti69 : tiOf Try.prog 69 = some ⟨.struct [(0, 2, true), (2, 1, false), (3, 1, false), (4, 1, false), (5, 1, false), (6, 2, true)], 8, 112, [.v (.int .i64 0), .v (.int .i64 0), .v (.int .i64 0), .v (.bool false), .nil, .nil, .v (.int .i64 0), .nil], true⟩ := by kernel_rfl
theorem ti70 : tiOf Try.prog 70 = some ⟨.struct [(0, 2, true), (2, 1, false), (3, 1, false), (4, 1, false), (5, 1, false), (6, 2, true)], 8, 112, [.v (.int .i64 0), .v (.int .i64 0), .v (.int .i64 0), .v (.bool false), .nil, .nil, .v (.int .i64 0), .nil], true⟩ := by kernel_rfl
theorem ti72 : tiOf Try.prog 72 = some ⟨.struct [(0, 1, false), (1, 1, false)], 2, 16, [.v (.int .i64 0), .v (.int .i64 0)], true⟩ := by kernel_rfl
theorem ti73 : tiOf Try.prog 73 = some ⟨.struct [(0, 2, true), (2, 1, false), (3, 1, false), (4, 1, false), (5, 2, true)], 7, 104, [.v (.int .i64 0), .v (.int .i64 0), .v (.int .i64 0), .nil, .nil, .v (.int .i64 0), .nil], true⟩ := by kernel_rfl
theorem ti74 : tiOf Try.prog 74 = some ⟨.struct [(0, 2, true), (2, 1, false), (3, 1, false), (4, 1, false), (5, 2, true)], 7, 104, [.v (.int .i64 0), .v (.int .i64 0), .v (.int .i64 0), .nil, .nil, .v (.int .i64 0), .nil], true⟩ := by kernel_rfl
theorem ti76 : tiOf Try.prog 76 = some ⟨.struct [(0, 2, true), (2, 1, false), (3, 1, false), (4, 1, false), (5, 1, false), (6, 2, true)], 8, 112, [.v (.int .i64 0), .v (.int .i64 0), .v (.int .i64 0), .v (.bool false), .nil, .nil, .v (.int .i64 0), .nil], true⟩ := by kernel_rfl
theorem ti77 : tiOf Try.prog 77 = some ⟨.struct [(0, 2, true), (2, 1, false), (3, 1, false), (4, 1, false), (5, 1, false), (6, 2, true)], 8, 112, [.v (.int .i64 0), .v (.int .i64 0), .v (.int .i64 0), .v (.bool false), .nil, .nil, .v (.int .i64 0), .nil], true⟩ := by kernel_rfl
theorem ti88 : tiOf Try.prog 88 = some ⟨.struct [(0, 1, false), (1, 1, false), (2, 1, false), (3, 1, false)], 4, 24, [.v (.bool false), .v (.bool false), .v (.int .i64 0), .v (.int .i64 0)], true⟩ := by kernel_rfl
theorem ti89 : tiOf Try.prog 89 = some ⟨.struct [(0, 1, false), (1, 1, false), (2, 1, false), (3, 1, false)], 4, 24, [.v (.bool false), .v (.bool false), .v (.int .i64 0), .v (.int .i64 0)], true⟩ := by kernel_rfl
theorem ti90 : tiOf Try.prog 90 = some ⟨.slice 224, 1, 24, [.nil], false⟩ := by kernel_rfl
theorem ti91 : tiOf Try.prog 91 = some ⟨.struct [(0, 1, false), (1, 1, false)], 2, 32, [.v (.int .i64 0), .nil], true⟩ := by kernel_rfl
theorem ti92 : tiOf Try.prog 92 = some ⟨.struct [(0, 1, false), (1, 1, false)], 2, 32, [.v (.int .i64 0), .nil], true⟩ := by kernel_rfl
theorem ti95 : tiOf Try.prog 95 = some ⟨.slice 202, 1, 24, [.nil], false⟩ := by kernel_rfl
theorem ti96 : tiOf Try.prog 96 = some ⟨.struct [(0, 1, false), (1, 1, false)], 2, 32, [.v (.int .i64 0), .nil], true⟩ := by kernel_rfl
theorem ti97 : tiOf Try.prog 97 = some ⟨.struct [(0, 1, false), (1, 1, false)], 2, 32, [.v (.int .i64 0), .nil], true⟩ := by kernel_rfl
theorem ti101 : tiOf Try.prog 101 = some ⟨.slice 178, 1, 24, [.nil], false⟩ := by kernel_rfl
theorem ti106 : tiOf Try.prog 106 = some ⟨.slice 229, 1, 24, [.nil], false⟩ := by kernel_rfl
theorem ti107 : tiOf Try.prog 107 = some ⟨.struct [(0, 1, false), (1, 1, false), (2, 1, false)], 3, 56, [.v (.int .i64 0), .nil, .nil], true⟩ := by kernel_rfl
theorem ti108 : tiOf Try.prog 108 = some ⟨.struct [(0, 1, false), (1, 1, false), (2, 1, false)], 3, 56, [.v (.int .i64 0), .nil, .nil], true⟩ := by kernel_rfl
theorem ti111 : tiOf Try.prog 111 = some ⟨.slice 183, 1, 24, [.nil], false⟩ := by kernel_rfl
theorem ti112 : tiOf Try.prog 112 = some ⟨.struct [(0, 1, false), (1, 1, false), (2, 1, false)], 3, 56, [.v (.int .i64 0), .nil, .nil], true⟩ := by kernel_rfl
theorem ti113 : tiOf Try.prog 113 = some ⟨.struct [(0, 1, false), (1, 1, false), (2, 1, false)], 3, 56, [.v (.int .i64 0), .nil, .nil], true⟩ := by kernel_rfl
theorem ti117 : tiOf Try.prog 117 = some ⟨.struct [(0, 2, true), (2, 1, false), (3, 1, false), (4, 1, false), (5, 2, true)], 7, 104, [.v (.int .i64 0), .v (.int .i64 0), .v (.int .i64 0), .nil, .nil, .v (.int .i64 0), .nil], true⟩ := by kernel_rfl
theorem ti118 : tiOf Try.prog 118 = some ⟨.struct [(0, 2, true), (2, 1, false), (3, 1, false), (4, 1, false), (5, 2, true)], 7, 104, [.v (.int .i64 0), .v (.int .i64 0), .v (.int .i64 0), .nil, .nil, .v (.int .i64 0), .nil], true⟩ := by kernel_rfl
theorem ti131 : tiOf Try.prog 131 = some ⟨.struct [(0, 1, false), (1, 1, false), (2, 1, false)], 3, 40, [.nil, .v (.int .i64 0), .v (.bool false)], true⟩ := by kernel_rfl
theorem ti132 : tiOf Try.prog 132 = some ⟨.struct [(0, 1, false), (1, 1, false), (2, 1, false)], 3, 40, [.nil, .v (.int .i64 0), .v (.bool false)], true⟩ := by kernel_rfl
theorem ti136 : tiOf Try.prog 136 = some ⟨.struct [(0, 1, false), (1, 1, false), (2, 1, false)], 3, 40, [.nil, .v (.int .i64 0), .v (.bool false)], true⟩ := by kernel_rfl
theorem ti137 : tiOf Try.prog 137 = some ⟨.struct [(0, 1, false), (1, 1, false), (2, 1, false)], 3, 40, [.nil, .v (.int .i64 0), .v (.bool false)], true⟩ := by kernel_rfl
theorem ti144 : tiOf Try.prog 144 = some ⟨.struct [(0, 1, false), (1, 1, false), (2, 1, false)], 3, 40, [.nil, .v (.int .i64 0), .v (.int .i64 0)], true⟩ := by kernel_rfl
theorem ti145 : tiOf Try.prog 145 = some ⟨.struct [(0, 1, false), (1, 1, false), (2, 1, false)], 3, 40, [.nil, .v (.int .i64 0), .v (.int .i64 0)], true⟩ := by kernel_rfl
theorem ti151 : tiOf Try.prog 151 = some ⟨.struct [(0, 1, false), (1, 1, false), (2, 1, false), (3, 1, false), (4, 1, false)], 5, 40, [.v (.int .i64 0), .v (.int .i64 0), .v (.int .i64 0), .v (.int .i64 0), .v (.int .i64 0)], true⟩ := by kernel_rfl
theorem ti152 : tiOf Try.prog 152 = some ⟨.struct [(0, 1, false), (1, 1, false), (2, 1, false), (3, 1, false), (4, 1, false)], 5, 40, [.v (.int .i64 0), .v (.int .i64 0), .v (.int .i64 0), .v (.int .i64 0), .v (.int .i64 0)], true⟩ := by kernel_rfl
theorem ti153 : tiOf Try.prog 153 = some ⟨.struct [(0, 1, false), (1, 1, false), (2, 5, true)], 7, 56, [.v (.int .i64 0), .v (.int .i64 0), .v (.int .i64 0), .v (.int .i64 0), .v (.int .i64 0), .v (.int .i64 0), .v (.int .i64 0)], true⟩ := by kernel_rfl
theorem ti154 : tiOf Try.prog 154 = some ⟨.struct [(0, 1, false), (1, 1, false), (2, 5, true)], 7, 56, [.v (.int .i64 0), .v (.int .i64 0), .v (.int .i64 0), .v (.int .i64 0), .v (.int .i64 0), .v (.int .i64 0), .v (.int .i64 0)], true⟩ := by kernel_rfl
theorem ti178 : tiOf Try.prog 178 = some ⟨.struct [(0, 1, false), (1, 1, false), (2, 1, false), (3, 1, false)], 4, 24, [.v (.bool false), .v (.bool false), .v (.int .i64 0), .v (.int .i64 0)], true⟩ := by kernel_rfl
theorem ti181 : tiOf Try.prog 181 = some ⟨.slice 152, 1, 24, [.nil], false⟩ := by kernel_rfl
theorem ti182 : tiOf Try.prog 182 = some ⟨.struct [(0, 1, false), (1, 1, false), (2, 1, false)], 3, 40, [.v (.int .i64 0), .v (.int .i64 0), .nil], true⟩ := by kernel_rfl
theorem ti183 : tiOf Try.prog 183 = some ⟨.struct [(0, 1, false), (1, 1, false), (2, 1, false)], 3, 40, [.v (.int .i64 0), .v (.int .i64 0), .nil], true⟩ := by kernel_rfl
theorem ti193 : tiOf Try.prog 193 = some ⟨.struct [(0, 1, false), (1, 1, false)], 2, 32, [.v (.int .i64 0), .nil], true⟩ := by kernel_rfl
theorem ti194 : tiOf Try.prog 194 = some ⟨.struct [(0, 1, false), (1, 1, false)], 2, 32, [.v (.int .i64 0), .nil], true⟩ := by kernel_rfl
theorem ti201 : tiOf Try.prog 201 = some ⟨.struct [(0, 1, false), (1, 1, false), (2, 1, false)], 3, 24, [.v (.int .i64 0), .v (.int .i64 0), .v (.int .i64 0)], true⟩ := by kernel_rfl
theorem ti202 : tiOf Try.prog 202 = some ⟨.struct [(0, 1, false), (1, 1, false), (2, 1, false)], 3, 24, [.v (.int .i64 0), .v (.int .i64 0), .v (.int .i64 0)], true⟩ := by kernel_rfl
theorem ti212 : tiOf Try.prog 212 = some ⟨.int .u32, 1, 4, [.v (.int .u32 0)], false⟩ := by kernel_rfl
theorem ti213 : tiOf Try.prog 213 = some ⟨.int .u64, 1, 8, [.v (.int .u64 0)], false⟩ := by kernel_rfl
theorem ti215 : tiOf Try.prog 215 = some ⟨.struct [(0, 1, false), (1, 1, false), (2, 1, false), (3, 1, false), (4, 1, false)], 5, 40, [.v (.int .i64 0), .v (.int .i64 0), .v (.int .i64 0), .v (.int .i64 0), .v (.int .i64 0)], true⟩ := by kernel_rfl
theorem ti216 : tiOf Try.prog 216 = some ⟨.struct [(0, 1, false), (1, 1, false), (2, 5, true)], 7, 56, [.v (.int .i64 0), .v (.int .i64 0), .v (.int .i64 0), .v (.int .i64 0), .v (.int .i64 0), .v (.int .i64 0), .v (.int .i64 0)], true⟩ := by kernel_rfl
theorem ti217 : tiOf Try.prog 217 = some ⟨.struct [(0, 1, false), (1, 1, false), (2, 5, true)], 7, 56, [.v (.int .i64 0), .v (.int .i64 0), .v (.int .i64 0), .v (.int .i64 0), .v (.int .i64 0), .v (.int .i64 0), .v (.int .i64 0)], true⟩ := by kernel_rfl
theorem ti224 : tiOf Try.prog 224 = some ⟨.struct [(0, 1, false), (1, 1, false), (2, 1, false)], 3, 24, [.v (.int .i64 0), .v (.int .i64 0), .v (.int .i64 0)], true⟩ := by kernel_rfl
theorem ti227 : tiOf Try.prog 227 = some ⟨.slice 215, 1, 24, [.nil], false⟩ := by kernel_rfl
theorem ti228 : tiOf Try.prog 228 = some ⟨.struct [(0, 1, false), (1, 1, false), (2, 1, false)], 3, 40, [.v (.int .i64 0), .v (.int .i64 0), .nil], true⟩ := by kernel_rfl
theorem ti229 : tiOf Try.prog 229 = some ⟨.struct [(0, 1, false), (1, 1, false), (2, 1, false)], 3, 40, [.v (.int .i64 0), .v (.int .i64 0), .nil], true⟩ := by kernel_rfl
theorem ti231 : tiOf Try.prog 231 = some ⟨.slice 4, 1, 24, [.nil], false⟩ := by kernel_rfl
theorem ti244 : tiOf Try.prog 244 = some ⟨.struct [(0, 1, false), (1, 1, false), (2, 1, false), (3, 1, false)], 4, 40, [.v (.pointer none), .v (.pointer none), .v (.pointer none), .v (.string ⟨#[]⟩)], true⟩ := by kernel_rfl
theorem ti245 : tiOf Try.prog 245 = some ⟨.struct [(0, 1, false), (1, 1, false), (2, 1, false), (3, 1, false)], 4, 40, [.v (.pointer none), .v (.pointer none), .v (.pointer none), .v (.string ⟨#[]⟩)], true⟩ := by kernel_rfl
theorem ti249 : tiOf Try.prog 249 = some ⟨.int .u8, 1, 1, [.v (.int .u8 0)], false⟩ := by kernel_rfl
theorem ti250 : tiOf Try.prog 250 = some ⟨.int .u8, 1, 1, [.v (.int .u8 0)], false⟩ := by kernel_rfl
theorem ti253 : tiOf Try.prog 253 = some ⟨.int .i32, 1, 4, [.v (.int .i32 0)], false⟩ := by kernel_rfl
theorem ti254 : tiOf Try.prog 254 = some ⟨.int .i32, 1, 4, [.v (.int .i32 0)], false⟩ := by kernel_rfl

theorem tiAll : type_of% (
  And.intro ti2 <|
  And.intro ti3 <|
  And.intro ti4 <|
  And.intro ti5 <|
  And.intro ti6 <|
  And.intro ti7 <|
  And.intro ti8 <|
  And.intro ti9 <|
  And.intro ti10 <|
  And.intro ti11 <|
  And.intro ti12 <|
  And.intro ti13 <|
  And.intro ti14 <|
  And.intro ti18 <|
  And.intro ti19 <|
  And.intro ti21 <|
  And.intro ti22 <|
  And.intro ti23 <|
  And.intro ti24 <|
  And.intro ti31 <|
  And.intro ti32 <|
  And.intro ti34 <|
  And.intro ti45 <|
  And.intro ti49 <|
  And.intro ti50 <|
  And.intro ti51 <|
  And.intro ti53 <|
  And.intro ti56 <|
  And.intro ti57 <|
  And.intro ti58 <|
  And.intro ti67 <|
  And.intro ti68 <|
  And.intro ti69 <|
  And.intro ti70 <|
  And.intro ti72 <|
  And.intro ti73 <|
  And.intro ti74 <|
  And.intro ti76 <|
  And.intro ti77 <|
  And.intro ti88 <|
  And.intro ti89 <|
  And.intro ti90 <|
  And.intro ti91 <|
  And.intro ti92 <|
  And.intro ti95 <|
  And.intro ti96 <|
  And.intro ti97 <|
  And.intro ti101 <|
  And.intro ti106 <|
  And.intro ti107 <|
  And.intro ti108 <|
  And.intro ti111 <|
  And.intro ti112 <|
  And.intro ti113 <|
  And.intro ti117 <|
  And.intro ti118 <|
  And.intro ti131 <|
  And.intro ti132 <|
  And.intro ti136 <|
  And.intro ti137 <|
  And.intro ti144 <|
  And.intro ti145 <|
  And.intro ti151 <|
  And.intro ti152 <|
  And.intro ti153 <|
  And.intro ti154 <|
  And.intro ti178 <|
  And.intro ti181 <|
  And.intro ti182 <|
  And.intro ti183 <|
  And.intro ti193 <|
  And.intro ti194 <|
  And.intro ti201 <|
  And.intro ti202 <|
  And.intro ti212 <|
  And.intro ti213 <|
  And.intro ti215 <|
  And.intro ti216 <|
  And.intro ti217 <|
  And.intro ti224 <|
  And.intro ti227 <|
  And.intro ti228 <|
  And.intro ti229 <|
  And.intro ti231 <|
  And.intro ti244 <|
  And.intro ti245 <|
  And.intro ti249 <|
  And.intro ti250 <|
  And.intro ti253 <|
  ti254) :=
  And.intro ti2 <|
  And.intro ti3 <|
  And.intro ti4 <|
  And.intro ti5 <|
  And.intro ti6 <|
  And.intro ti7 <|
  And.intro ti8 <|
  And.intro ti9 <|
  And.intro ti10 <|
  And.intro ti11 <|
  And.intro ti12 <|
  And.intro ti13 <|
  And.intro ti14 <|
  And.intro ti18 <|
  And.intro ti19 <|
  And.intro ti21 <|
  And.intro ti22 <|
  And.intro ti23 <|
  And.intro ti24 <|
  And.intro ti31 <|
  And.intro ti32 <|
  And.intro ti34 <|
  And.intro ti45 <|
  And.intro ti49 <|
  And.intro ti50 <|
  And.intro ti51 <|
  And.intro ti53 <|
  And.intro ti56 <|
  And.intro ti57 <|
  And.intro ti58 <|
  And.intro ti67 <|
  And.intro ti68 <|
  And.intro ti69 <|
  And.intro ti70 <|
  And.intro ti72 <|
  And.intro ti73 <|
  And.intro ti74 <|
  And.intro ti76 <|
  And.intro ti77 <|
  And.intro ti88 <|
  And.intro ti89 <|
  And.intro ti90 <|
  And.intro ti91 <|
  And.intro ti92 <|
  And.intro ti95 <|
  And.intro ti96 <|
  And.intro ti97 <|
  And.intro ti101 <|
  And.intro ti106 <|
  And.intro ti107 <|
  And.intro ti108 <|
  And.intro ti111 <|
  And.intro ti112 <|
  And.intro ti113 <|
  And.intro ti117 <|
  And.intro ti118 <|
  And.intro ti131 <|
  And.intro ti132 <|
  And.intro ti136 <|
  And.intro ti137 <|
  And.intro ti144 <|
  And.intro ti145 <|
  And.intro ti151 <|
  And.intro ti152 <|
  And.intro ti153 <|
  And.intro ti154 <|
  And.intro ti178 <|
  And.intro ti181 <|
  And.intro ti182 <|
  And.intro ti183 <|
  And.intro ti193 <|
  And.intro ti194 <|
  And.intro ti201 <|
  And.intro ti202 <|
  And.intro ti212 <|
  And.intro ti213 <|
  And.intro ti215 <|
  And.intro ti216 <|
  And.intro ti217 <|
  And.intro ti224 <|
  And.intro ti227 <|
  And.intro ti228 <|
  And.intro ti229 <|
  And.intro ti231 <|
  And.intro ti244 <|
  And.intro ti245 <|
  And.intro ti249 <|
  And.intro ti250 <|
  And.intro ti253 <|
  ti254

end Go.Proofs.Ytmmlacninkpgkaa
