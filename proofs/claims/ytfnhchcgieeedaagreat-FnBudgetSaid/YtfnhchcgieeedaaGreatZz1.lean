/-
  Texts Ti S1 DF GF ST1 ST8 ST10 Sh WC in one. No conditions of its own.
-/
import Derived.Test.YtfnhchcgieeedaaGreatMC
import Derived.Test.YtfnhchcgieeedaaGreatRows
import Derived.Sort.Defs
import Derived.Sort.Statements
import Derived.Test.YtfnhchcgieeedaaGreatMSA
import Derived.Shelf.SlSortFuncK.BreakPatternsK
import Derived.Sort.AssemblyPlain
import Derived.Test.YtfnhchcgieeedaaGreatFrame
namespace Go.Proofs.YtfnhchcgieeedaaGreat
set_option linter.unusedSimpArgs false
set_option linter.unusedVariables false
set_option linter.defProp false
open Go.RowKit

theorem ti2 : tiOf Tryz.prog 2 = some ⟨.int .i64, 1, 8, [.v (.int .i64 0)], false⟩ := by kernel_rfl
theorem ti3 : tiOf Tryz.prog 3 = some ⟨.int .i64, 1, 8, [.v (.int .i64 0)], false⟩ := by kernel_rfl
theorem ti4 : tiOf Tryz.prog 4 = some ⟨.bool, 1, 1, [.v (.bool false)], false⟩ := by kernel_rfl
theorem ti5 : tiOf Tryz.prog 5 = some ⟨.int .u8, 1, 1, [.v (.int .u8 0)], false⟩ := by kernel_rfl
theorem ti6 : tiOf Tryz.prog 6 = some ⟨.int .u8, 1, 1, [.v (.int .u8 0)], false⟩ := by kernel_rfl
theorem ti7 : tiOf Tryz.prog 7 = some ⟨.struct [(0, 1, false), (1, 1, false), (2, 1, false), (3, 1, false)], 4, 24, [.v (.int .i64 0), .v (.int .i64 0), .v (.bool false), .v (.int .u8 0)], true⟩ := by kernel_rfl
theorem ti8 : tiOf Tryz.prog 8 = some ⟨.struct [(0, 1, false), (1, 1, false), (2, 1, false), (3, 1, false)], 4, 24, [.v (.int .i64 0), .v (.int .i64 0), .v (.bool false), .v (.int .u8 0)], true⟩ := by kernel_rfl
theorem ti9 : tiOf Tryz.prog 9 = some ⟨.str, 1, 16, [.v (.string ⟨#[]⟩)], false⟩ := by kernel_rfl
theorem ti10 : tiOf Tryz.prog 10 = some ⟨.str, 1, 16, [.v (.string ⟨#[]⟩)], false⟩ := by kernel_rfl
theorem ti11 : tiOf Tryz.prog 11 = some ⟨.str, 1, 16, [.v (.string ⟨#[]⟩)], false⟩ := by kernel_rfl
theorem ti12 : tiOf Tryz.prog 12 = some ⟨.int .u64, 1, 8, [.v (.int .u64 0)], false⟩ := by kernel_rfl
theorem ti13 : tiOf Tryz.prog 13 = some ⟨.struct [(0, 1, false), (1, 1, false)], 2, 24, [.v (.string ⟨#[]⟩), .v (.int .u64 0)], true⟩ := by kernel_rfl
theorem ti14 : tiOf Tryz.prog 14 = some ⟨.struct [(0, 1, false), (1, 1, false)], 2, 24, [.v (.string ⟨#[]⟩), .v (.int .u64 0)], true⟩ := by kernel_rfl
theorem ti18 : tiOf Tryz.prog 18 = some ⟨.struct [(0, 1, false)], 1, 8, [.v (.pointer none)], true⟩ := by kernel_rfl
theorem ti19 : tiOf Tryz.prog 19 = some ⟨.struct [(0, 1, false)], 1, 8, [.v (.pointer none)], true⟩ := by kernel_rfl
theorem ti21 : tiOf Tryz.prog 21 = some ⟨.int .i32, 1, 4, [.v (.int .i32 0)], false⟩ := by kernel_rfl
theorem ti22 : tiOf Tryz.prog 22 = some ⟨.slice 5, 1, 24, [.nil], false⟩ := by kernel_rfl
theorem ti23 : tiOf Tryz.prog 23 = some ⟨.slice 63, 1, 24, [.nil], false⟩ := by kernel_rfl
theorem ti24 : tiOf Tryz.prog 24 = some ⟨.struct [(0, 1, false), (1, 1, false)], 2, 32, [.v (.int .i64 0), .nil], true⟩ := by kernel_rfl
theorem ti25 : tiOf Tryz.prog 25 = some ⟨.struct [(0, 1, false), (1, 1, false)], 2, 32, [.v (.int .i64 0), .nil], true⟩ := by kernel_rfl
theorem ti27 : tiOf Tryz.prog 27 = some ⟨.struct [(0, 1, false), (1, 1, false)], 2, 16, [.v (.int .i64 0), .v (.int .i64 0)], true⟩ := by kernel_rfl
theorem ti28 : tiOf Tryz.prog 28 = some ⟨.struct [(0, 1, false), (1, 1, false)], 2, 16, [.v (.int .i64 0), .v (.int .i64 0)], true⟩ := by kernel_rfl
theorem ti30 : tiOf Tryz.prog 30 = some ⟨.slice 3, 1, 24, [.nil], false⟩ := by kernel_rfl
theorem ti31 : tiOf Tryz.prog 31 = some ⟨.struct [(0, 1, false), (1, 1, false)], 2, 32, [.v (.int .i64 0), .nil], true⟩ := by kernel_rfl
theorem ti32 : tiOf Tryz.prog 32 = some ⟨.struct [(0, 1, false), (1, 1, false)], 2, 32, [.v (.int .i64 0), .nil], true⟩ := by kernel_rfl
theorem ti33 : tiOf Tryz.prog 33 = some ⟨.struct [(0, 2, true), (2, 1, false), (3, 1, false), (4, 1, false), (5, 1, false), (6, 2, true)], 8, 112, [.v (.int .i64 0), .v (.int .i64 0), .v (.int .i64 0), .v (.bool false), .nil, .nil, .v (.int .i64 0), .nil], true⟩ := by kernel_rfl
theorem ti34 : tiOf Tryz.prog 34 = some ⟨.struct [(0, 2, true), (2, 1, false), (3, 1, false), (4, 1, false), (5, 1, false), (6, 2, true)], 8, 112, [.v (.int .i64 0), .v (.int .i64 0), .v (.int .i64 0), .v (.bool false), .nil, .nil, .v (.int .i64 0), .nil], true⟩ := by kernel_rfl
theorem ti37 : tiOf Tryz.prog 37 = some ⟨.slice 97, 1, 24, [.nil], false⟩ := by kernel_rfl
theorem ti38 : tiOf Tryz.prog 38 = some ⟨.struct [(0, 1, false), (1, 1, false), (2, 1, false)], 3, 56, [.v (.int .i64 0), .nil, .nil], true⟩ := by kernel_rfl
theorem ti39 : tiOf Tryz.prog 39 = some ⟨.struct [(0, 1, false), (1, 1, false), (2, 1, false)], 3, 56, [.v (.int .i64 0), .nil, .nil], true⟩ := by kernel_rfl
theorem ti43 : tiOf Tryz.prog 43 = some ⟨.struct [(0, 2, true), (2, 1, false), (3, 1, false), (4, 1, false), (5, 2, true), (7, 3, true)], 10, 144, [.v (.int .i64 0), .v (.int .i64 0), .v (.int .i64 0), .v (.bool false), .nil, .v (.int .i64 0), .nil, .v (.int .i64 0), .nil, .nil], true⟩ := by kernel_rfl
theorem ti44 : tiOf Tryz.prog 44 = some ⟨.struct [(0, 2, true), (2, 1, false), (3, 1, false), (4, 1, false), (5, 2, true), (7, 3, true)], 10, 144, [.v (.int .i64 0), .v (.int .i64 0), .v (.int .i64 0), .v (.bool false), .nil, .v (.int .i64 0), .nil, .v (.int .i64 0), .nil, .nil], true⟩ := by kernel_rfl
theorem ti55 : tiOf Tryz.prog 55 = some ⟨.struct [(0, 1, false), (1, 1, false), (2, 1, false)], 3, 40, [.nil, .v (.int .i64 0), .v (.int .i64 0)], true⟩ := by kernel_rfl
theorem ti56 : tiOf Tryz.prog 56 = some ⟨.struct [(0, 1, false), (1, 1, false), (2, 1, false)], 3, 40, [.nil, .v (.int .i64 0), .v (.int .i64 0)], true⟩ := by kernel_rfl
theorem ti62 : tiOf Tryz.prog 62 = some ⟨.struct [(0, 1, false), (1, 1, false), (2, 1, false)], 3, 24, [.v (.int .i64 0), .v (.int .i64 0), .v (.int .i64 0)], true⟩ := by kernel_rfl
theorem ti63 : tiOf Tryz.prog 63 = some ⟨.struct [(0, 1, false), (1, 1, false), (2, 1, false)], 3, 24, [.v (.int .i64 0), .v (.int .i64 0), .v (.int .i64 0)], true⟩ := by kernel_rfl
theorem ti81 : tiOf Tryz.prog 81 = some ⟨.struct [(0, 1, false), (1, 1, false), (2, 1, false)], 3, 24, [.v (.int .i64 0), .v (.int .i64 0), .v (.int .i64 0)], true⟩ := by kernel_rfl
theorem ti82 : tiOf Tryz.prog 82 = some ⟨.struct [(0, 1, false), (1, 1, false), (2, 1, false)], 3, 24, [.v (.int .i64 0), .v (.int .i64 0), .v (.int .i64 0)], true⟩ := by kernel_rfl
theorem ti89 : tiOf Tryz.prog 89 = some ⟨.slice 92, 1, 24, [.nil], false⟩ := by kernel_rfl
theorem ti91 : tiOf Tryz.prog 91 = some ⟨.struct [(0, 1, false), (1, 1, false), (2, 1, false)], 3, 24, [.v (.int .i64 0), .v (.int .i64 0), .v (.int .i64 0)], true⟩ := by kernel_rfl
theorem ti92 : tiOf Tryz.prog 92 = some ⟨.struct [(0, 1, false), (1, 1, false), (2, 1, false)], 3, 24, [.v (.int .i64 0), .v (.int .i64 0), .v (.int .i64 0)], true⟩ := by kernel_rfl
theorem ti95 : tiOf Tryz.prog 95 = some ⟨.slice 101, 1, 24, [.nil], false⟩ := by kernel_rfl
theorem ti96 : tiOf Tryz.prog 96 = some ⟨.struct [(0, 1, false), (1, 1, false), (2, 1, false)], 3, 40, [.v (.int .i64 0), .v (.int .i64 0), .nil], true⟩ := by kernel_rfl
theorem ti97 : tiOf Tryz.prog 97 = some ⟨.struct [(0, 1, false), (1, 1, false), (2, 1, false)], 3, 40, [.v (.int .i64 0), .v (.int .i64 0), .nil], true⟩ := by kernel_rfl
theorem ti100 : tiOf Tryz.prog 100 = some ⟨.struct [(0, 1, false), (1, 1, false), (2, 1, false), (3, 1, false), (4, 1, false)], 5, 40, [.v (.int .i64 0), .v (.int .i64 0), .v (.int .i64 0), .v (.int .i64 0), .v (.int .i64 0)], true⟩ := by kernel_rfl
theorem ti101 : tiOf Tryz.prog 101 = some ⟨.struct [(0, 1, false), (1, 1, false), (2, 1, false), (3, 1, false), (4, 1, false)], 5, 40, [.v (.int .i64 0), .v (.int .i64 0), .v (.int .i64 0), .v (.int .i64 0), .v (.int .i64 0)], true⟩ := by kernel_rfl
theorem ti114 : tiOf Tryz.prog 114 = some ⟨.slice 133, 1, 24, [.nil], false⟩ := by kernel_rfl
theorem ti115 : tiOf Tryz.prog 115 = some ⟨.struct [(0, 1, false), (1, 1, false), (2, 1, false), (3, 1, false), (4, 1, false)], 5, 56, [.v (.int .i64 0), .v (.int .i64 0), .v (.int .i64 0), .nil, .v (.int .i64 0)], true⟩ := by kernel_rfl
theorem ti116 : tiOf Tryz.prog 116 = some ⟨.struct [(0, 1, false), (1, 1, false), (2, 1, false), (3, 1, false), (4, 1, false)], 5, 56, [.v (.int .i64 0), .v (.int .i64 0), .v (.int .i64 0), .nil, .v (.int .i64 0)], true⟩ := by kernel_rfl
theorem ti124 : tiOf Tryz.prog 124 = some ⟨.slice 147, 1, 24, [.nil], false⟩ := by kernel_rfl
theorem ti126 : tiOf Tryz.prog 126 = some ⟨.int .u64, 1, 8, [.v (.int .u64 0)], false⟩ := by kernel_rfl
theorem ti128 : tiOf Tryz.prog 128 = some ⟨.slice 4, 1, 24, [.nil], false⟩ := by kernel_rfl
theorem ti132 : tiOf Tryz.prog 132 = some ⟨.struct [(0, 1, false), (1, 1, false), (2, 5, true)], 7, 56, [.v (.int .i64 0), .v (.int .i64 0), .v (.int .i64 0), .v (.int .i64 0), .v (.int .i64 0), .v (.int .i64 0), .v (.int .i64 0)], true⟩ := by kernel_rfl
theorem ti133 : tiOf Tryz.prog 133 = some ⟨.struct [(0, 1, false), (1, 1, false), (2, 5, true)], 7, 56, [.v (.int .i64 0), .v (.int .i64 0), .v (.int .i64 0), .v (.int .i64 0), .v (.int .i64 0), .v (.int .i64 0), .v (.int .i64 0)], true⟩ := by kernel_rfl
theorem ti137 : tiOf Tryz.prog 137 = some ⟨.slice 162, 1, 24, [.nil], false⟩ := by kernel_rfl
theorem ti146 : tiOf Tryz.prog 146 = some ⟨.struct [(0, 1, false)], 1, 24, [.nil], true⟩ := by kernel_rfl
theorem ti147 : tiOf Tryz.prog 147 = some ⟨.struct [(0, 1, false)], 1, 24, [.nil], true⟩ := by kernel_rfl
theorem ti151 : tiOf Tryz.prog 151 = some ⟨.int .u64, 1, 8, [.v (.int .u64 0)], false⟩ := by kernel_rfl
theorem ti161 : tiOf Tryz.prog 161 = some ⟨.struct [(0, 1, false), (1, 1, false), (2, 1, false), (3, 1, false)], 4, 24, [.v (.bool false), .v (.bool false), .v (.int .i64 0), .v (.int .i64 0)], true⟩ := by kernel_rfl
theorem ti162 : tiOf Tryz.prog 162 = some ⟨.struct [(0, 1, false), (1, 1, false), (2, 1, false), (3, 1, false)], 4, 24, [.v (.bool false), .v (.bool false), .v (.int .i64 0), .v (.int .i64 0)], true⟩ := by kernel_rfl
theorem ti167 : tiOf Tryz.prog 167 = some ⟨.struct [(0, 1, false)], 1, 8, [.v (.pointer none)], true⟩ := by kernel_rfl
theorem ti168 : tiOf Tryz.prog 168 = some ⟨.struct [(0, 1, false)], 1, 8, [.v (.pointer none)], true⟩ := by kernel_rfl
theorem ti171 : tiOf Tryz.prog 171 = some ⟨.int .u32, 1, 4, [.v (.int .u32 0)], false⟩ := by kernel_rfl
theorem ti173 : tiOf Tryz.prog 173 = some ⟨.int .u64, 1, 8, [.v (.int .u64 0)], false⟩ := by kernel_rfl
theorem ti175 : tiOf Tryz.prog 175 = some ⟨.int .i64, 1, 8, [.v (.int .i64 0)], false⟩ := by kernel_rfl
theorem ti184 : tiOf Tryz.prog 184 = some ⟨.int .u64, 1, 8, [.v (.int .u64 0)], false⟩ := by kernel_rfl
theorem ti193 : tiOf Tryz.prog 193 = some ⟨.struct [(0, 1, false), (1, 1, false), (2, 1, false), (3, 1, false)], 4, 40, [.v (.pointer none), .v (.pointer none), .v (.pointer none), .v (.string ⟨#[]⟩)], true⟩ := by kernel_rfl
theorem ti194 : tiOf Tryz.prog 194 = some ⟨.struct [(0, 1, false), (1, 1, false), (2, 1, false), (3, 1, false)], 4, 40, [.v (.pointer none), .v (.pointer none), .v (.pointer none), .v (.string ⟨#[]⟩)], true⟩ := by kernel_rfl
theorem ti198 : tiOf Tryz.prog 198 = some ⟨.int .u8, 1, 1, [.v (.int .u8 0)], false⟩ := by kernel_rfl
theorem ti199 : tiOf Tryz.prog 199 = some ⟨.int .u8, 1, 1, [.v (.int .u8 0)], false⟩ := by kernel_rfl
theorem ti202 : tiOf Tryz.prog 202 = some ⟨.int .i32, 1, 4, [.v (.int .i32 0)], false⟩ := by kernel_rfl
theorem ti203 : tiOf Tryz.prog 203 = some ⟨.int .i32, 1, 4, [.v (.int .i32 0)], false⟩ := by kernel_rfl
theorem ti206 : tiOf Tryz.prog 206 = some ⟨.struct [(0, 1, false), (1, 1, false)], 2, 24, [.v (.string ⟨#[]⟩), .v (.int .u8 0)], true⟩ := by kernel_rfl
theorem ti207 : tiOf Tryz.prog 207 = some ⟨.struct [(0, 1, false), (1, 1, false)], 2, 24, [.v (.string ⟨#[]⟩), .v (.int .u8 0)], true⟩ := by kernel_rfl
theorem tn97 : nzT Tryz.prog 97 = some [.v (.int .i64 0), .v (.int .i64 0), .sl 101 5 []] := by kernel_rfl
theorem tn147 : nzT Tryz.prog 147 = some [.sl 92 3 []] := by kernel_rfl

def tiAll :=
  (And.intro (And.intro (And.intro (And.intro (And.intro (And.intro ti2 ti3)
  (And.intro ti4 ti5))
  (And.intro (And.intro ti6 ti7)
  (And.intro ti8 (And.intro ti9 ti10))))
  (And.intro (And.intro (And.intro ti11 ti12)
  (And.intro ti13 (And.intro ti14 ti18)))
  (And.intro (And.intro ti19 ti21)
  (And.intro ti22 (And.intro ti23 ti24)))))
  (And.intro (And.intro (And.intro (And.intro ti25 ti27)
  (And.intro ti28 ti30))
  (And.intro (And.intro ti31 ti32)
  (And.intro ti33 (And.intro ti34 ti37))))
  (And.intro (And.intro (And.intro ti38 ti39)
  (And.intro ti43 (And.intro ti44 ti55)))
  (And.intro (And.intro ti56 ti62)
  (And.intro ti63 (And.intro ti81 ti82))))))
  (And.intro (And.intro (And.intro (And.intro (And.intro ti89 ti91)
  (And.intro ti92 ti95))
  (And.intro (And.intro ti96 ti97)
  (And.intro ti100 (And.intro ti101 ti114))))
  (And.intro (And.intro (And.intro ti115 ti116)
  (And.intro ti124 (And.intro ti126 ti128)))
  (And.intro (And.intro ti132 ti133)
  (And.intro ti137 (And.intro ti146 ti147)))))
  (And.intro (And.intro (And.intro (And.intro ti151 ti161)
  (And.intro ti162 ti167))
  (And.intro (And.intro ti168 ti171)
  (And.intro ti173 (And.intro ti175 ti184))))
  (And.intro (And.intro (And.intro ti193 ti194)
  (And.intro ti198 (And.intro ti199 ti202)))
  (And.intro (And.intro ti203 ti206)
  (And.intro ti207 (And.intro tn97 tn147)))))))

end Go.Proofs.YtfnhchcgieeedaaGreat


namespace Go.Proofs.YtfnhchcgieeedaaGreat
set_option linter.unusedSimpArgs false
set_option linter.unusedVariables false
set_option linter.unusedSimpArgs false
set_option linter.unusedVariables false
set_option linter.defProp false
open Go.RowKit

theorem mixed : Tryz.prog.follows .mixedOrders = true := by kernel_rfl

theorem u8_le (x : UInt8) : (x.toNat : Int) ≤ 9223372036854775807 := by have := x.toNat_lt; omega

theorem ex_p {p : Prop} {q : p → Prop} (h : p) (k : ∀ h, q h) : ∃ h, q h := ⟨h, k h⟩

def intK (x : Int) : List DC := [.v (.int .i64 x)]

theorem flat_map {α : Type} {k : α → List DC} (h : ∀ x, ∀ c ∈ k x, DC.flat c) (l : List α) : ∀ e ∈ l.map k, ∀ c ∈ e, DC.flat c := by
  intro e he c hc
  obtain ⟨x, _, rfl⟩ := List.mem_map.1 he
  exact h x c hc
theorem flat_intK (l : List Int) : ∀ e ∈ l.map intK, ∀ c ∈ e, DC.flat c := flat_map (fun x c hc => by simp [intK] at hc; subst hc; exact ⟨_, rfl, rfl⟩) l
theorem flat_bytK (l : List UInt8) : ∀ e ∈ l.map bytK, ∀ c ∈ e, DC.flat c := flat_map (fun x c hc => by simp [bytK] at hc; subst hc; exact ⟨_, rfl, rfl⟩) l

section
variable {α : Type}
/-- the first k elements are set anew -/
def setTo (g : Nat → List DC) (f : α → List DC) (l : List α) (k : Nat) : List (List DC) := (List.range k).map g ++ (l.drop k).map f
theorem setTo_len (g : Nat → List DC) (f : α → List DC) (l : List α) (k : Nat) (h : k ≤ l.length) : (setTo g f l k).length = l.length := by simp [setTo]; omega
theorem setTo_get (g : Nat → List DC) (f : α → List DC) (l : List α) (k : Nat) (h : k < l.length) (h' : k < (setTo g f l k).length) : (setTo g f l k)[k] = f l[k] := by
  have : (setTo g f l k)[k]? = some (f l[k]) := by
    unfold setTo
    rw [List.getElem?_append_right (by simp)]
    simp [h]
  rw [List.getElem?_eq_getElem h'] at this
  exact Option.some.inj this
theorem setTo_set (g : Nat → List DC) (f : α → List DC) (l : List α) (k : Nat) (h : k < l.length) : (setTo g f l k).set k (g k) = setTo g f l (k + 1) := by
  unfold setTo
  have hl : ((List.range k).map g).length = k := by simp
  rw [List.set_append_right _ _ (by rw [hl]; exact Nat.le_refl _), hl, Nat.sub_self, List.drop_eq_getElem_cons h, List.map_cons, List.set_cons_zero, List.range_succ, List.map_append, List.append_assoc]
  rfl
theorem setTo_zero (g : Nat → List DC) (f : α → List DC) (l : List α) : setTo g f l 0 = l.map f := by simp [setTo]
theorem setTo_end (g : Nat → List DC) (f : α → List DC) (l : List α) : setTo g f l l.length = (List.range l.length).map g := by simp [setTo]
theorem map_take (f : α → List DC) (l : List α) : (l.map f).take l.length = l.map f := List.take_of_length_le (by simp)
end

end Go.Proofs.YtfnhchcgieeedaaGreat


namespace Go.Proofs.YtfnhchcgieeedaaGreat
set_option linter.unusedSimpArgs false
set_option linter.unusedVariables false
set_option linter.unusedSimpArgs false
set_option linter.unusedVariables false
set_option linter.defProp false
open Go.RowKit

structure EdgeD where
  From : Int
  To : Int
  W : Int
deriving DecidableEq

def EdgeD.k (x : EdgeD) : List DC := [.v (.int .i64 x.From), .v (.int .i64 x.To), .v (.int .i64 x.W)]
def EdgeD.s (x : EdgeD) : List CV := [.v (.int .i64 x.From), .v (.int .i64 x.To), .v (.int .i64 x.W)]
theorem flat_Edge (l : List EdgeD) : ∀ e ∈ l.map EdgeD.k, ∀ c ∈ e, DC.flat c := flat_map (fun x c hc => by simp only [EdgeD.k, List.mem_cons, List.not_mem_nil, or_false] at hc; rcases hc with rfl | rfl | rfl <;> exact ⟨_, rfl, rfl⟩) l
/-- marked cells -/
def EdgeD.q (q : Nat) : List DC := [.v (.int .i64 ((q : Int))), .v (.int .i64 ((q : Int) + 1)), .v (.int .i64 ((q : Int) + 1 + 1))]
def EdgeD.g (k i : Nat) : List DC := EdgeD.q (k + 3 * i)

end Go.Proofs.YtfnhchcgieeedaaGreat

namespace Go.Proofs.YtfnhchcgieeedaaGreat
set_option linter.unusedSimpArgs false
set_option linter.unusedVariables false
set_option linter.defProp false
open Go.RowKit

structure GraphD where
  N : Int
  Edges : List EdgeD
deriving DecidableEq

end Go.Proofs.YtfnhchcgieeedaaGreat

namespace Go.Proofs.YtfnhchcgieeedaaGreat
set_option linter.unusedSimpArgs false
set_option linter.unusedVariables false
set_option linter.defProp false
open Go.RowKit

structure JobD where
  Prog : Int
  Src : Int
deriving DecidableEq

def JobD.k (x : JobD) : List DC := [.v (.int .i64 x.Prog), .v (.int .i64 x.Src)]
def JobD.s (x : JobD) : List CV := [.v (.int .i64 x.Prog), .v (.int .i64 x.Src)]
theorem flat_Job (l : List JobD) : ∀ e ∈ l.map JobD.k, ∀ c ∈ e, DC.flat c := flat_map (fun x c hc => by simp only [JobD.k, List.mem_cons, List.not_mem_nil, or_false] at hc; rcases hc with rfl | rfl <;> exact ⟨_, rfl, rfl⟩) l
/-- marked cells -/
def JobD.q (q : Nat) : List DC := [.v (.int .i64 ((q : Int))), .v (.int .i64 ((q : Int) + 1))]
def JobD.g (k i : Nat) : List DC := JobD.q (k + 2 * i)

structure CommitD where
  Epoch : Int
  Graph : Int
  GSum : Int
  Has : Bool
  VSum : Int
deriving DecidableEq

def CommitD.k (x : CommitD) : List DC := [.v (.int .i64 x.Epoch), .v (.int .i64 x.Graph), .v (.int .i64 x.GSum), .v (.bool x.Has), .v (.int .i64 x.VSum)]
def CommitD.s (x : CommitD) : List CV := [.v (.int .i64 x.Epoch), .v (.int .i64 x.Graph), .v (.int .i64 x.GSum), .v (.bool x.Has), .v (.int .i64 x.VSum)]
theorem flat_Commit (l : List CommitD) : ∀ e ∈ l.map CommitD.k, ∀ c ∈ e, DC.flat c := flat_map (fun x c hc => by simp only [CommitD.k, List.mem_cons, List.not_mem_nil, or_false] at hc; rcases hc with rfl | rfl | rfl | rfl | rfl <;> exact ⟨_, rfl, rfl⟩) l
/-- marked cells -/
def CommitD.q (q : Nat) : List DC := [.v (.int .i64 ((q : Int))), .v (.int .i64 ((q : Int) + 1)), .v (.int .i64 ((q : Int) + 1 + 1)), .v (.bool (((q : Int) + 1 + 1 + 1) % 3 == 0)), .v (.int .i64 ((q : Int) + 1 + 1 + 1 + 1))]
def CommitD.g (k i : Nat) : List DC := CommitD.q (k + 5 * i)

end Go.Proofs.YtfnhchcgieeedaaGreat

namespace Go.Proofs.YtfnhchcgieeedaaGreat
set_option linter.unusedSimpArgs false
set_option linter.unusedVariables false
set_option linter.defProp false
open Go.RowKit

structure SetD where
  N : Int
  Bits : List UInt8
deriving DecidableEq

structure RunD where
  Job : JobD
  Iter : Int
  Done : Bool
  Vals : List Int
  EVals : List Int
  Next : SetD
deriving DecidableEq

structure ValuesD where
  Job : JobD
  Iter : Int
  Vals : List Int
  EVals : List Int
  Next : SetD
deriving DecidableEq

end Go.Proofs.YtfnhchcgieeedaaGreat

namespace Go.Proofs.YtfnhchcgieeedaaGreat
set_option linter.unusedSimpArgs false
set_option linter.unusedVariables false
set_option linter.defProp false
open Go.RowKit

structure ViewD where
  In : Bool
  Out : Bool
  W : Int
  Val : Int
deriving DecidableEq

def ViewD.k (x : ViewD) : List DC := [.v (.bool x.In), .v (.bool x.Out), .v (.int .i64 x.W), .v (.int .i64 x.Val)]
def ViewD.s (x : ViewD) : List CV := [.v (.bool x.In), .v (.bool x.Out), .v (.int .i64 x.W), .v (.int .i64 x.Val)]
theorem flat_View (l : List ViewD) : ∀ e ∈ l.map ViewD.k, ∀ c ∈ e, DC.flat c := flat_map (fun x c hc => by simp only [ViewD.k, List.mem_cons, List.not_mem_nil, or_false] at hc; rcases hc with rfl | rfl | rfl | rfl <;> exact ⟨_, rfl, rfl⟩) l
/-- marked cells -/
def ViewD.q (q : Nat) : List DC := [.v (.bool (((q : Int)) % 3 == 0)), .v (.bool (((q : Int) + 1) % 3 == 0)), .v (.int .i64 ((q : Int) + 1 + 1)), .v (.int .i64 ((q : Int) + 1 + 1 + 1))]
def ViewD.g (k i : Nat) : List DC := ViewD.q (k + 4 * i)

end Go.Proofs.YtfnhchcgieeedaaGreat


namespace Go.Proofs.YtfnhchcgieeedaaGreat
set_option linter.unusedSimpArgs false
set_option linter.unusedVariables false
set_option linter.unusedSimpArgs false
set_option linter.unusedVariables false
set_option linter.defProp false
open Go.RowKit

end Go.Proofs.YtfnhchcgieeedaaGreat


namespace Go.Proofs.YtfnhchcgieeedaaGreat
set_option linter.unusedSimpArgs false
set_option linter.unusedVariables false
set_option linter.unusedSimpArgs false
set_option linter.unusedVariables false
set_option linter.defProp false
open Go.RowKit

/-- What has become of a world behind a call that changes the blocks S alone. -/
structure CPost (S : List Nat) (φ' : World → Prop) (w w' : World) : Prop where
  fact : φ' w'
  os : w'.os = w.os
  tape : w'.tape = w.tape
  output : w'.output = w.output
  size : w.heap.size ≤ w'.heap.size
  block : ∀ k, k < w.heap.size → k ∉ S → w'.heap[k]? = w.heap[k]?

/-- A function value called at these arguments turns the one fact into the other and answers so. -/
def CloS (P : Program) (fv : Value) (S : List Nat) (φ φ' : World → Prop) (xs : Array Value) (r : Value) : Prop :=
  ∃ g lb, fv = .func (.func g) #[] lb ∧ ∀ w : World, (∀ b ∈ S, b < w.heap.size) → φ w →
    (∃ w', (callFunc g (xs ++ lb)).run P w = .ok (.value r) w' ∧ CPost S φ' w w') ∨
    ((callFunc g (xs ++ lb)).run P w = .ok (.enter g (xs ++ lb)) w ∧ Calls P g (xs ++ lb) w fun e w' => e = .returned r ∧ CPost S φ' w w')

section
variable {P : Program} {dd : Option Tmp} {t : Tmp} {a1 a2 : Operand} {ts : Array TypeId} {tt : TypeId} {pos : String} {af : Array Edge} {gu : Option (Nat × Bool)} {ev : Operand → SV} {H : Heap} {nx : Nat} {KS : Eff → Prop}

theorem clo_k {fv : Value} {S : List Nat} {φ φ' : World → Prop} {x y r : Value} {r' : SV} {f : Nat} (hv : CloS P fv S φ φ' #[x, y] r) (hst : ∀ w w', φ' w → (∀ b ∈ S, w'.heap[b]? = w.heap[b]?) → φ' w') (hr : ∀ V ρ, SVr V ρ r' r)
    (hev : ev (.tmp t) = .c (.v fv)) (h1 : ev a1 = .c (.v x)) (h2 : ev a2 = .c (.v y)) (hH : hget H f = some (.gh S φ)) (hf : f < nx) (h : KS ⟨r', [f], [(f, some (.gh S φ'))], nx⟩) :
    oneK P ⟨dd, .call ⟨.value (.tmp t), #[a1, a2], ts⟩, tt, pos, af, gu⟩ ev H nx KS := by
  refine ⟨_, ⟨Nat.le_refl _, fun k hk => ?_, fun k b hk => ?_, by simp⟩, ?_, h⟩
  · simp only [List.mem_singleton] at hk; subst hk; exact ⟨_, hH⟩
  · simp only [List.mem_singleton, Prod.mk.injEq] at hk
    obtain ⟨rfl, rfl⟩ := hk
    exact ⟨hf, fun _ => ⟨by simp, _, hH, rfl⟩⟩
  intro V ρ a w K Q hV hm0 hm hK
  obtain ⟨hVf, ⟨hS, hφ, _⟩, hsz⟩ := hm.dom f _ (looked_get (by simp) hH)
  obtain ⟨g, lb, rfl, hc⟩ := hv
  have e1 : a.eval a1 = x := by have := hm0 a1; rw [h1] at this; exact this.1
  have e2 : a.eval a2 = y := by have := hm0 a2; rw [h2] at this; exact this.1
  have e3 : a.eval (.tmp t) = .func (.func g) #[] lb := by have := hm0 (.tmp t); rw [hev] at this; exact this.1
  have hexec : (execOp a.eval ⟨dd, .call ⟨.value (.tmp t), #[a1, a2], ts⟩, tt, pos, af, gu⟩).run P w = (callFunc g (#[x, y] ++ lb)).run P w := by
    unfold execOp
    simp only [resolve, e3, Deferred.ofValue, Sem.run_bind, Sem.run_pure, Result.andThen_ok, invoke]
    simp [e1, e2]
  have fin : ∀ w', CPost S φ' w w' → Done V ρ H nx w ⟨r', [f], [(f, some (.gh S φ'))], nx⟩ r ρ w' := fun w' hp => by
    have hw : ∀ k blk, hget [(f, some (Blk.gh S φ'))] k = some blk → k = f ∧ blk = .gh S φ' := fun k blk hb => by
      simp only [hget] at hb
      split at hb
      · rename_i e; exact ⟨e, (Option.some.inj hb).symm⟩
      · cases hb
    refine ⟨same_of fun _ _ => rfl, hr _ _, ⟨fun k blk hb => ?_, fun k k' blk blk' hkk hb hb' => ?_⟩, fun k blk hb b hF => ?_, hp.os, hp.tape, hp.output, hp.size, fun k hk hx => ?_⟩
    · obtain ⟨rfl, rfl⟩ := hw k blk hb
      exact ⟨.inl hVf, ⟨hS, hp.fact, fun w'' hw'' => hst w' w'' hp.fact hw''⟩, fun b hF => Nat.lt_of_lt_of_le (hsz b hF) hp.size⟩
    · exact absurd ((hw k blk hb).1.trans (hw k' blk' hb').1.symm) hkk
    · obtain ⟨rfl, rfl⟩ := hw k blk hb
      exact .inr (.inl ⟨k, some (.gh S φ'), by simp, hf, _, hH, hF⟩)
    · exact hp.block k hk fun hkS => hx f (some (.gh S φ')) (by simp) hf ⟨_, hH, hS k hkS⟩
  unfold Oper.wp
  rw [hexec]
  rcases hc w (fun b hb => hsz b (hS b hb)) hφ with ⟨w', hrun, hp⟩ | ⟨hrun, hcalls⟩
  · rw [hrun]
    exact hK r ρ w' (fin w' hp)
  · rw [hrun, Oper.upon_enter]
    refine hcalls.mono fun e w' he => ?_
    obtain ⟨rfl, hp⟩ := he
    exact hK r ρ w' (fin w' hp)
end

/-- A comparison and a swap over rows of n elements. -/
structure SrtC (P : Program) {α : Type} [Inhabited α] (lt : α → α → Bool) (S : List Nat) (Φ : Array α → World → Prop) (LF SF : Value) (n : Nat) : Prop where
  one1 : LF.oneCell' = true
  one2 : SF.oneCell' = true
  st : ∀ d w w', Φ d w → (∀ b ∈ S, w'.heap[b]? = w.heap[b]?) → Φ d w'
  less : ∀ d : Array α, d.size = n → ∀ i j : Nat, i < n → j < n → CloS P LF S (Φ d) (Φ d) #[.int .i64 i, .int .i64 j] (.bool (lt d[i]! d[j]!))
  swap : ∀ d : Array α, d.size = n → ∀ i j : Nat, i < n → j < n → CloS P SF S (Φ d) (Φ (Go.Sort.swp d i j)) #[.int .i64 i, .int .i64 j] (.tuple #[])

section
variable {P : Program} {α : Type} [Inhabited α] {lt : α → α → Bool} {S : List Nat} {Φ : Array α → World → Prop} {LF SF : Value} {n : Nat}
variable {dd : Option Tmp} {t : Tmp} {a1 a2 : Operand} {ts : Array TypeId} {tt : TypeId} {pos : String} {af : Array Edge} {gu : Option (Nat × Bool)} {ev : Operand → SV} {H : Heap} {nx : Nat} {KS : Eff → Prop}

theorem less_k (hC : SrtC P lt S Φ LF SF n) {d : Array α} {i j f : Nat} {x y : Int} (hd : d.size = n) (hi : i < n) (hj : j < n) (ei : x = (i : Int)) (ej : y = (j : Int)) (hev : ev (.tmp t) = .c (.v LF)) (h1 : ev a1 = .c (.v (.int .i64 x))) (h2 : ev a2 = .c (.v (.int .i64 y)))
    (hH : hget H f = some (.gh S (Φ d))) (hf : f < nx) (h : KS ⟨.c (.v (.bool (lt d[i]! d[j]!))), [f], [(f, some (.gh S (Φ d)))], nx⟩) : oneK P ⟨dd, .call ⟨.value (.tmp t), #[a1, a2], ts⟩, tt, pos, af, gu⟩ ev H nx KS := by
  subst ei ej
  exact clo_k (r' := .c (.v (.bool (lt d[i]! d[j]!)))) (hC.less d hd i j hi hj) (hC.st d) (fun _ _ => ⟨rfl, rfl⟩) hev h1 h2 hH hf h
theorem swap_k (hC : SrtC P lt S Φ LF SF n) {d : Array α} {i j f : Nat} {x y : Int} (hd : d.size = n) (hi : i < n) (hj : j < n) (ei : x = (i : Int)) (ej : y = (j : Int)) (hev : ev (.tmp t) = .c (.v SF)) (h1 : ev a1 = .c (.v (.int .i64 x))) (h2 : ev a2 = .c (.v (.int .i64 y)))
    (hH : hget H f = some (.gh S (Φ d))) (hf : f < nx) (h : KS ⟨.tup [], [f], [(f, some (.gh S (Φ (Go.Sort.swp d i j))))], nx⟩) : oneK P ⟨dd, .call ⟨.value (.tmp t), #[a1, a2], ts⟩, tt, pos, af, gu⟩ ev H nx KS := by
  subst ei ej
  exact clo_k (r' := .tup []) (hC.swap d hd i j hi hj) (hC.st _) (fun _ _ => ⟨[], rfl, trivial⟩) hev h1 h2 hH hf h
end

end Go.Proofs.YtfnhchcgieeedaaGreat


namespace Go.Proofs.YtfnhchcgieeedaaGreat
set_option linter.unusedSimpArgs false
set_option linter.unusedVariables false
set_option linter.unusedSimpArgs false
set_option linter.unusedVariables false
set_option linter.defProp false
open Go.Shelf Go.RowKit Go.Lib

section
variable {k : Nat} {p : List DC → Prop} [Inhabited (El k p)]

/-- Block b holds the row d, block Bs is as it was. -/
def RowF (T b Bs N : Nat) (bx : Obj) (d : Array (El k p)) (w : World) : Prop :=
  (∃ cur : Array Value, w.heap[b]? = some (.cells cur T (0, 0)) ∧ cur.size = N ∧ cur.toList.take (d.size * k) = (Sort.flatK El.enc k d).toList) ∧ w.heap[Bs]? = some bx

variable {T b Bs N n : Nat} {bx : Obj} {d d' : Array (El k p)} {w w' : World}

theorem RowF.holds (h : RowF T b Bs N bx d w) : Sort.HoldsK El.enc k w b 0 d := by
  obtain ⟨⟨cur, h1, h2, h3⟩, _⟩ := h
  exact srt_holds h1 (by rw [Sort.size_flatK, h3])

theorem RowF.lt (h : RowF T b Bs N bx d w) : b < w.heap.size ∧ Bs < w.heap.size := by
  obtain ⟨⟨cur, h1, h2, h3⟩, h4⟩ := h
  refine ⟨?_, ?_⟩
  · by_cases hb : b < w.heap.size
    · exact hb
    · rw [Array.getElem?_eq_none (by omega)] at h1; cases h1
  · by_cases hb : Bs < w.heap.size
    · exact hb
    · rw [Array.getElem?_eq_none (by omega)] at h4; cases h4

theorem RowF.put (h : RowF T b Bs N bx d w) (hne : Bs ≠ b) (hs : d'.size = d.size) (hN : d.size * k ≤ N) (m : Nat) (os : Array Obj) : RowF T b Bs N bx d' (Sort.grow (Sort.putRow id (Sort.ahead w m) b 0 (Sort.flatK El.enc k d')) os) := by
  have hl := h.lt
  obtain ⟨⟨cur, h1, h2, h3⟩, h4⟩ := h
  refine ⟨⟨_, srt_block h1 _ _ _, by rw [putCells_size]; exact h2, ?_⟩, ?_⟩
  · have hs0 : (Sort.flatK (El.enc (k := k) (p := p)) k d').size = d'.size * k := by rw [Sort.size_flatK]
    rw [← hs0, putCells_take _ _ (by rw [hs0, hs, h2]; exact hN)]
  · rw [srt_other hl.2 hne]; exact h4

theorem RowF.keep (h : RowF T b Bs N bx d w) (h1 : ∀ q ∈ [b, Bs], w'.heap[q]? = w.heap[q]?) : RowF T b Bs N bx d w' := by
  unfold RowF
  rw [h1 b (by simp), h1 Bs (by simp)]
  exact h

theorem RowF.post (h : RowF T b Bs N bx d w) (hne : Bs ≠ b) (hs : d'.size = d.size) (hN : d.size * k ≤ N) (m : Nat) (os : Array Obj) : CPost [b, Bs] (RowF T b Bs N bx d') w (Sort.grow (Sort.putRow id (Sort.ahead w m) b 0 (Sort.flatK El.enc k d')) os) := by
  refine ⟨h.put hne hs hN m os, rfl, rfl, rfl, by simp, fun q hq hF => ?_⟩
  exact srt_other hq (fun e => hF (by simp [e])) _ _ _
end

section
variable {P : Program} {t e k : Nat} {p : List DC → Prop} [Inhabited (El k p)] {lt : El k p → El k p → Bool}

theorem swapLit {ie : TypeInfo} {f : Nat} {gS : Bool} (hie : P.info? e = some ie) (hs1 : ie.size = k) (hx : ∀ args W, (callFunc f args).run P W = ((Extern.ReflectliteSwapper.swap gS args).run P W).andThen fun v w' => .ok (.value v) w') (hagg : ∀ w, (isAgg e).run P w = .ok true w) (b n c : Nat) :
    SwapSwapsK P f #[.slice (some ⟨b, 0, none⟩) n c, typeHandle P e] (El.enc (k := k) (p := p)) k b 0 n :=
  swapSwapsK_of_literal gS f hx e ie hie El.enc k El.enc_len hs1 hagg El.enc_one b 0 n c

theorem srtC_of {g f T b Bs N n : Nat} {lb sb : Array Value} {bx : Obj} (hsw : SwapSwapsK P f sb (El.enc (k := k) (p := p)) k b 0 n) (eg : ∀ args w, (callFunc g args).run P w = .ok (.enter g args) w) (hne : Bs ≠ b) (hN : n * k ≤ N)
    (hcl : ∀ (W : World) (dk : Array (El k p)), dk.size = n → RowF T b Bs N bx dk W → ∀ i j : Nat, i < n → j < n → Calls P g (#[.int .i64 i, .int .i64 j] ++ lb) W fun ex w' => ex = .returned (.bool (lt dk[i]! dk[j]!)) ∧ Below W.heap.size W w') :
    SrtC P lt [b, Bs] (RowF T b Bs N bx) (.func (.func g) #[] lb) (.func (.func f) #[] sb) n where
  one1 := rfl
  one2 := rfl
  st d w w' h h1 := h.keep h1
  less d hd i j hi hj := ⟨g, lb, rfl, fun w hS hφ => .inr ⟨eg _ _, (hcl w d hd hφ i j hi hj).mono fun ex w' he => by
    obtain ⟨rfl, hB⟩ := he
    exact ⟨rfl, ⟨hφ.keep fun q hq => hB.block q (hS q hq), hB.os, hB.tape, hB.output, hB.size, fun q hq _ => hB.block q hq⟩⟩⟩⟩
  swap d hd i j hi hj := ⟨f, sb, rfl, fun w hS hφ => .inl ⟨_, hsw w d hφ.holds hd i j hi hj, by
    have e := Sort.swap_worldK (El.enc (k := k) (p := p)) k El.enc_len w 0 0 b 0 d i j (by omega) (by omega)
    have e1 : (Sort.putRowK (El.enc (k := k) (p := p)) k (Sort.ahead w 0) b 0 d).drewN 0 = w := by
      rw [Sort.putRowK_drewN, Sort.putRowK_self _ _ _ _ _ _ (Sort.holdsK_ahead _ _ _ _ _ _ _ hφ.holds)]
      rfl
    rw [e1] at e
    rw [e]
    have h := hφ.post hne (d' := Sort.swp d i j) (by rw [Sort.size_swp]) (by rw [hd]; exact hN) 0 #[]
    have e2 : Sort.grow (Sort.putRow id (Sort.ahead w 0) b 0 (Sort.flatK (El.enc (k := k) (p := p)) k (Sort.swp d i j))) #[] = Sort.putRowK (El.enc (k := k) (p := p)) k (Sort.ahead w (0 + 0)) b 0 (Sort.swp d i j) := by
      unfold Sort.grow; simp; rfl
    rw [← e2]
    exact h⟩⟩

variable {ρS : Ren}

theorem brk_of (L : LaysGg.n28 P ρS) {fB g f T b Bs N n : Nat} (hfB : ρS.f 28 = fB) (hcal : Callable P fB) {lb sb : Array Value} {bx : Obj} (hsw : SwapSwapsK P f sb (El.enc (k := k) (p := p)) k b 0 n) (hne : Bs ≠ b) (hN : n * k ≤ N) (hn : n ≤ 1099511627) :
    ∀ d : Array (El k p), d.size = n → ∀ a c : Nat, a < c → c ≤ n → FnOK P fB ⟨1, [(0, some (.gh [b, Bs] (RowF T b Bs N bx d)))], [.agg [.v (.func (.func g) #[] lb), .v (.func (.func f) #[] sb)], .c (.v (.int .i64 (a : Int))), .c (.v (.int .i64 (c : Int)))], .tup [], [(0, some (.gh [b, Bs] (RowF T b Bs N bx (Sort.breakPatterns d a c))))], 1⟩ := by
  intro d hd a c hac hc
  have hsz : (Sort.breakPatterns d a c).size = d.size := (Sort.breakPatterns_holds d a c (by omega) (by omega)).1
  refine ⟨⟨⟨Nat.le_refl _, fun f hf => ?_, fun f bl hf => ?_, by simp [Con.eff]⟩, fun ρ vs w hvs hm => ?_⟩, hcal⟩
  · simp only [Con.eff, List.map_cons, List.map_nil, List.mem_singleton] at hf; subst hf; exact ⟨_, rfl⟩
  · simp only [Con.eff, List.mem_singleton, Prod.mk.injEq] at hf
    obtain ⟨rfl, rfl⟩ := hf
    exact ⟨Nat.zero_lt_one, fun _ => ⟨by simp [Con.eff], _, rfl, rfl⟩⟩
  · obtain ⟨hV0, ⟨hF, hφ, hst⟩, hlt⟩ := hm.dom 0 _ rfl
    obtain ⟨v0, v1, v2, rfl⟩ : ∃ v0 v1 v2, vs = [v0, v1, v2] := by
      have hl := hvs.length
      match vs, hl with
      | [v0, v1, v2], _ => exact ⟨v0, v1, v2, rfl⟩
    obtain ⟨⟨us, hu0, hu⟩, ⟨e1, _⟩, ⟨e2, _⟩, _⟩ := hvs
    obtain ⟨u0, u1, rfl⟩ : ∃ u0 u1, us = [u0, u1] := by
      have hl := hu.length
      match us, hl with
      | [v0, v1], _ => exact ⟨v0, v1, rfl⟩
    obtain ⟨⟨e3, _⟩, ⟨e4, _⟩, _⟩ := hu
    subst hu0 e1 e2 e3 e4
    have hc := Any.breakPatterns_func_cells_w L (El.enc (k := k) (p := p)) k El.enc_len (.func g) #[] lb f sb b 0 a c d w (by rw [hd]; exact hsw) hφ.holds hφ.lt.1 (by omega) (by omega) (by omega)
    rw [hfB] at hc
    refine hc.mono fun ex w' he => ?_
    obtain ⟨rfl, m, os, rfl⟩ := he
    have hp := hφ.post hne hsz (by rw [hd]; exact hN) m os
    refine ⟨_, ρ, rfl, ⟨same_of fun _ _ => rfl, ⟨[], rfl, trivial⟩, ⟨fun q blk hb => ?_, fun q q' blk blk' hqq hb hb' => ?_⟩, fun q blk hb x hx => ?_, hp.os, hp.tape, hp.output, hp.size, fun q hq hx => ?_⟩⟩
    · have h0 : q = 0 ∧ blk = .gh [b, Bs] (RowF T b Bs N bx (Sort.breakPatterns d a c)) := by
        simp only [Con.eff, hget] at hb
        split at hb
        · rename_i h; exact ⟨h, (Option.some.inj hb).symm⟩
        · cases hb
      obtain ⟨rfl, rfl⟩ := h0
      exact ⟨.inl hV0, ⟨hF, hp.fact, fun w'' hw => hp.fact.keep hw⟩, fun x hx => Nat.lt_of_lt_of_le (hlt x hx) hp.size⟩
    · simp only [Con.eff, hget] at hb hb'
      split at hb
      · split at hb'
        · rename_i h h'; exact absurd (h.trans h'.symm) hqq
        · cases hb'
      · cases hb
    · have h0 : q = 0 := by
        simp only [Con.eff, hget] at hb
        split at hb
        · assumption
        · cases hb
      subst h0
      exact .inr (.inl ⟨0, _, by simp only [Con.eff]; exact List.mem_singleton.2 rfl, Nat.zero_lt_one, _, rfl, hx⟩)
    · exact hp.block q hq fun hS => hx 0 _ (by simp only [Con.eff]; exact List.mem_singleton.2 rfl) Nat.zero_lt_one ⟨_, rfl, hF q hS⟩
end

end Go.Proofs.YtfnhchcgieeedaaGreat


namespace Go.Proofs.YtfnhchcgieeedaaGreat
set_option linter.unusedSimpArgs false
set_option linter.unusedVariables false
set_option linter.unusedSimpArgs false
set_option linter.unusedVariables false
set_option linter.defProp false
open Go.Shelf Go.RowKit Go.Lib

/-- The contract of the library's sort, over whatever comparison. -/
def PdqC (P : Program) {k : Nat} {p : List DC → Prop} [Inhabited (El k p)] (lt : El k p → El k p → Bool) (fB fP n : Nat) : Prop :=
  ∀ (S : List Nat) (Φ : Array (El k p) → World → Prop) (LF SF : Value), SrtC P lt S Φ LF SF n →
    (∀ d : Array (El k p), d.size = n → ∀ a b : Nat, a < b → b ≤ n → FnOK P fB ⟨1, [(0, some (.gh S (Φ d)))], [.agg [.v LF, .v SF], .c (.v (.int .i64 (a : Int))), .c (.v (.int .i64 (b : Int)))], .tup [], [(0, some (.gh S (Φ (Sort.breakPatterns d a b))))], 1⟩) →
    ∀ d : Array (El k p), d.size = n → ∀ limit : Nat, limit ≤ 1000000 → FnOK P fP ⟨1, [(0, some (.gh S (Φ d)))], [.agg [.v LF, .v SF], .c (.v (.int .i64 0)), .c (.v (.int .i64 (n : Int))), .c (.v (.int .i64 (limit : Int)))], .tup [], [(0, some (.gh S (Φ (Sort.pdq lt d 0 n limit true true))))], 1⟩

section
variable {P : Program} {ρS : Ren} {t e k : Nat} {p : List DC → Prop} [Inhabited (El k p)] {lt : El k p → El k p → Bool}

theorem sort_callsB (L : LaysGg.n6 P ρS) (S : Srt P t e k) (hO : Sort.SWO lt) {g fB fP : Nat} (hfB : ρS.f 28 = fB) (hcB : Callable P fB) (hfP : ρS.f 14 = fP) {lb : Array Value} (eg : ∀ args w, (callFunc g args).run P w = .ok (.enter g args) w) {b Bs N n c T : Nat} {bx : Obj} {w : World} (d : Array (El k p)) (hn : d.size = n) (hm : n ≤ 1099511627)
    (hne : Bs ≠ b) (hN : n * k ≤ N) (hpdq : PdqC P lt fB fP n)
    (hcl : ∀ (W : World) (dk : Array (El k p)), dk.size = n → RowF T b Bs N bx dk W → ∀ i j : Nat, i < n → j < n → Calls P g (#[.int .i64 i, .int .i64 j] ++ lb) W fun ex w' => ex = .returned (.bool (lt dk[i]! dk[j]!)) ∧ Below W.heap.size W w')
    (hR : 0 < n → RowF T b Bs N bx d w) {ad : Option Addr} (had : 0 < n → ad = some ⟨b, 0, none⟩) :
    Calls P (ρS.f 6) #[.iface t (.slice ad n c), .func (.func g) #[] lb] w fun ex w' => ex = .returned (.tuple #[]) ∧ ∃ d' : Array (El k p), (rowOf d').Perm (rowOf d) ∧ Sort.SortedIn lt 0 n d' ∧ d'.size = n ∧ (w'.os = w.os ∧ w'.tape = w.tape ∧ w'.output = w.output ∧ w.heap.size ≤ w'.heap.size) ∧
      (∀ q, q < w.heap.size → q ≠ b → w'.heap[q]? = w.heap[q]?) ∧ (n = 0 → ∀ q, q < w.heap.size → w'.heap[q]? = w.heap[q]?) ∧ (0 < n → RowF T b Bs N bx d' w') := by
  subst hn
  obtain ⟨i, hi, hd⟩ := S.ti
  obtain ⟨ie, ke, f, gS, hie, hke, hs1, hf, hx, hf1⟩ := S.el
  by_cases h2 : 2 ≤ d.size
  · have h0 : 0 < d.size := by omega
    have hR := hR h0
    rw [had h0]
    have hsw := swapLit (p := p) hie hs1 hx S.agg b d.size c
    have hC := srtC_of (lt := lt) (T := T) (N := N) (bx := bx) hsw eg hne hN hcl
    have hK := brk_of (ρS := ρS) { L with } (g := g) (lb := lb) (T := T) (bx := bx) hfB hcB hsw hne hN hm
    have hB : sliceBound P e ie ke (some ⟨b, 0, none⟩) d.size c = #[.slice (some ⟨b, 0, none⟩) d.size c, typeHandle P e] := by
      unfold sliceBound; rw [if_neg (swapperK_gt _ _ _ h2)]
    have hW : sliceWorld P ρS t (some ⟨b, 0, none⟩) d.size c w = Sort.grow w #[.cells #[.slice (some ⟨b, 0, none⟩) d.size c] t, .cells #[.pointer (some ⟨P.globals.size, t, none⟩), .pointer (some ⟨w.heap.size, 0, none⟩), .int .u64 151] (ρS.t 35)] := by
      unfold sliceWorld; rw [Sort.alloc_eq_grow, Sort.alloc_eq_grow, Sort.grow_grow]; rfl
    have hlim : Lib.bitLen d.size ≤ 62 := Lib.bitLen_le d.size 62 (by omega) (by omega)
    have hF := hpdq _ _ _ _ hC hK d rfl (Lib.bitLen d.size) (by omega)
    refine (Any.sort_Slice_of_pdq L t e i ie hi hd S.pk hie ke hke (some ⟨b, 0, none⟩) d.size c (by omega) f (hf _ h2) (.func g) #[] lb w (fun w' => ∃ d' : Array (El k p), (rowOf d').Perm (rowOf d) ∧ Sort.SortedIn lt 0 d.size d' ∧ d'.size = d.size ∧ (w'.os = w.os ∧ w'.tape = w.tape ∧ w'.output = w.output ∧ w.heap.size ≤ w'.heap.size) ∧
      (∀ q, q < w.heap.size → q ≠ b → w'.heap[q]? = w.heap[q]?) ∧ (d.size = 0 → ∀ q, q < w.heap.size → w'.heap[q]? = w.heap[q]?) ∧ (0 < d.size → RowF T b Bs N bx d' w')) ?_).mono fun ex w' he => he
    rw [hB, hW, hfP]
    generalize (#[.cells #[.slice (some ⟨b, 0, none⟩) d.size c] t, .cells #[.pointer (some ⟨P.globals.size, t, none⟩), .pointer (some ⟨w.heap.size, 0, none⟩), .int .u64 151] (ρS.t 35)] : Array Obj) = os0
    have hsz1 : w.heap.size ≤ (Sort.grow w os0).heap.size := by rw [Sort.size_grow]; omega
    have hgo : ∀ q, q < w.heap.size → (Sort.grow w os0).heap[q]? = w.heap[q]? := fun q hq => Sort.heap_grow_old _ _ hq
    have hR1 : RowF T b Bs N bx d (Sort.grow w os0) := hR.keep fun q hq => by
      refine hgo q ?_
      simp only [List.mem_cons, List.not_mem_nil, or_false] at hq
      rcases hq with rfl | rfl
      · exact hR.lt.1
      · exact hR.lt.2
    refine (hF.1.2 (fun _ => ⟨none, 0, 0, 0, True, fun x => x ∈ [b, Bs]⟩) [.agg #[.func (.func g) #[] lb, .func (.func f) #[] #[.slice (some ⟨b, 0, none⟩) d.size c, typeHandle P e]], .int .i64 0, .int .i64 d.size, .int .i64 (Lib.bitLen d.size)] (Sort.grow w os0) ⟨⟨[_, _], rfl, ⟨rfl, rfl⟩, ⟨rfl, rfl⟩, trivial⟩, ⟨rfl, rfl⟩, ⟨rfl, rfl⟩, ⟨rfl, rfl⟩, trivial⟩ ⟨fun q blk hb => ?_, fun q q' blk blk' hqq hb hb' => ?_⟩).mono fun ex w' he => ?_
    · simp only [hget] at hb
      split at hb
      · rename_i hq
        obtain rfl := (Option.some.inj hb)
        subst hq
        refine ⟨Nat.zero_lt_one, ⟨fun _ h => h, hR1, fun w'' hw => hR1.keep hw⟩, fun x hx => ?_⟩
        simp only [List.mem_cons, List.not_mem_nil, or_false] at hx
        rcases hx with rfl | rfl
        · exact hR1.lt.1
        · exact hR1.lt.2
      · cases hb
    · simp only [hget] at hb hb'
      split at hb
      · split at hb'
        · rename_i h h'; exact absurd (h.trans h'.symm) hqq
        · cases hb'
      · cases hb
    · obtain ⟨u, ρ', rfl, hd'⟩ := he
      obtain ⟨us, rfl, hus⟩ := hd'.val
      have hnil : us = [] := by
        have := hus.length
        exact List.eq_nil_of_length_eq_zero this.symm
      subst hnil
      obtain ⟨hpm, hso⟩ := Sort.pdq_sorts lt hO d 0 d.size (Lib.bitLen d.size) true true (Nat.zero_le _) (Nat.le_refl _) (Or.inl rfl)
      have hfin : RowF T b Bs N bx (Sort.pdq lt d 0 d.size (Lib.bitLen d.size) true true) w' := (hd'.mem.dom 0 _ rfl).2.1.2.1
      refine ⟨rfl, _, ?_, hso, hpm.1, ⟨hd'.os, hd'.tape, hd'.output, Nat.le_trans hsz1 hd'.size⟩, fun q hq hne' => ?_, fun h => absurd h (by omega), fun _ => hfin⟩
      · have h3 := hpm.2.2
        generalize Sort.pdq lt d 0 d.size (Lib.bitLen d.size) true true = d' at h3 hpm
        have e1 : d'.extract 0 d.size = d' := by rw [← hpm.1]; exact Array.extract_size
        have e2 : d.extract 0 d.size = d := Array.extract_size
        rw [e1, e2] at h3
        exact h3.map _
      · by_cases hqb : q = Bs
        · rw [hqb, hfin.2, hR.2]
        · rw [hd'.block q (Nat.lt_of_lt_of_le hq hsz1) fun g' x hg hlt hex => ?_]
          · exact hgo q hq
          · simp only [Con.eff, List.mem_singleton, Prod.mk.injEq] at hg
            obtain ⟨rfl, rfl⟩ := hg
            obtain ⟨blk, hb, hex⟩ := hex
            obtain rfl := Option.some.inj hb
            have hex : q ∈ [b, Bs] := hex
            simp only [List.mem_cons, List.not_mem_nil, or_false] at hex
            rcases hex with h | h
            · exact hne' h
            · exact hqb h
  · obtain ⟨f', hf'⟩ := hf1 d.size (by omega)
    refine (Any.sort_Slice_tiny L t e i ie hi hd S.pk hie ke hke ad d.size c (by omega) f' hf' (.func g) #[] lb w).mono ?_
    rintro ex w' ⟨rfl, os, rfl⟩
    have hgo : ∀ q, q < w.heap.size → (Sort.grow w os).heap[q]? = w.heap[q]? := fun q hq => Sort.heap_grow_old _ _ hq
    refine ⟨rfl, d, .refl _, fun i j h1 h3 h4 => by omega, rfl, ⟨rfl, rfl, rfl, by rw [Sort.size_grow]; omega⟩, fun q hq _ => hgo q hq, fun _ q hq => hgo q hq, fun h => (hR h).keep fun q hq => hgo q ?_⟩
    simp only [List.mem_cons, List.not_mem_nil, or_false] at hq
    rcases hq with rfl | rfl
    · exact (hR h).lt.1
    · exact (hR h).lt.2
end

section
variable {P : Program} {ρS : Ren} {t e k : Nat} {p : List DC → Prop} [Inhabited (El k p)] {lt : El k p → El k p → Bool} {X : Ctx}

theorem sort_tailB (L : LaysGg.n6 P ρS) (S : Srt P t e k) (hk : 0 < k) (hO : Sort.SWO lt) {g fS fB fP : Nat} (hfS : ρS.f 6 = fS) (hcal : Callable P fS) (hfB : ρS.f 28 = fB) (hcB : Callable P fB) (hfP : ρS.f 14 = fP) (eg : ∀ args w, (callFunc g args).run P w = .ok (.enter g args) w)
    {ops : Array Oper} {Q : Exit → Act → World → Prop} {K : List SV → Heap → Nat → Prop} {ds db d1 d2 cb n gr gb T Tb : Nat} {d3 : Option Tmp} {es : List (List DC)} {cs : List CV} {sl : List SV} {H : Heap} {nx : Nat} {a : Act} {w : World}
    {t1 t2 t3 : TypeId} {p1 p2 p3 : String} {a1 a2 a3 : Array Edge} {at3 : Array TypeId}
    (hmax : n ≤ 1099511627) (hpdq : PdqC P lt fB fP n) (hs : Sat X sl H nx a w) (h1 : sl[ds]? = some (.c (.sl gr k 0 n))) (h2 : hget H gr = some (.row T es)) (hn : es.length = n) (hp : ∀ x ∈ es, p x)
    (h3 : sl[db]? = some (.c (.ptr gb 0 0))) (h4 : hget H gb = some (.box Tb cs)) (h5 : cs[cb]? = some (.sl gr k 0 n)) (hne : gb ≠ gr) (hdd : d1 ≠ d2) (hbd : db ≠ d1) (hl1 : d1 < sl.length) (hl2 : d2 < sl.length)
    (hcl : ∀ (blk Bs c : Nat) (W : World) (dk : Array (El k p)), dk.size = n → blk < W.heap.size → Bs < W.heap.size → n ≤ c → c ≤ maxLen → W.cell? ⟨Bs, cb, none⟩ = some (.slice (some ⟨blk, 0, none⟩) n c) → Sort.HoldsK El.enc k W blk 0 dk → ∀ i j : Nat, i < n → j < n →
      Calls P g #[.int .i64 i, .int .i64 j, .pointer (some ⟨Bs, 0, none⟩)] W fun ex w' => ex = .returned (.bool (lt dk[i]! dk[j]!)) ∧ Below W.heap.size W w')
    (hQ : ∀ (d' : Array (El k p)), (rowOf d').Perm es → Sort.SortedIn lt 0 n d' → d'.size = n → K (putS ((sl.set d1 .any).set d2 .any) d3 (.tup [])) (hput H gr (some (.row T (rowOf d')))) nx)
    (hK : ∀ sl H nx a w, K sl H nx → Sat X sl H nx a w → Q .normal a w) :
    wpList P ops Q [⟨some d1, .makeInterface t (.tmp ds), t1, p1, a1, none⟩, ⟨some d2, .makeFunc (.func g) #[] #[.tmp db], t2, p2, a2, none⟩, ⟨d3, .call ⟨.value (.func fS), #[.tmp d1, .tmp d2], at3⟩, t3, p3, a3, none⟩] a w := by
  obtain ⟨du, hdu, hdi⟩ := S.un
  obtain ⟨V, ρ, hV, h0, hst⟩ := id hs
  -- the slots
  obtain ⟨u1, q1, hr1⟩ := hst.slots.get h1
  obtain ⟨u3, q3, hr3⟩ := hst.slots.get h3
  have hlen := hst.slots.length
  simp only [Array.length_toList] at hlen
  have e1 : a.eval (.tmp ds) = u1 := by
    rw [Array.getElem?_toList] at q1
    simp [Act.eval, q1]
  have e3 : a.eval (.tmp db) = u3 := by
    rw [Array.getElem?_toList] at q3
    simp [Act.eval, q3]
  refine value_wp rfl (v := .iface t u1) ?_ ?_
  · have hu : (underlying t).run P w = .ok du w := run_underlying hdu w
    cases du with
    | interface m => exact absurd rfl (hdi m)
    | _ => simp [execOp, Instr.makeInterface, hu, e1]
  refine value_wp rfl (v := .func (.func g) #[] #[u3]) ?_ ?_
  · have e4 := put_eval (a := a) (v := .iface t u1) hbd
    simp [execOp, Instr.makeFunc, e4, e3]
  -- the places
  obtain ⟨hVr, hsz, ad, cp, rfl, hle, hcp, hnil, hz, had⟩ := hr1
  obtain ⟨hVb, b', hb', rfl⟩ := hr3
  have hrow := hst.mem.dom gr _ h2
  obtain ⟨_, ⟨⟨hoff, hex⟩, hmc, hcap, hw, hfl, hn0, hcells⟩, hFr⟩ := hrow
  obtain ⟨_, ⟨hboff, bb, vs, hbb, hFb, hbh, hbc⟩, hFbb⟩ := hst.mem.dom gb _ h4
  obtain rfl : b' = bb := by rw [hb'] at hbb; exact Option.some.inj hbb
  obtain ⟨hade, hcpe⟩ := hz rfl hex
  rw [hsz] at hw
  obtain ⟨d, rfl⟩ := rowOf_ex (p := p) es hw hfl hp
  have hdn : d.size = n := by rw [← hn]; simp [rowOf]
  obtain ⟨b, hb1, hb2⟩ : ∃ b, (∀ x, (ρ gr).adr = some x → x = b) ∧ ((ρ gr).adr = none → b = w.heap.size) := by
    cases h : (ρ gr).adr with
    | none => exact ⟨w.heap.size, fun x hx => by simp at hx, fun _ => rfl⟩
    | some x => exact ⟨x, fun y hy => by simpa using hy.symm, fun hx => by simp at hx⟩
  have hbk : 0 < n → (ρ gr).adr = some b ∧ ad = some ⟨b, 0, none⟩ := by
    intro h
    obtain ⟨x, hx, hy⟩ := had h
    obtain rfl := hb1 x hx
    refine ⟨hx, by rw [hy, hoff]; simp⟩
  have hbb' : ∀ x, (ρ gr).adr = some x → b' ≠ x := fun x hx he => hst.mem.sep gb gr _ _ hne h4 h2 b' hFb (by rw [he]; exact (hcells x hx).1)
  have hbw : b' < w.heap.size := hFbb b' hFb
  have hbne : b' ≠ b := by
    cases h : (ρ gr).adr with
    | none => rw [hb2 h]; omega
    | some x => obtain rfl := hb1 x h; exact hbb' x h
  obtain ⟨u5, q5, hr5⟩ := hbc.get h5
  obtain ⟨_, _, ad5, cp5, rfl, _, _, _, hz5, _⟩ := hr5
  obtain ⟨hade5, hcpe5⟩ := hz5 rfl hex
  have hbrow : 0 < n → ∃ cur T, w.heap[b]? = some (.cells cur T (0, 0)) ∧ cur.toList.take (n * k) = flatE (rowOf d) := by
    intro h
    obtain ⟨_, cur, c1, c2, c3⟩ := hcells b (hbk h).1
    rw [hsz, hn] at c3
    exact ⟨cur, T, c1, c3⟩
  have hB0 : (ρ gb).off + 0 * (ρ gb).sz + 0 = 0 := by rw [hboff]; simp
  rw [hB0]
  obtain ⟨N, hNe⟩ : ∃ N, N = (ρ gr).cap * (ρ gr).sz := ⟨_, rfl⟩
  have hNk : n * k ≤ N := by rw [hNe, hsz, ← hn]; exact Nat.mul_le_mul_right _ hcap
  have hR0 : 0 < n → RowF T b b' N (.cells vs.toArray Tb (0, 0)) d w := fun h => by
    obtain ⟨_, cur, c1, c2, c3⟩ := hcells b (hbk h).1
    rw [hsz, hn] at c3
    exact ⟨⟨cur, c1, by rw [hNe]; exact c2, by rw [hdn, c3, flatK_row hk]⟩, hbh⟩
  have hless : ∀ (W : World) (dk : Array (El k p)), dk.size = n → RowF T b b' N (.cells vs.toArray Tb (0, 0)) dk W → ∀ i j : Nat, i < n → j < n → Calls P g (#[.int .i64 i, .int .i64 j] ++ #[.pointer (some ⟨b', 0, none⟩)]) W fun ex w' => ex = .returned (.bool (lt dk[i]! dk[j]!)) ∧ Below W.heap.size W w' := by
    intro W dk hdk hR i j hi hj
    refine hcl b b' cp W dk hdk hR.lt.1 hR.lt.2 hle hcp ?_ hR.holds i j hi hj
    have q6 : vs.toArray[cb]? = some (.slice ad5 n cp5) := by simpa using q5
    simp only [World.cell?, hR.2, q6]
    rw [hade5, hcpe5, ← hcpe, (hbk (by omega)).1, hoff]
    rfl
  have hcs := sort_callsB L S hO hfB hcB hfP eg d hdn hmax hbne hNk hpdq hless hR0 (c := cp) (ad := ad) fun h => (hbk h).2
  rw [hfS] at hcs
  unfold wpList
  rw [if_pos (by simp [Region.wanted])]
  refine .inl ?_
  have hexec : (execOp ((a.put (some d1) (.iface t (.slice ad n cp))).put (some d2) (.func (.func g) #[] #[.pointer (some ⟨b', 0, none⟩)])).eval ⟨d3, .call ⟨.value (.func fS), #[.tmp d1, .tmp d2], at3⟩, t3, p3, a3, none⟩).run P w = .ok (.enter fS #[.iface t (.slice ad n cp), .func (.func g) #[] #[.pointer (some ⟨b', 0, none⟩)]]) w := by
    have g1 : ((a.put (some d1) (.iface t (.slice ad n cp))).put (some d2) (.func (.func g) #[] #[.pointer (some ⟨b', 0, none⟩)])).eval (.tmp d1) = .iface t (.slice ad n cp) := by
      rw [put_eval hdd, put_eval_self (by omega)]
    have g2 : ((a.put (some d1) (.iface t (.slice ad n cp))).put (some d2) (.func (.func g) #[] #[.pointer (some ⟨b', 0, none⟩)])).eval (.tmp d2) = .func (.func g) #[] #[.pointer (some ⟨b', 0, none⟩)] := by
      rw [put_eval_self (by simp [Act.put]; omega)]
    exact exec_call hcal rfl rfl (by simp [g1, g2])
  unfold Oper.wp
  rw [hexec, Oper.upon_enter]
  refine hcs.mono fun ex w' he => ?_
  obtain ⟨rfl, d', hperm, hso, hsz', ⟨ho1, ho2, ho3, ho4⟩, hbl, hbl0, hrw⟩ := he
  have hsl : (rowOf d').length = n := by rw [← hsz']; simp [rowOf]
  refine hK _ _ _ _ _ (hQ d' hperm hso hsz') ?_
  let e : Eff := ⟨.tup [], [gr], [(gr, some (.row T (rowOf d')))], nx⟩
  have hst2 : St V ρ ((sl.set d1 .any).set d2 .any) H X.B X.T X.R X.w0 ((a.put (some d1) (.iface t (.slice ad n cp))).put (some d2) (.func (.func g) #[] #[.pointer (some ⟨b', 0, none⟩)])) w :=
    ⟨putS_r (r := .any) (putS_r (r := .any) (u := .iface t (.slice ad n cp)) hst.slots (some d1) trivial) (some d2) trivial, by simp [Act.put, hst.defers], hst.mem, hst.base, hst.foot, hst.os, hst.tape, hst.output, hst.size, hst.block, hst.le⟩
  have hfit : Fit H nx e := by
    refine ⟨Nat.le_refl _, fun f hf => ?_, fun f bl hf => ?_, by simp [e]⟩
    · simp only [e, List.mem_singleton] at hf; subst hf; exact ⟨_, h2⟩
    · simp only [e, List.mem_singleton, Prod.mk.injEq] at hf
      obtain ⟨rfl, rfl⟩ := hf
      exact ⟨hV _ hVr, fun _ => ⟨by simp [e], _, h2, rfl⟩⟩
  have hdone : Done V ρ H nx w e (.tuple #[]) ρ w' := by
    refine ⟨same_of fun _ _ => rfl, ⟨[], rfl, trivial⟩, ⟨fun f blk hf => ?_, fun f f' blk blk' hff hf1 hf2 => ?_⟩, fun f blk hf x hx => ?_, ho1, ho2, ho3, ho4, fun q hq hF => ?_⟩
    · have hf' : f = gr ∧ blk = .row T (rowOf d') := by
        simp only [e, hget] at hf
        split at hf
        · rename_i h; exact ⟨h, (Option.some.inj hf).symm⟩
        · cases hf
      obtain ⟨rfl, rfl⟩ := hf'
      refine ⟨.inl hVr, ⟨⟨hoff, hex⟩, hmc, by rw [hsl, ← hn]; exact hcap, by rw [hsz]; exact rowOf_len d', rowOf_flat d', hn0, fun x hx => ?_⟩, fun x hx => ?_⟩
      · obtain rfl := hb1 x hx
        refine ⟨(hcells x hx).1, ?_⟩
        by_cases h : 0 < n
        · obtain ⟨⟨cur, c1, c2, c3⟩, _⟩ := hrw h
          refine ⟨cur, c1, by rw [c2, hNe], ?_⟩
          rw [hsl, hsz, ← flatK_row hk, ← c3, hsz']
        · obtain ⟨c0, cur, c1, c2, c3⟩ := hcells x hx
          refine ⟨cur, ?_, c2, ?_⟩
          · rw [hbl0 (by omega) x (hFr x c0)]; exact c1
          · have h0 : n = 0 := by omega
            have h1 : (rowOf d').length = 0 := by rw [hsl, h0]
            rw [h1, List.eq_nil_of_length_eq_zero h1]
            simp [flatE]
      · exact Nat.lt_of_lt_of_le (hFr x hx) ho4
    · simp only [e, hget] at hf1 hf2
      split at hf1
      · split at hf2
        · rename_i h h'; exact absurd (h.trans h'.symm) hff
        · cases hf2
      · cases hf1
    · have hf' : f = gr := by
        simp only [e, hget] at hf
        split at hf
        · assumption
        · cases hf
      subst hf'
      exact .inr (.inl ⟨f, some (.row T (rowOf d')), by simp [e], hV _ hVr, _, h2, hx⟩)
    · refine hbl q hq (fun h => ?_)
      subst h
      cases ha : (ρ gr).adr with
      | none => rw [hb2 ha] at hq; omega
      | some x =>
        obtain rfl := hb1 x ha
        exact hF gr (some (.row T (rowOf d'))) (by simp [e]) (hV _ hVr) ⟨_, h2, (hcells x ha).1⟩
  have hfin := hst2.after (o := ⟨d3, .call ⟨.value (.func fS), #[.tmp d1, .tmp d2], at3⟩, t3, p3, a3, none⟩) (fun f hf => .inl (hV f hf)) hfit hdone
  refine ⟨_, ρ, fun f hf => ?_, h0, hfin⟩
  rcases hf with hf | hf
  · exact hV f hf
  · exact hf.2
end

end Go.Proofs.YtfnhchcgieeedaaGreat


namespace Go.Proofs.YtfnhchcgieeedaaGreat
set_option linter.unusedSimpArgs false
set_option linter.unusedVariables false
set_option linter.unusedSimpArgs false
set_option linter.unusedVariables false
set_option linter.defProp false
set_option maxRecDepth 20000
open Go.RowKit

theorem sh_bytK {d : Nat} {ds : List DC} (h : Sh Tryz.prog (d + 1) 5 ds) : ∃ z, ds = bytK z ∧ True := by
  unfold Sh at h
  rw [Tryz.underlying5] at h
  obtain ⟨n, rfl, hw⟩ := h
  have hz' : 0 ≤ n ∧ n ≤ 255 := by simpa [Lit.wf, IntKind.min, IntKind.max, IntKind.bits, IntKind.signed] using hw
  refine ⟨UInt8.ofNat n.toNat, ?_, trivial⟩
  simp only [bytK]
  have : ((UInt8.ofNat n.toNat).toNat : Int) = n := by simp; omega
  rw [this]

theorem sh_slice {d t e : Nat} {ds : List DC} (ht : Tryz.prog.underlying t = some (.slice e)) (h : Sh Tryz.prog (d + 1) t ds) :
    ∃ es : List (List DC), ds = [.sl e (Tryz.prog.cellsOf e) es] ∧ es.length ≤ maxLen ∧ ∀ el ∈ es, Sh Tryz.prog d e el := by
  unfold Sh at h
  rw [ht] at h
  exact h

theorem list_of {α : Type} {k : α → List DC} {R : α → Prop} : ∀ {es : List (List DC)}, (∀ el ∈ es, ∃ y, el = k y ∧ R y) → ∃ l : List α, es = l.map k ∧ ∀ y ∈ l, R y
  | [], _ => ⟨[], rfl, fun y hy => (by cases hy)⟩
  | e :: es, h => by
    obtain ⟨y, hy, hR⟩ := h e (by simp)
    obtain ⟨l, hl, hl2⟩ := list_of (es := es) fun el he => h el (by simp [he])
    refine ⟨y :: l, by rw [hy, hl]; rfl, fun z hz => ?_⟩
    rcases List.mem_cons.1 hz with rfl | hz
    · exact hR
    · exact hl2 z hz

theorem one_arg {w : World} {F : Nat → Prop} {d : DC} {us : List Value} (h : All2 (Rd w F) [d] us) : ∃ u, us = [u] ∧ Rd w F d u := by
  match us, h with
  | [u], h => exact ⟨u, rfl, h.1⟩

end Go.Proofs.YtfnhchcgieeedaaGreat


namespace Go.Proofs.YtfnhchcgieeedaaGreat
set_option linter.unusedSimpArgs false
set_option linter.unusedVariables false
set_option linter.unusedSimpArgs false
set_option linter.unusedVariables false
set_option linter.defProp false
open Go.RowKit

theorem litN {K : IntKind} {m : Nat} {P : Nat → Prop} : (∃ x : Nat, (∃ k, SV.c (CV.v (Value.int K (m : Int))) = SV.c (CV.v (Value.int k (x : Int)))) ∧ P x) ↔ P m := by
  constructor
  · rintro ⟨x, ⟨k, h⟩, hp⟩
    have h2 : ((m : Nat) : Int) = (x : Int) := by injection h with h; injection h with h; injection h
    obtain rfl : x = m := by omega
    exact hp
  · intro h; exact ⟨m, ⟨K, rfl⟩, h⟩

end Go.Proofs.YtfnhchcgieeedaaGreat

