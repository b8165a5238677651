/-
  Texts R1 Ti S1 CP DF F1 GF Sh WC in one. No conditions of its own.
-/
import Derived.Test.YtfdhdkljpeohlaaGreatDoorMC
import Derived.Test.YtfdhdkljpeohlaaGreatDoorRows
import Derived.Test.YtfdhdkljpeohlaaGreatDoorFrame
namespace Go.Proofs.YtfdhdkljpeohlaaGreatDoor
set_option linter.unusedSimpArgs false
set_option linter.unusedVariables false
set_option linter.unusedSimpArgs false
set_option linter.unusedVariables false
set_option linter.defProp false
open Go.RowKit

/-- A number in digits of seven bits, the lowest first. -/
def varB (n : Nat) : List UInt8 := if n < 128 then [UInt8.ofNat n] else UInt8.ofNat (n % 128 + 128) :: varB (n / 128)
termination_by n
decreasing_by omega

theorem varB_lt {n : Nat} (h : n < 128) : varB n = [UInt8.ofNat n] := by rw [varB, if_pos h]
theorem varB_ge {n : Nat} (h : ¬ n < 128) : varB n = UInt8.ofNat (n % 128 + 128) :: varB (n / 128) := by rw [varB, if_neg h]

theorem varB_len : ∀ (j n : Nat), n < 128 ^ (j + 1) → (varB n).length ≤ j + 1
  | 0, n, h => by rw [varB_lt (by simpa using h)]; simp
  | j + 1, n, h => by
    by_cases hn : n < 128
    · rw [varB_lt hn]; simp
    · rw [varB_ge hn, List.length_cons]
      have := varB_len j (n / 128) (by rw [Nat.pow_succ] at h; omega)
      omega

theorem varB_len7 {n : Nat} (h : n ≤ 281474976710655) : (varB n).length ≤ 7 := varB_len 6 n (by omega)

/-- The value of digits. -/
def digV : List UInt8 → Nat
  | [] => 0
  | x :: l => x.toNat % 128 + 128 * digV l

theorem digV_snoc (x : UInt8) : ∀ l : List UInt8, digV (l ++ [x]) = digV l + x.toNat % 128 * 128 ^ l.length
  | [] => by simp [digV]
  | y :: l => by
    have := digV_snoc x l
    simp only [List.cons_append, digV, List.length_cons, this, Nat.pow_succ]
    have e : x.toNat % 128 * (128 ^ l.length * 128) = 128 * (x.toNat % 128 * 128 ^ l.length) := by rw [Nat.mul_comm (128 ^ l.length) 128, Nat.mul_left_comm]
    rw [e, Nat.mul_add]
    omega

theorem u8_of {x : UInt8} {n : Nat} (h : x.toNat = n) : UInt8.ofNat n = x := by
  rw [← h]; exact UInt8.ofNat_toNat

/-- Digits as they may stand: all but the last bear the eighth bit. -/
def digW : List UInt8 → Prop
  | [] => False
  | [x] => x.toNat < 128
  | x :: y :: l => 128 ≤ x.toNat ∧ digW (y :: l)

theorem digV_zero : ∀ {l : List UInt8}, digW l → digV l = 0 → l.getLast? = some 0
  | [x], h, h0 => by
    have hx : x.toNat < 128 := h
    simp only [digV] at h0
    have : x.toNat = 0 := by omega
    have := u8_of this
    simp [← this]
  | x :: y :: l, h, h0 => by
    have h2 : digV (x :: y :: l) = x.toNat % 128 + 128 * digV (y :: l) := rfl
    have := digV_zero (l := y :: l) h.2 (by omega)
    rw [List.getLast?_cons_cons]
    exact this

/-- The digits are those that are written for their value, if the last is not a nought, or stands alone. -/
theorem varB_digV : ∀ {l : List UInt8}, digW l → (varB (digV l) = l ↔ (l.length = 1 ∨ l.getLast? ≠ some 0))
  | [x], h => by
    have hx : x.toNat < 128 := h
    have e : digV [x] = x.toNat := by simp only [digV]; omega
    rw [e, varB_lt hx, u8_of rfl]
    simp
  | x :: y :: l, h => by
    have hx : 128 ≤ x.toNat := h.1
    have hx2 := x.toNat_lt
    have ih := varB_digV (l := y :: l) h.2
    have e : digV (x :: y :: l) = x.toNat % 128 + 128 * digV (y :: l) := rfl
    rw [List.getLast?_cons_cons]
    by_cases h0 : digV (y :: l) = 0
    · have hl := digV_zero h.2 h0
      rw [e, h0, varB_lt (by omega)]
      constructor
      · intro h; simp at h
      · rintro (h | h)
        · simp at h
        · exact absurd hl h
    · rw [e, varB_ge (by omega)]
      have e1 : UInt8.ofNat ((x.toNat % 128 + 128 * digV (y :: l)) % 128 + 128) = x := u8_of (by omega)
      have e2 : (x.toNat % 128 + 128 * digV (y :: l)) / 128 = digV (y :: l) := by omega
      rw [e1, e2, List.cons.injEq]
      constructor
      · rintro ⟨_, h⟩
        rcases ih.1 h with h1 | h1
        · refine .inr fun hl => h0 ?_
          cases l with
          | nil =>
            simp at hl
            subst hl
            rfl
          | cons z l => simp at h1
        · exact .inr h1
      · rintro (h | h)
        · simp at h
        · exact ⟨rfl, ih.2 (.inr h)⟩

/-- Where a number's digits end. -/
def endI (d : List UInt8) : Option Nat := (List.range 7).find? fun k => decide (k < d.length ∧ (d.getD k 0).toNat < 128)

theorem endI_some {d : List UInt8} {k : Nat} (hk : k < 7) (hl : k < d.length) (hx : (d.getD k 0).toNat < 128) (hb : ∀ i, i < k → 128 ≤ (d.getD i 0).toNat) : endI d = some k := by
  unfold endI
  rw [List.find?_range_eq_some]
  refine ⟨by rw [decide_eq_true_eq]; exact ⟨hl, hx⟩, by simpa using hk, fun i hi => ?_⟩
  have := hb i hi
  rw [Bool.not_eq_true', decide_eq_false_iff_not]
  rintro ⟨_, h⟩
  omega

theorem endI_none {d : List UInt8} (hb : ∀ i, i < 7 → i < d.length → 128 ≤ (d.getD i 0).toNat) : endI d = none := by
  unfold endI
  rw [List.find?_eq_none]
  intro i hi
  rw [decide_eq_true_eq]
  rintro ⟨h1, h2⟩
  have := hb i (by simpa using hi) h1
  omega

/-- A number read: its value and how many digits it has. -/
def getD7 (d : List UInt8) : Option (Nat × Nat) :=
  match endI d with
  | none => none
  | some k => if (d.getD k 0 = 0 ∧ 0 < k) ∨ 281474976710655 < digV (d.take (k + 1)) then none else some (digV (d.take (k + 1)), k + 1)

end Go.Proofs.YtfdhdkljpeohlaaGreatDoor


namespace Go.Proofs.YtfdhdkljpeohlaaGreatDoor
set_option linter.unusedSimpArgs false
set_option linter.unusedVariables false
set_option linter.defProp false
open Go.RowKit

theorem ti2 : tiOf Tryz.prog 2 = some ⟨.int .i64, 1, 8, [.v (.int .i64 0)], false⟩ := by kernel_rfl
theorem ti3 : tiOf Tryz.prog 3 = some ⟨.int .i64, 1, 8, [.v (.int .i64 0)], false⟩ := by kernel_rfl
theorem ti4 : tiOf Tryz.prog 4 = some ⟨.bool, 1, 1, [.v (.bool false)], false⟩ := by kernel_rfl
theorem ti5 : tiOf Tryz.prog 5 = some ⟨.int .u8, 1, 1, [.v (.int .u8 0)], false⟩ := by kernel_rfl
theorem ti6 : tiOf Tryz.prog 6 = some ⟨.int .u8, 1, 1, [.v (.int .u8 0)], false⟩ := by kernel_rfl
theorem ti7 : tiOf Tryz.prog 7 = some ⟨.struct [(0, 1, false), (1, 1, false), (2, 1, false), (3, 1, false)], 4, 24, [.v (.int .i64 0), .v (.int .i64 0), .v (.bool false), .v (.int .u8 0)], true⟩ := by kernel_rfl
theorem ti8 : tiOf Tryz.prog 8 = some ⟨.struct [(0, 1, false), (1, 1, false), (2, 1, false), (3, 1, false)], 4, 24, [.v (.int .i64 0), .v (.int .i64 0), .v (.bool false), .v (.int .u8 0)], true⟩ := by kernel_rfl
theorem ti9 : tiOf Tryz.prog 9 = some ⟨.str, 1, 16, [.v (.string ⟨#[]⟩)], false⟩ := by kernel_rfl
theorem ti10 : tiOf Tryz.prog 10 = some ⟨.str, 1, 16, [.v (.string ⟨#[]⟩)], false⟩ := by kernel_rfl
theorem ti11 : tiOf Tryz.prog 11 = some ⟨.str, 1, 16, [.v (.string ⟨#[]⟩)], false⟩ := by kernel_rfl
theorem ti12 : tiOf Tryz.prog 12 = some ⟨.int .u64, 1, 8, [.v (.int .u64 0)], false⟩ := by kernel_rfl
theorem ti13 : tiOf Tryz.prog 13 = some ⟨.struct [(0, 1, false), (1, 1, false)], 2, 24, [.v (.string ⟨#[]⟩), .v (.int .u64 0)], true⟩ := by kernel_rfl
theorem ti14 : tiOf Tryz.prog 14 = some ⟨.struct [(0, 1, false), (1, 1, false)], 2, 24, [.v (.string ⟨#[]⟩), .v (.int .u64 0)], true⟩ := by kernel_rfl
theorem ti18 : tiOf Tryz.prog 18 = some ⟨.struct [(0, 1, false)], 1, 8, [.v (.pointer none)], true⟩ := by kernel_rfl
theorem ti19 : tiOf Tryz.prog 19 = some ⟨.struct [(0, 1, false)], 1, 8, [.v (.pointer none)], true⟩ := by kernel_rfl
theorem ti21 : tiOf Tryz.prog 21 = some ⟨.int .i32, 1, 4, [.v (.int .i32 0)], false⟩ := by kernel_rfl
theorem ti22 : tiOf Tryz.prog 22 = some ⟨.slice 5, 1, 24, [.nil], false⟩ := by kernel_rfl
theorem ti23 : tiOf Tryz.prog 23 = some ⟨.slice 3, 1, 24, [.nil], false⟩ := by kernel_rfl
theorem ti24 : tiOf Tryz.prog 24 = some ⟨.slice 39, 1, 24, [.nil], false⟩ := by kernel_rfl
theorem ti25 : tiOf Tryz.prog 25 = some ⟨.struct [(0, 1, false), (1, 1, false), (2, 1, false)], 3, 56, [.v (.int .i64 0), .nil, .nil], true⟩ := by kernel_rfl
theorem ti26 : tiOf Tryz.prog 26 = some ⟨.struct [(0, 1, false), (1, 1, false), (2, 1, false)], 3, 56, [.v (.int .i64 0), .nil, .nil], true⟩ := by kernel_rfl
theorem ti33 : tiOf Tryz.prog 33 = some ⟨.slice 80, 1, 24, [.nil], false⟩ := by kernel_rfl
theorem ti34 : tiOf Tryz.prog 34 = some ⟨.struct [(0, 1, false), (1, 1, false)], 2, 32, [.v (.int .i64 0), .nil], true⟩ := by kernel_rfl
theorem ti35 : tiOf Tryz.prog 35 = some ⟨.struct [(0, 1, false), (1, 1, false)], 2, 32, [.v (.int .i64 0), .nil], true⟩ := by kernel_rfl
theorem ti37 : tiOf Tryz.prog 37 = some ⟨.slice 108, 1, 24, [.nil], false⟩ := by kernel_rfl
theorem ti38 : tiOf Tryz.prog 38 = some ⟨.struct [(0, 1, false), (1, 1, false), (2, 1, false)], 3, 40, [.v (.int .i64 0), .v (.int .i64 0), .nil], true⟩ := by kernel_rfl
theorem ti39 : tiOf Tryz.prog 39 = some ⟨.struct [(0, 1, false), (1, 1, false), (2, 1, false)], 3, 40, [.v (.int .i64 0), .v (.int .i64 0), .nil], true⟩ := by kernel_rfl
theorem ti43 : tiOf Tryz.prog 43 = some ⟨.struct [(0, 1, false), (1, 1, false)], 2, 16, [.v (.int .i64 0), .v (.int .i64 0)], true⟩ := by kernel_rfl
theorem ti44 : tiOf Tryz.prog 44 = some ⟨.struct [(0, 1, false), (1, 1, false)], 2, 16, [.v (.int .i64 0), .v (.int .i64 0)], true⟩ := by kernel_rfl
theorem ti45 : tiOf Tryz.prog 45 = some ⟨.struct [(0, 1, false), (1, 1, false)], 2, 32, [.v (.int .i64 0), .nil], true⟩ := by kernel_rfl
theorem ti46 : tiOf Tryz.prog 46 = some ⟨.struct [(0, 1, false), (1, 1, false)], 2, 32, [.v (.int .i64 0), .nil], true⟩ := by kernel_rfl
theorem ti47 : tiOf Tryz.prog 47 = some ⟨.struct [(0, 2, true), (2, 1, false), (3, 1, false), (4, 1, false), (5, 1, false), (6, 2, true)], 8, 112, [.v (.int .i64 0), .v (.int .i64 0), .v (.int .i64 0), .v (.bool false), .nil, .nil, .v (.int .i64 0), .nil], true⟩ := by kernel_rfl
theorem ti48 : tiOf Tryz.prog 48 = some ⟨.struct [(0, 2, true), (2, 1, false), (3, 1, false), (4, 1, false), (5, 1, false), (6, 2, true)], 8, 112, [.v (.int .i64 0), .v (.int .i64 0), .v (.int .i64 0), .v (.bool false), .nil, .nil, .v (.int .i64 0), .nil], true⟩ := by kernel_rfl
theorem ti52 : tiOf Tryz.prog 52 = some ⟨.struct [(0, 2, true), (2, 1, false), (3, 1, false), (4, 1, false), (5, 2, true)], 7, 104, [.v (.int .i64 0), .v (.int .i64 0), .v (.int .i64 0), .nil, .nil, .v (.int .i64 0), .nil], true⟩ := by kernel_rfl
theorem ti53 : tiOf Tryz.prog 53 = some ⟨.struct [(0, 2, true), (2, 1, false), (3, 1, false), (4, 1, false), (5, 2, true)], 7, 104, [.v (.int .i64 0), .v (.int .i64 0), .v (.int .i64 0), .nil, .nil, .v (.int .i64 0), .nil], true⟩ := by kernel_rfl
theorem ti70 : tiOf Tryz.prog 70 = some ⟨.struct [(0, 1, false), (1, 1, false)], 2, 32, [.v (.int .i64 0), .nil], true⟩ := by kernel_rfl
theorem ti71 : tiOf Tryz.prog 71 = some ⟨.struct [(0, 1, false), (1, 1, false)], 2, 32, [.v (.int .i64 0), .nil], true⟩ := by kernel_rfl
theorem ti73 : tiOf Tryz.prog 73 = some ⟨.struct [(0, 1, false), (1, 1, false), (2, 1, false)], 3, 40, [.nil, .v (.int .i64 0), .v (.bool false)], true⟩ := by kernel_rfl
theorem ti74 : tiOf Tryz.prog 74 = some ⟨.struct [(0, 1, false), (1, 1, false), (2, 1, false)], 3, 40, [.nil, .v (.int .i64 0), .v (.bool false)], true⟩ := by kernel_rfl
theorem ti79 : tiOf Tryz.prog 79 = some ⟨.struct [(0, 1, false), (1, 1, false), (2, 1, false)], 3, 24, [.v (.int .i64 0), .v (.int .i64 0), .v (.int .i64 0)], true⟩ := by kernel_rfl
theorem ti80 : tiOf Tryz.prog 80 = some ⟨.struct [(0, 1, false), (1, 1, false), (2, 1, false)], 3, 24, [.v (.int .i64 0), .v (.int .i64 0), .v (.int .i64 0)], true⟩ := by kernel_rfl
theorem ti96 : tiOf Tryz.prog 96 = some ⟨.struct [(0, 1, false), (1, 1, false), (2, 1, false)], 3, 40, [.nil, .v (.int .i64 0), .v (.int .i64 0)], true⟩ := by kernel_rfl
theorem ti97 : tiOf Tryz.prog 97 = some ⟨.struct [(0, 1, false), (1, 1, false), (2, 1, false)], 3, 40, [.nil, .v (.int .i64 0), .v (.int .i64 0)], true⟩ := by kernel_rfl
theorem ti107 : tiOf Tryz.prog 107 = some ⟨.struct [(0, 1, false), (1, 1, false), (2, 1, false), (3, 1, false), (4, 1, false)], 5, 40, [.v (.int .i64 0), .v (.int .i64 0), .v (.int .i64 0), .v (.int .i64 0), .v (.int .i64 0)], true⟩ := by kernel_rfl
theorem ti108 : tiOf Tryz.prog 108 = some ⟨.struct [(0, 1, false), (1, 1, false), (2, 1, false), (3, 1, false), (4, 1, false)], 5, 40, [.v (.int .i64 0), .v (.int .i64 0), .v (.int .i64 0), .v (.int .i64 0), .v (.int .i64 0)], true⟩ := by kernel_rfl
theorem ti115 : tiOf Tryz.prog 115 = some ⟨.slice 9, 1, 24, [.nil], false⟩ := by kernel_rfl
theorem ti117 : tiOf Tryz.prog 117 = some ⟨.slice 4, 1, 24, [.nil], false⟩ := by kernel_rfl
theorem ti123 : tiOf Tryz.prog 123 = some ⟨.int .u32, 1, 4, [.v (.int .u32 0)], false⟩ := by kernel_rfl
theorem ti124 : tiOf Tryz.prog 124 = some ⟨.int .u64, 1, 8, [.v (.int .u64 0)], false⟩ := by kernel_rfl
theorem ti135 : tiOf Tryz.prog 135 = some ⟨.struct [(0, 1, false), (1, 1, false)], 2, 32, [.v (.pointer none), .nil], true⟩ := by kernel_rfl
theorem ti136 : tiOf Tryz.prog 136 = some ⟨.struct [(0, 1, false), (1, 1, false)], 2, 32, [.v (.pointer none), .nil], true⟩ := by kernel_rfl
theorem ti153 : tiOf Tryz.prog 153 = some ⟨.slice 156, 1, 24, [.nil], false⟩ := by kernel_rfl
theorem ti155 : tiOf Tryz.prog 155 = some ⟨.struct [(0, 1, false), (1, 1, false), (2, 1, false)], 3, 24, [.v (.int .i64 0), .v (.int .i64 0), .v (.int .i64 0)], true⟩ := by kernel_rfl
theorem ti156 : tiOf Tryz.prog 156 = some ⟨.struct [(0, 1, false), (1, 1, false), (2, 1, false)], 3, 24, [.v (.int .i64 0), .v (.int .i64 0), .v (.int .i64 0)], true⟩ := by kernel_rfl
theorem ti166 : tiOf Tryz.prog 166 = some ⟨.slice 185, 1, 24, [.nil], false⟩ := by kernel_rfl
theorem ti169 : tiOf Tryz.prog 169 = some ⟨.int .u64, 1, 8, [.v (.int .u64 0)], false⟩ := by kernel_rfl
theorem ti178 : tiOf Tryz.prog 178 = some ⟨.slice 193, 1, 24, [.nil], false⟩ := by kernel_rfl
theorem ti184 : tiOf Tryz.prog 184 = some ⟨.struct [(0, 1, false)], 1, 24, [.nil], true⟩ := by kernel_rfl
theorem ti185 : tiOf Tryz.prog 185 = some ⟨.struct [(0, 1, false)], 1, 24, [.nil], true⟩ := by kernel_rfl
theorem ti192 : tiOf Tryz.prog 192 = some ⟨.struct [(0, 1, false), (1, 1, false), (2, 1, false), (3, 1, false)], 4, 24, [.v (.bool false), .v (.bool false), .v (.int .i64 0), .v (.int .i64 0)], true⟩ := by kernel_rfl
theorem ti193 : tiOf Tryz.prog 193 = some ⟨.struct [(0, 1, false), (1, 1, false), (2, 1, false), (3, 1, false)], 4, 24, [.v (.bool false), .v (.bool false), .v (.int .i64 0), .v (.int .i64 0)], true⟩ := by kernel_rfl
theorem ti203 : tiOf Tryz.prog 203 = some ⟨.struct [(0, 1, false), (1, 1, false), (2, 1, false), (3, 1, false)], 4, 40, [.v (.pointer none), .v (.pointer none), .v (.pointer none), .v (.string ⟨#[]⟩)], true⟩ := by kernel_rfl
theorem ti204 : tiOf Tryz.prog 204 = some ⟨.struct [(0, 1, false), (1, 1, false), (2, 1, false), (3, 1, false)], 4, 40, [.v (.pointer none), .v (.pointer none), .v (.pointer none), .v (.string ⟨#[]⟩)], true⟩ := by kernel_rfl
theorem ti208 : tiOf Tryz.prog 208 = some ⟨.int .u8, 1, 1, [.v (.int .u8 0)], false⟩ := by kernel_rfl
theorem ti209 : tiOf Tryz.prog 209 = some ⟨.int .u8, 1, 1, [.v (.int .u8 0)], false⟩ := by kernel_rfl
theorem ti211 : tiOf Tryz.prog 211 = some ⟨.int .i32, 1, 4, [.v (.int .i32 0)], false⟩ := by kernel_rfl
theorem ti212 : tiOf Tryz.prog 212 = some ⟨.int .i32, 1, 4, [.v (.int .i32 0)], false⟩ := by kernel_rfl
theorem tn39 : nzT Tryz.prog 39 = some [.v (.int .i64 0), .v (.int .i64 0), .sl 108 5 []] := by kernel_rfl
theorem tn185 : nzT Tryz.prog 185 = some [.sl 156 3 []] := by kernel_rfl

def tiAll :=
  (And.intro (And.intro (And.intro (And.intro (And.intro (And.intro ti2 ti3)
  (And.intro ti4 ti5))
  (And.intro (And.intro ti6 ti7)
  (And.intro ti8 ti9)))
  (And.intro (And.intro (And.intro ti10 ti11)
  (And.intro ti12 ti13))
  (And.intro (And.intro ti14 ti18)
  (And.intro ti19 (And.intro ti21 ti22)))))
  (And.intro (And.intro (And.intro (And.intro ti23 ti24)
  (And.intro ti25 ti26))
  (And.intro (And.intro ti33 ti34)
  (And.intro ti35 ti37)))
  (And.intro (And.intro (And.intro ti38 ti39)
  (And.intro ti43 ti44))
  (And.intro (And.intro ti45 ti46)
  (And.intro ti47 (And.intro ti48 ti52))))))
  (And.intro (And.intro (And.intro (And.intro (And.intro ti53 ti70)
  (And.intro ti71 ti73))
  (And.intro (And.intro ti74 ti79)
  (And.intro ti80 ti96)))
  (And.intro (And.intro (And.intro ti97 ti107)
  (And.intro ti108 ti115))
  (And.intro (And.intro ti117 ti123)
  (And.intro ti124 (And.intro ti135 ti136)))))
  (And.intro (And.intro (And.intro (And.intro ti153 ti155)
  (And.intro ti156 ti166))
  (And.intro (And.intro ti169 ti178)
  (And.intro ti184 (And.intro ti185 ti192))))
  (And.intro (And.intro (And.intro ti193 ti203)
  (And.intro ti204 ti208))
  (And.intro (And.intro ti209 ti211)
  (And.intro ti212 (And.intro tn39 tn185)))))))

end Go.Proofs.YtfdhdkljpeohlaaGreatDoor


namespace Go.Proofs.YtfdhdkljpeohlaaGreatDoor
set_option linter.unusedSimpArgs false
set_option linter.unusedVariables false
set_option linter.unusedSimpArgs false
set_option linter.unusedVariables false
set_option linter.defProp false
open Go.RowKit

theorem mixed : Tryz.prog.follows .mixedOrders = true := by kernel_rfl

theorem u8_le (x : UInt8) : (x.toNat : Int) ≤ 9223372036854775807 := by have := x.toNat_lt; omega

theorem ex_p {p : Prop} {q : p → Prop} (h : p) (k : ∀ h, q h) : ∃ h, q h := ⟨h, k h⟩

theorem l09Bit_k (v : Nat) (hv : v ≤ 1099511627776) : FnOK Tryz.prog 81 ⟨0, [], [.c (.v (.int .i64 (v : Int)))], .c (.v (.int .i64 ((2 ^ (v % 8) : Nat) : Int))), [], 0⟩ := by
  refine fnOK_of true mixed Tryz.func81 rfl (by rfl) (by rfl) ?_
  have hres := congrArg Array.toList Tryz.results81
  simp only [Tryz.ntmps81, BGB, seval]
  repeat' (first | (with_reducible first | refine seq_k fun K hK hE hT => ?_ | refine block_k fun K hK hE hT => ?_ | refine lex_nil ?_ | fail) | ((with_reducible refine region_k ?_); simp only [dstsOf, EVB, seval]) | ((with_reducible refine draw_k ?_ fun D hD => ?_); (focus (first | rfl | kernel_rfl)); simp only [dstsOf, EVB, seval]) | ((with_reducible first | refine lex_move ?_ | refine lex_assign ?_); simp only [EVB, seval]) | (with_reducible first | refine lex_cons fun KS hKS => ?_ | refine lexd_cons fun KS hKS => ?_ | refine skip_k ?_ | refine exit_k ?_ | refine ret_k ?_ | fail) | ((with_reducible refine call_go ?_); fail) | ((with_reducible refine step_go ?_); (fail_if_success with_reducible refine call_go ?_); simp only [ENB, seval, tiAll, true_and]) | ((with_reducible refine lexd_nil ?_ ?_); (focus (refine hD _ ?_; first | kernel_rfl | with_unfolding_all rfl)); clear hD; clear D) | ((with_reducible refine guard_go ?_); refine lex_gone rfl rfl ?_; simp only [EVB, seval]) | ((with_reducible refine guardd_go ?_); refine lexd_gone rfl rfl ?_; simp only [EVB, seval]) | ((first | ((with_reducible refine guard_go ?_); refine lex_guard rfl rfl (fun hg KS hKS => ?_) (fun hg => ?_)) | ((with_reducible refine guardd_go ?_); refine lexd_guard rfl rfl (fun hg KS hKS => ?_) (fun hg => ?_)) | ((with_reducible refine cond_go ?_); refine cond_k rfl (fun hg => ?_) (fun hg => ?_)) | (with_reducible refine And.intro (fun hg => ?_) (fun hg => ?_)) | fail) <;> first | ((with_reducible exfalso); exact absurd hg (by decide)) | ((try simp only [CNL] at hg) <;> first | ((with_reducible exfalso); omega) | ((with_reducible exfalso); first | exact tf (by assumption) hg | exact tf hg (by assumption)) | ((try with_reducible (have hT0 : True := hg; clear hT0 hg)); first | (with_reducible refine wpc_go ?_) | (try simp only [EVB, seval])))) | ((with_reducible refine hKS _ _ _ _ ?_); clear hKS; clear KS; simp only [EVB, seval]) | ((with_reducible refine And.intro ?_ ?_); focus (first | omega | exact u8_le _ | exact flat_intK _ | exact flat_bytK _ | (fail) | decide | (simp only [true_and]; done))) | ((with_reducible refine ex_p ?_ (fun hh => ?_)); focus (first | omega | (simp only [true_and]; omega))) | ((with_reducible refine hK _ _ _ ?_); clear hK hE hT; clear K) | ((with_reducible first | refine hE _ _ _ _ ?_ | refine hT _ _ _ ?_ | fail); (first | (clear hK hE hT; clear K) | (clear hR hE hT; clear K) | skip); try simp only [IFB, seval]) | ((with_reducible apply_assumption -symm -exfalso); try simp only [IFB, seval]) | fail)
  refine loop_v (X := {k : Nat // k ≤ v % 8}) [] (fun x => [(3, .c (.v (.int .i64 ((2 ^ x.1 : Nat) : Int)))), (4, .c (.v (.int .i64 ((x.1 : Nat) : Int))))]) (fun x => []) 0 (fun x => v % 8 - x.1) ⟨0, by omega⟩ ?_
  simp only [KPB, seval]
  refine ⟨?_, ?_⟩
  · (refine wk_a ?_; simp only [MAB, seval]; refine ⟨rfl, rfl, (by decide), ?_, ?_⟩; all_goals (first | (simp only [WKB, seval, true_and]; done) | (simp [WKB, seval, true_and]; done) | simp only [WKB, seval]))
  · rintro ⟨k, hk⟩ K hR hE hT
    obtain ⟨m, hm⟩ : ∃ m : Nat, m = 2 ^ k := ⟨_, rfl⟩
    have hp : m ≤ 128 := by rw [hm]; exact Nat.le_trans (Nat.pow_le_pow_right (by omega) (show k ≤ 7 by omega)) (by decide)
    simp only [← hm]
    repeat' (first | (with_reducible first | refine seq_k fun K hK hE hT => ?_ | refine block_k fun K hK hE hT => ?_ | refine lex_nil ?_ | fail) | ((with_reducible refine region_k ?_); simp only [dstsOf, EVB, seval]) | ((with_reducible refine draw_k ?_ fun D hD => ?_); (focus (first | rfl | kernel_rfl)); simp only [dstsOf, EVB, seval]) | ((with_reducible first | refine lex_move ?_ | refine lex_assign ?_); simp only [EVB, seval]) | (with_reducible first | refine lex_cons fun KS hKS => ?_ | refine lexd_cons fun KS hKS => ?_ | refine skip_k ?_ | refine exit_k ?_ | refine ret_k ?_ | fail) | ((with_reducible refine call_go ?_); fail) | ((with_reducible refine step_go ?_); (fail_if_success with_reducible refine call_go ?_); simp only [ENB, seval, tiAll, true_and]) | ((with_reducible refine lexd_nil ?_ ?_); (focus (refine hD _ ?_; first | kernel_rfl | with_unfolding_all rfl)); clear hD; clear D) | ((with_reducible refine guard_go ?_); refine lex_gone rfl rfl ?_; simp only [EVB, seval]) | ((with_reducible refine guardd_go ?_); refine lexd_gone rfl rfl ?_; simp only [EVB, seval]) | ((first | ((with_reducible refine guard_go ?_); refine lex_guard rfl rfl (fun hg KS hKS => ?_) (fun hg => ?_)) | ((with_reducible refine guardd_go ?_); refine lexd_guard rfl rfl (fun hg KS hKS => ?_) (fun hg => ?_)) | ((with_reducible refine cond_go ?_); refine cond_k rfl (fun hg => ?_) (fun hg => ?_)) | (with_reducible refine And.intro (fun hg => ?_) (fun hg => ?_)) | fail) <;> first | ((with_reducible exfalso); exact absurd hg (by decide)) | ((try simp only [CNL] at hg) <;> first | ((with_reducible exfalso); omega) | ((with_reducible exfalso); first | exact tf (by assumption) hg | exact tf hg (by assumption)) | ((try with_reducible (have hT0 : True := hg; clear hT0 hg)); first | (with_reducible refine wpc_go ?_) | (try simp only [EVB, seval])))) | ((with_reducible refine hKS _ _ _ _ ?_); clear hKS; clear KS; simp only [EVB, seval]) | ((with_reducible refine And.intro ?_ ?_); focus (first | omega | exact u8_le _ | exact flat_intK _ | exact flat_bytK _ | (fail) | decide | (simp only [true_and]; done))) | ((with_reducible refine ex_p ?_ (fun hh => ?_)); focus (first | omega | (simp only [true_and]; omega))) | ((with_reducible refine hK _ _ _ ?_); clear hK hE hT; clear K) | ((with_reducible first | refine hE _ _ _ _ ?_ | refine hT _ _ _ ?_ | fail); (first | (clear hK hE hT; clear K) | (clear hR hE hT; clear K) | skip); try simp only [IFB, seval]) | ((with_reducible apply_assumption -symm -exfalso); try simp only [IFB, seval]) | fail)
    · refine hR.out ⟨k + 1, by omega⟩ _ _ _ (by simp only; omega) ?_
      have e : ((m : Int) * 2) = ((2 ^ (k + 1) : Nat) : Int) := by rw [hm, Nat.pow_succ]; push_cast; rfl
      (refine wk_a ?_; simp only [MAB, seval]; refine ⟨rfl, rfl, (by decide), ?_, ?_⟩; all_goals (first | (simp only [WKB, seval, e]; done) | (simp [WKB, seval, e]; done) | simp only [WKB, seval]))
    · have e : k = v % 8 := by omega
      subst e
      subst hm
      (refine post_a hres (.inl rfl) ?_; simp only [RSB, ENB, seval, tiAll, true_and]; simp only [MAB, seval]; refine ⟨rfl, rfl, ?_, ?_, ?_⟩ <;> (first | rfl | (simp [WKB, Nat.add_comm, true_and]; done) | (simp only [WKB, seval])))

def intK (x : Int) : List DC := [.v (.int .i64 x)]

theorem flat_map {α : Type} {k : α → List DC} (h : ∀ x, ∀ c ∈ k x, DC.flat c) (l : List α) : ∀ e ∈ l.map k, ∀ c ∈ e, DC.flat c := by
  intro e he c hc
  obtain ⟨x, _, rfl⟩ := List.mem_map.1 he
  exact h x c hc
theorem flat_intK (l : List Int) : ∀ e ∈ l.map intK, ∀ c ∈ e, DC.flat c := flat_map (fun x c hc => by simp [intK] at hc; subst hc; exact ⟨_, rfl, rfl⟩) l
theorem flat_bytK (l : List UInt8) : ∀ e ∈ l.map bytK, ∀ c ∈ e, DC.flat c := flat_map (fun x c hc => by simp [bytK] at hc; subst hc; exact ⟨_, rfl, rfl⟩) l

section
variable {α : Type}
/-- the first k elements are set anew -/
def setTo (g : Nat → List DC) (f : α → List DC) (l : List α) (k : Nat) : List (List DC) := (List.range k).map g ++ (l.drop k).map f
theorem setTo_len (g : Nat → List DC) (f : α → List DC) (l : List α) (k : Nat) (h : k ≤ l.length) : (setTo g f l k).length = l.length := by simp [setTo]; omega
theorem setTo_get (g : Nat → List DC) (f : α → List DC) (l : List α) (k : Nat) (h : k < l.length) (h' : k < (setTo g f l k).length) : (setTo g f l k)[k] = f l[k] := by
  have : (setTo g f l k)[k]? = some (f l[k]) := by
    unfold setTo
    rw [List.getElem?_append_right (by simp)]
    simp [h]
  rw [List.getElem?_eq_getElem h'] at this
  exact Option.some.inj this
theorem setTo_set (g : Nat → List DC) (f : α → List DC) (l : List α) (k : Nat) (h : k < l.length) : (setTo g f l k).set k (g k) = setTo g f l (k + 1) := by
  unfold setTo
  have hl : ((List.range k).map g).length = k := by simp
  rw [List.set_append_right _ _ (by rw [hl]; exact Nat.le_refl _), hl, Nat.sub_self, List.drop_eq_getElem_cons h, List.map_cons, List.set_cons_zero, List.range_succ, List.map_append, List.append_assoc]
  rfl
theorem setTo_zero (g : Nat → List DC) (f : α → List DC) (l : List α) : setTo g f l 0 = l.map f := by simp [setTo]
theorem setTo_end (g : Nat → List DC) (f : α → List DC) (l : List α) : setTo g f l l.length = (List.range l.length).map g := by simp [setTo]
theorem map_take (f : α → List DC) (l : List α) : (l.map f).take l.length = l.map f := List.take_of_length_le (by simp)
end

end Go.Proofs.YtfdhdkljpeohlaaGreatDoor


namespace Go.Proofs.YtfdhdkljpeohlaaGreatDoor
set_option linter.unusedSimpArgs false
set_option linter.unusedVariables false
set_option linter.unusedSimpArgs false
set_option linter.unusedVariables false
set_option linter.defProp false
open Go.RowKit

/-- One bit of the check sum, one byte, all. -/
def crcBit (r : Nat) : Nat := if r % 2 = 1 then (r / 2) ^^^ 3988292384 else r / 2
def crcBits : Nat → Nat → Nat
  | 0, r => r
  | k + 1, r => crcBit (crcBits k r)
def crcRun (l : List UInt8) (r : Nat) : Nat := l.foldl (fun r x => crcBits 8 (r ^^^ x.toNat)) r
def crcN (l : List UInt8) : Nat := crcRun l 4294967295 ^^^ 4294967295

theorem xor_lt32 {a b : Nat} (ha : a < 4294967296) (hb : b < 4294967296) : a ^^^ b < 4294967296 := Nat.xor_lt_two_pow (n := 32) (by omega) (by omega)

theorem crcBit_lt {r : Nat} (h : r < 4294967296) : crcBit r < 4294967296 := by
  unfold crcBit
  split
  · exact xor_lt32 (by omega) (by omega)
  · omega

theorem crcBits_lt {r : Nat} (h : r < 4294967296) : ∀ k, crcBits k r < 4294967296
  | 0 => h
  | k + 1 => crcBit_lt (crcBits_lt h k)

theorem crcRun_lt : ∀ (l : List UInt8) (r : Nat), r < 4294967296 → crcRun l r < 4294967296
  | [], _, h => h
  | x :: l, r, h => crcRun_lt l _ (crcBits_lt (xor_lt32 h (by have := x.toNat_lt; omega)) 8)

theorem crcRun_snoc (l : List UInt8) (k : Nat) (h : k < l.length) (r : Nat) : crcRun (l.take (k + 1)) r = crcBits 8 (crcRun (l.take k) r ^^^ l[k].toNat) := by
  rw [List.take_succ_eq_append_getElem h]
  unfold crcRun
  rw [List.foldl_append]
  rfl

theorem i64_xor_nat (a b : Nat) (ha : a < 4294967296) (hb : b < 4294967296) : bits .xor .i64 (a : Int) (b : Int) = ((a ^^^ b : Nat) : Int) := by
  have hx : a ^^^ b < 4294967296 := xor_lt32 ha hb
  have h1 : (BitVec.ofInt 64 (a : Int)).toNat = a := by
    rw [BitVec.ofInt_natCast, BitVec.toNat_ofNat]; exact Nat.mod_eq_of_lt (by omega)
  have h2 : (BitVec.ofInt 64 (b : Int)).toNat = b := by
    rw [BitVec.ofInt_natCast, BitVec.toNat_ofNat]; exact Nat.mod_eq_of_lt (by omega)
  show IntKind.i64.wrap ((BitVec.ofInt 64 (a : Int) ^^^ BitVec.ofInt 64 (b : Int)).toNat : Int) = _
  rw [BitVec.toNat_xor, h1, h2, IntKind.wrap_i64]
  omega

end Go.Proofs.YtfdhdkljpeohlaaGreatDoor


namespace Go.Proofs.YtfdhdkljpeohlaaGreatDoor
set_option linter.unusedSimpArgs false
set_option linter.unusedVariables false
set_option linter.unusedSimpArgs false
set_option linter.unusedVariables false
set_option linter.defProp false
open Go.RowKit

structure EdgeD where
  From : Int
  To : Int
  W : Int
deriving DecidableEq

def EdgeD.k (x : EdgeD) : List DC := [.v (.int .i64 x.From), .v (.int .i64 x.To), .v (.int .i64 x.W)]
def EdgeD.s (x : EdgeD) : List CV := [.v (.int .i64 x.From), .v (.int .i64 x.To), .v (.int .i64 x.W)]
theorem flat_Edge (l : List EdgeD) : ∀ e ∈ l.map EdgeD.k, ∀ c ∈ e, DC.flat c := flat_map (fun x c hc => by simp only [EdgeD.k, List.mem_cons, List.not_mem_nil, or_false] at hc; rcases hc with rfl | rfl | rfl <;> exact ⟨_, rfl, rfl⟩) l
/-- marked cells -/
def EdgeD.q (q : Nat) : List DC := [.v (.int .i64 ((q : Int))), .v (.int .i64 ((q : Int) + 1)), .v (.int .i64 ((q : Int) + 1 + 1))]
def EdgeD.g (k i : Nat) : List DC := EdgeD.q (k + 3 * i)

end Go.Proofs.YtfdhdkljpeohlaaGreatDoor

namespace Go.Proofs.YtfdhdkljpeohlaaGreatDoor
set_option linter.unusedSimpArgs false
set_option linter.unusedVariables false
set_option linter.defProp false
open Go.RowKit

structure GraphD where
  N : Int
  Edges : List EdgeD
deriving DecidableEq

end Go.Proofs.YtfdhdkljpeohlaaGreatDoor

namespace Go.Proofs.YtfdhdkljpeohlaaGreatDoor
set_option linter.unusedSimpArgs false
set_option linter.unusedVariables false
set_option linter.defProp false
open Go.RowKit

structure JobD where
  Prog : Int
  Src : Int
deriving DecidableEq

def JobD.k (x : JobD) : List DC := [.v (.int .i64 x.Prog), .v (.int .i64 x.Src)]
def JobD.s (x : JobD) : List CV := [.v (.int .i64 x.Prog), .v (.int .i64 x.Src)]
theorem flat_Job (l : List JobD) : ∀ e ∈ l.map JobD.k, ∀ c ∈ e, DC.flat c := flat_map (fun x c hc => by simp only [JobD.k, List.mem_cons, List.not_mem_nil, or_false] at hc; rcases hc with rfl | rfl <;> exact ⟨_, rfl, rfl⟩) l
/-- marked cells -/
def JobD.q (q : Nat) : List DC := [.v (.int .i64 ((q : Int))), .v (.int .i64 ((q : Int) + 1))]
def JobD.g (k i : Nat) : List DC := JobD.q (k + 2 * i)

structure CommitD where
  Epoch : Int
  Graph : Int
  GSum : Int
  Has : Bool
  VSum : Int
deriving DecidableEq

def CommitD.k (x : CommitD) : List DC := [.v (.int .i64 x.Epoch), .v (.int .i64 x.Graph), .v (.int .i64 x.GSum), .v (.bool x.Has), .v (.int .i64 x.VSum)]
def CommitD.s (x : CommitD) : List CV := [.v (.int .i64 x.Epoch), .v (.int .i64 x.Graph), .v (.int .i64 x.GSum), .v (.bool x.Has), .v (.int .i64 x.VSum)]
theorem flat_Commit (l : List CommitD) : ∀ e ∈ l.map CommitD.k, ∀ c ∈ e, DC.flat c := flat_map (fun x c hc => by simp only [CommitD.k, List.mem_cons, List.not_mem_nil, or_false] at hc; rcases hc with rfl | rfl | rfl | rfl | rfl <;> exact ⟨_, rfl, rfl⟩) l
/-- marked cells -/
def CommitD.q (q : Nat) : List DC := [.v (.int .i64 ((q : Int))), .v (.int .i64 ((q : Int) + 1)), .v (.int .i64 ((q : Int) + 1 + 1)), .v (.bool (((q : Int) + 1 + 1 + 1) % 3 == 0)), .v (.int .i64 ((q : Int) + 1 + 1 + 1 + 1))]
def CommitD.g (k i : Nat) : List DC := CommitD.q (k + 5 * i)

end Go.Proofs.YtfdhdkljpeohlaaGreatDoor

namespace Go.Proofs.YtfdhdkljpeohlaaGreatDoor
set_option linter.unusedSimpArgs false
set_option linter.unusedVariables false
set_option linter.defProp false
open Go.RowKit

structure SetD where
  N : Int
  Bits : List UInt8
deriving DecidableEq

structure RunD where
  Job : JobD
  Iter : Int
  Done : Bool
  Vals : List Int
  EVals : List Int
  Next : SetD
deriving DecidableEq

structure ValuesD where
  Job : JobD
  Iter : Int
  Vals : List Int
  EVals : List Int
  Next : SetD
deriving DecidableEq

end Go.Proofs.YtfdhdkljpeohlaaGreatDoor

namespace Go.Proofs.YtfdhdkljpeohlaaGreatDoor
set_option linter.unusedSimpArgs false
set_option linter.unusedVariables false
set_option linter.defProp false
open Go.RowKit

structure ViewD where
  In : Bool
  Out : Bool
  W : Int
  Val : Int
deriving DecidableEq

def ViewD.k (x : ViewD) : List DC := [.v (.bool x.In), .v (.bool x.Out), .v (.int .i64 x.W), .v (.int .i64 x.Val)]
def ViewD.s (x : ViewD) : List CV := [.v (.bool x.In), .v (.bool x.Out), .v (.int .i64 x.W), .v (.int .i64 x.Val)]
theorem flat_View (l : List ViewD) : ∀ e ∈ l.map ViewD.k, ∀ c ∈ e, DC.flat c := flat_map (fun x c hc => by simp only [ViewD.k, List.mem_cons, List.not_mem_nil, or_false] at hc; rcases hc with rfl | rfl | rfl | rfl <;> exact ⟨_, rfl, rfl⟩) l
/-- marked cells -/
def ViewD.q (q : Nat) : List DC := [.v (.bool (((q : Int)) % 3 == 0)), .v (.bool (((q : Int) + 1) % 3 == 0)), .v (.int .i64 ((q : Int) + 1 + 1)), .v (.int .i64 ((q : Int) + 1 + 1 + 1))]
def ViewD.g (k i : Nat) : List DC := ViewD.q (k + 4 * i)

end Go.Proofs.YtfdhdkljpeohlaaGreatDoor


namespace Go.Proofs.YtfdhdkljpeohlaaGreatDoor
set_option linter.unusedSimpArgs false
set_option linter.unusedVariables false
set_option linter.unusedSimpArgs false
set_option linter.unusedVariables false
set_option linter.defProp false
open Go.RowKit

/-- The first j of the six bytes of a number, the highest first. -/
def fixT (n j : Nat) : List UInt8 := (List.range j).map fun i => UInt8.ofNat (n / 256 ^ (5 - i))
def fixB (n : Nat) : List UInt8 := fixT n 6
theorem fixT_zero (n : Nat) : fixT n 0 = [] := rfl
theorem fixT_succ (n j : Nat) : fixT n (j + 1) = fixT n j ++ [UInt8.ofNat (n / 256 ^ (5 - j))] := by
  unfold fixT
  rw [List.range_succ, List.map_append]
  rfl
theorem fixT_len (n j : Nat) : (fixT n j).length = j := by unfold fixT; simp
theorem fixB_len (n : Nat) : (fixB n).length = 6 := fixT_len n 6

/-- The number that bytes stand for, the highest first. -/
def getB (l : List UInt8) : Nat := l.foldl (fun n x => n * 256 + x.toNat) 0
theorem getB_snoc (l : List UInt8) (x : UInt8) : getB (l ++ [x]) = getB l * 256 + x.toNat := by
  unfold getB
  rw [List.foldl_append]
  rfl
/-- The first k bytes from place p on. -/
def gf (b : List UInt8) (p k : Nat) : Nat := getB ((b.drop p).take k)
theorem gf_zero (b : List UInt8) (p : Nat) : gf b p 0 = 0 := rfl
theorem gf_succ {b : List UInt8} {p k : Nat} (h : p + k < b.length) : gf b p (k + 1) = gf b p k * 256 + b[p + k].toNat := by
  have hk : k < (b.drop p).length := by rw [List.length_drop]; omega
  have e : (b.drop p)[k] = b[p + k] := by rw [List.getElem_drop]
  unfold gf
  rw [List.take_succ_eq_append_getElem hk, getB_snoc, e]
theorem gf_lt {b : List UInt8} {p : Nat} : ∀ {k : Nat}, p + k ≤ b.length → gf b p k < 256 ^ k
  | 0, _ => by rw [gf_zero]; simp
  | k + 1, h => by
    have ih := gf_lt (b := b) (p := p) (k := k) (by omega)
    have hx := (b[p + k]'(by omega)).toNat_lt
    rw [gf_succ (by omega), Nat.pow_succ]
    omega
theorem gf_max {b : List UInt8} {p k : Nat} (hk : k ≤ 6) (h : p + k ≤ b.length) : gf b p k ≤ 281474976710655 := by
  have h1 := gf_lt h
  have h2 : 256 ^ k ≤ 256 ^ 6 := Nat.pow_le_pow_right (by decide) hk
  omega

theorem getB_fixB {n : Nat} (h : n ≤ 281474976710655) : getB (fixB n) = n := by
  have q : ∀ n : Nat, (UInt8.ofNat n).toNat = n % 256 := fun n => UInt8.toNat_ofNat' ..
  show ((((((0 * 256 + (UInt8.ofNat (n / 256 ^ 5)).toNat) * 256 + (UInt8.ofNat (n / 256 ^ 4)).toNat) * 256 + (UInt8.ofNat (n / 256 ^ 3)).toNat) * 256 + (UInt8.ofNat (n / 256 ^ 2)).toNat) * 256 + (UInt8.ofNat (n / 256 ^ 1)).toNat) * 256 + (UInt8.ofNat (n / 256 ^ 0)).toNat) = n
  rw [q, q, q, q, q, q]
  omega
theorem pow8 {k : Nat} (h : k < 6) : (2 : Int) ^ (8 * k) = ((256 ^ k : Nat) : Int) := by
  rcases (by omega : k = 0 ∨ k = 1 ∨ k = 2 ∨ k = 3 ∨ k = 4 ∨ k = 5) with rfl | rfl | rfl | rfl | rfl | rfl <;> rfl
theorem fix_shr (n : Nat) {j : Nat} (h : j < 6) : IntKind.u8.wrap ((n : Int).fdiv (2 ^ (min (8 * (5 - (j : Int))).toNat IntKind.i64.bits))) = ((UInt8.ofNat (n / 256 ^ (5 - j))).toNat : Int) := by
  have h1 : (8 * (5 - (j : Int))).toNat = 8 * (5 - j) := by omega
  have h2 : min (8 * (5 - j)) IntKind.i64.bits = 8 * (5 - j) := Nat.min_eq_left (by have : IntKind.i64.bits = 64 := rfl; omega)
  rw [h1, h2, pow8 (by omega), Int.fdiv_eq_ediv_of_nonneg _ (Int.natCast_nonneg _), IntKind.wrap_u8, UInt8.toNat_ofNat']
  rfl
theorem fix_or (n x : Nat) (hn : n ≤ 1099511627776) (hx : x < 256) : bits .or .i64 ((n : Int) * 256) (x : Int) = ((n * 256 + x : Nat) : Int) := by
  have h0 : n * 256 ||| x = n * 256 + x := by
    have := Nat.shiftLeft_add_eq_or_of_lt (i := 8) (b := x) (by omega) n
    rw [Nat.shiftLeft_eq] at this
    exact this.symm
  have e : ((n : Int) * 256) = ((n * 256 : Nat) : Int) := by omega
  rw [e]
  have h1 : (BitVec.ofInt 64 ((n * 256 : Nat) : Int)).toNat = n * 256 := by
    rw [BitVec.ofInt_natCast, BitVec.toNat_ofNat]; exact Nat.mod_eq_of_lt (by omega)
  have h2 : (BitVec.ofInt 64 (x : Int)).toNat = x := by
    rw [BitVec.ofInt_natCast, BitVec.toNat_ofNat]; exact Nat.mod_eq_of_lt (by omega)
  show IntKind.i64.wrap ((BitVec.ofInt 64 ((n * 256 : Nat) : Int) ||| BitVec.ofInt 64 (x : Int)).toNat : Int) = _
  rw [BitVec.toNat_or, h1, h2, h0, IntKind.wrap_i64]
  omega

/-- Encoded frames. -/
def hdB (k : Nat) (d : List UInt8) : List UInt8 := [71, UInt8.ofNat k] ++ fixB d.length
def h2B (k : Nat) (d : List UInt8) : List UInt8 := hdB k d ++ fixB (crcN (hdB k d))
def h3B (k : Nat) (d : List UInt8) : List UInt8 := h2B k d ++ fixB (crcN d)
def fbL (k : Nat) (d : List UInt8) : List UInt8 := h3B k d ++ d
theorem hdB_len (k : Nat) (d : List UInt8) : (hdB k d).length = 8 := by unfold hdB; rw [List.length_append, fixB_len]; rfl
theorem h2B_len (k : Nat) (d : List UInt8) : (h2B k d).length = 14 := by unfold h2B; rw [List.length_append, hdB_len, fixB_len]
theorem h3B_len (k : Nat) (d : List UInt8) : (h3B k d).length = 20 := by unfold h3B; rw [List.length_append, h2B_len, fixB_len]
theorem fbL_len (k : Nat) (d : List UInt8) : (fbL k d).length = 20 + d.length := by unfold fbL; rw [List.length_append, h3B_len]

end Go.Proofs.YtfdhdkljpeohlaaGreatDoor


namespace Go.Proofs.YtfdhdkljpeohlaaGreatDoor
set_option linter.unusedSimpArgs false
set_option linter.unusedVariables false
set_option linter.unusedSimpArgs false
set_option linter.unusedVariables false
set_option linter.defProp false
open Go.RowKit

def frz (ρ : Nat → At) (g : Nat) (k : Nat) : At := if k = g then { ρ g with ex := False } else ρ k
theorem frz_g (ρ : Nat → At) (g : Nat) : frz ρ g g = { ρ g with ex := False } := if_pos rfl
theorem frz_o (ρ : Nat → At) {g k : Nat} (h : k ≠ g) : frz ρ g k = ρ k := if_neg h
theorem frz_adr (ρ : Nat → At) (g k : Nat) : (frz ρ g k).adr = (ρ k).adr := by
  unfold frz; split
  · rename_i h; rw [h]
  · rfl
theorem frz_off (ρ : Nat → At) (g k : Nat) : (frz ρ g k).off = (ρ k).off := by
  unfold frz; split
  · rename_i h; rw [h]
  · rfl
theorem frz_sz (ρ : Nat → At) (g k : Nat) : (frz ρ g k).sz = (ρ k).sz := by
  unfold frz; split
  · rename_i h; rw [h]
  · rfl
theorem frz_F (ρ : Nat → At) (g k : Nat) : (frz ρ g k).F = (ρ k).F := by
  unfold frz; split
  · rename_i h; rw [h]
  · rfl
theorem frz_cv {V : Nat → Prop} {ρ : Nat → At} {g : Nat} {x : CV} {u : Value} (h : CVr V ρ x u) : CVr V (frz ρ g) x u := by
  cases x with
  | any => exact h
  | v x => exact h
  | nil => exact h
  | ptr f i c =>
    obtain ⟨h1, b, h2, h3⟩ := h
    exact ⟨h1, b, by rw [frz_adr]; exact h2, by rw [frz_off, frz_sz]; exact h3⟩
  | sl f sz o n =>
    obtain ⟨h1, h2, a, cp, h3, h4, h5, h6, h7, h8⟩ := h
    refine ⟨h1, by rw [frz_sz]; exact h2, a, cp, h3, h4, h5, h6, fun ho hex => ?_, fun hn => ?_⟩
    · by_cases hf : f = g
      · subst hf; rw [frz_g] at hex; exact hex.elim
      · rw [frz_o ρ hf] at hex ⊢; exact h7 ho hex
    · obtain ⟨b, q1, q2⟩ := h8 hn
      exact ⟨b, by rw [frz_adr]; exact q1, by rw [frz_off]; exact q2⟩
theorem frz_sv {V : Nat → Prop} {ρ : Nat → At} {g : Nat} {x : SV} {u : Value} (h : SVr V ρ x u) : SVr V (frz ρ g) x u := by
  cases x with
  | any => trivial
  | c x => exact frz_cv h
  | agg l => obtain ⟨vs, h1, h2⟩ := h; exact ⟨vs, h1, h2.mono fun _ _ => frz_cv⟩
  | tup l =>
    obtain ⟨vs, h1, h2⟩ := h
    refine ⟨vs, h1, h2.mono fun a b hab => ?_⟩
    cases a with
    | inl x => exact frz_cv hab
    | inr l => obtain ⟨ws, q1, q2⟩ := hab; exact ⟨ws, q1, q2.mono fun _ _ => frz_cv⟩
theorem frz_holds {V : Nat → Prop} {ρ : Nat → At} {g : Nat} {w : World} {p : At} {blk : Blk} (h : Holds V ρ w p blk) : Holds V (frz ρ g) w p blk := by
  cases blk with
  | box T cs =>
    obtain ⟨h0, b, vs, h1, h2, h3, h4⟩ := h
    exact ⟨h0, b, vs, h1, h2, h3, h4.mono fun _ _ => frz_cv⟩
  | row T es => exact h
  | ro es => exact h
  | gh S φ => exact h
  | mix T es => exact h
  | gx S φ => exact h
  | nst T es x =>
    obtain ⟨q, n⟩ := h
    exact ⟨q, n.hole fun i j u => ⟨fun h => h, fun y hy => ⟨y, hy, frz_cv⟩⟩⟩

/-- A row that is only read from now on. -/
theorem wk_freezeG {n0 : Nat} {sl : List SV} {H : Heap} {nx g : Nat} {es : List (List DC)} {blk0 : Blk} (hg : hget H g = some blk0) (hk : (∃ T, blk0 = .row T es) ∨ (∃ T, blk0 = .nst T es none) ∨ ∃ T, blk0 = .mix T es) (hn : n0 ≤ g) : Wk n0 (sl, H, nx) (sl, hput H g (some (.ro es)), nx) := by
  rintro X a w hX ⟨V, ρ, hV, hn0, hst⟩
  obtain ⟨hVg, hrow, hsg⟩ := hst.mem.dom g _ hg
  have hcc : es.length ≤ (ρ g).cap ∧ (ρ g).cap ≤ maxLen := by
    rcases hk with ⟨T, rfl⟩ | ⟨T, rfl⟩ | ⟨T, rfl⟩
    · exact ⟨hrow.2.2.1, hrow.2.1⟩
    · obtain ⟨q, n⟩ := hrow; exact ⟨n.le, n.cap⟩
    · exact ⟨hrow.2.2.1, hrow.2.1⟩
  have hro : Holds V (frz ρ g) w (frz ρ g g) (.ro es) := by
    have := ro_part (V := V) (ρ := ρ) (w := w) (g := g) (b := 0) (m := es.length) (r := true) (es := es) (es' := es) (by
      rcases hk with ⟨T, rfl⟩ | ⟨T, rfl⟩ | ⟨T, rfl⟩
      · exact .inl ⟨T, hrow⟩
      · exact .inr (.inr (.inl ⟨T, hrow⟩))
      · exact .inr (.inr (.inr ⟨T, hrow⟩))) (by simp) rfl V (frz ρ g)
    obtain ⟨a1, a2, a3, a4, a5, a6⟩ := this
    rw [frz_g]
    refine ⟨fun h => h, hcc.2, hcc.1, a4, a5, fun i e j c b h1 h2 h3 => ?_⟩
    have := a6 i e j c b h1 h2 h3
    simpa [vwAt] using this
  have hH : ∀ k, hget (hput H g (some (.ro es))) k = if k = g then some (.ro es) else hget H k := hget_hput H g _
  refine ⟨V, frz ρ g, hV, ⟨hn0.1, fun k hk => ?_⟩, ⟨hst.slots.mono fun _ _ => frz_sv, hst.defers, ⟨fun k blk hb => ?_, fun k k' blk blk' hkk hb hb' b hF hF' => ?_⟩, fun k blk hb b hF => ?_, fun k blk hb b hF => ?_, hst.os, hst.tape, hst.output, hst.size, hst.block, hst.le⟩⟩
  · have : k ≠ g := by rw [← hX] at hn; omega
    rw [frz_o ρ this]; exact hn0.2 k hk
  · rw [hH] at hb
    split at hb
    · rename_i e; subst e; cases hb
      exact ⟨hVg, hro, fun b hF => hsg b (by rw [frz_F] at hF; exact hF)⟩
    · rename_i e
      rw [frz_o ρ e]
      obtain ⟨h1, h2, h3⟩ := hst.mem.dom k blk hb
      exact ⟨h1, frz_holds h2, h3⟩
  · rw [frz_F] at hF'
    rw [hH] at hb hb'
    split at hb
    · cases hb; exact hF.elim
    · rename_i e0
      rw [frz_o ρ e0] at hF
      split at hb'
      · rename_i e; subst e
        exact hst.mem.sep k k' _ _ hkk hb hg b hF hF'
      · exact hst.mem.sep k k' _ _ hkk hb hb' b hF hF'
  · rw [hH] at hb
    split at hb
    · cases hb; exact hF.elim
    · rename_i e0
      rw [frz_o ρ e0] at hF
      exact hst.base k blk hb b hF
  · rw [frz_F] at hF
    rw [hH] at hb
    split at hb
    · rename_i e; subst e
      exact hst.foot k _ hg b hF
    · exact hst.foot k blk hb b hF
end Go.Proofs.YtfdhdkljpeohlaaGreatDoor


namespace Go.Proofs.YtfdhdkljpeohlaaGreatDoor
set_option linter.unusedSimpArgs false
set_option linter.unusedVariables false
set_option linter.unusedSimpArgs false
set_option linter.unusedVariables false
set_option linter.defProp false
set_option maxRecDepth 20000
open Go.RowKit

theorem sh_bytK {d : Nat} {ds : List DC} (h : Sh Tryz.prog (d + 1) 5 ds) : ∃ z, ds = bytK z ∧ True := by
  unfold Sh at h
  rw [Tryz.underlying5] at h
  obtain ⟨n, rfl, hw⟩ := h
  have hz' : 0 ≤ n ∧ n ≤ 255 := by simpa [Lit.wf, IntKind.min, IntKind.max, IntKind.bits, IntKind.signed] using hw
  refine ⟨UInt8.ofNat n.toNat, ?_, trivial⟩
  simp only [bytK]
  have : ((UInt8.ofNat n.toNat).toNat : Int) = n := by simp; omega
  rw [this]

theorem sh_slice {d t e : Nat} {ds : List DC} (ht : Tryz.prog.underlying t = some (.slice e)) (h : Sh Tryz.prog (d + 1) t ds) :
    ∃ es : List (List DC), ds = [.sl e (Tryz.prog.cellsOf e) es] ∧ es.length ≤ maxLen ∧ ∀ el ∈ es, Sh Tryz.prog d e el := by
  unfold Sh at h
  rw [ht] at h
  exact h

theorem list_of {α : Type} {k : α → List DC} {R : α → Prop} : ∀ {es : List (List DC)}, (∀ el ∈ es, ∃ y, el = k y ∧ R y) → ∃ l : List α, es = l.map k ∧ ∀ y ∈ l, R y
  | [], _ => ⟨[], rfl, fun y hy => (by cases hy)⟩
  | e :: es, h => by
    obtain ⟨y, hy, hR⟩ := h e (by simp)
    obtain ⟨l, hl, hl2⟩ := list_of (es := es) fun el he => h el (by simp [he])
    refine ⟨y :: l, by rw [hy, hl]; rfl, fun z hz => ?_⟩
    rcases List.mem_cons.1 hz with rfl | hz
    · exact hR
    · exact hl2 z hz

theorem one_arg {w : World} {F : Nat → Prop} {d : DC} {us : List Value} (h : All2 (Rd w F) [d] us) : ∃ u, us = [u] ∧ Rd w F d u := by
  match us, h with
  | [u], h => exact ⟨u, rfl, h.1⟩

end Go.Proofs.YtfdhdkljpeohlaaGreatDoor


namespace Go.Proofs.YtfdhdkljpeohlaaGreatDoor
set_option linter.unusedSimpArgs false
set_option linter.unusedVariables false
set_option linter.unusedSimpArgs false
set_option linter.unusedVariables false
set_option linter.defProp false
open Go.RowKit

/-- A row of which only the first elements are looked at from now on. -/
theorem wk_cut {n0 : Nat} {sl : List SV} {H : Heap} {nx g T : Nat} {es : List (List DC)} (n : Nat) (hg : hget H g = some (.row T es)) : Wk n0 (sl, H, nx) (sl, hput H g (some (.row T (es.take n))), nx) := by
  rintro X a w _ ⟨V, ρ, hV, hn0, hst⟩
  obtain ⟨hVg, hrow, hsg⟩ := hst.mem.dom g _ hg
  have hro : Holds V ρ w (ρ g) (.row T (es.take n)) := by
    obtain ⟨h0, h1, h2, h3, h4, h5, h6⟩ := hrow
    have hle : (es.take n).length ≤ es.length := by rw [List.length_take]; omega
    refine ⟨h0, h1, by omega, fun e he => h3 e (List.mem_of_mem_take he), fun e he => h4 e (List.mem_of_mem_take he), h5, fun b hb => ?_⟩
    obtain ⟨h7, cur, h8, h9, h10⟩ := h6 b hb
    refine ⟨h7, cur, h8, h9, ?_⟩
    have e1 : flatE es = flatE (es.take n) ++ flatE (es.drop n) := by
      unfold flatE
      rw [← List.flatMap_append, List.take_append_drop]
    have e2 : (flatE (es.take n)).length = (es.take n).length * (ρ g).sz := flatE_len fun e he => h3 e (List.mem_of_mem_take he)
    have e3 := congrArg (List.take ((es.take n).length * (ρ g).sz)) h10
    rw [List.take_take, Nat.min_eq_left (Nat.mul_le_mul_right _ hle), e1, List.take_left' e2] at e3
    exact e3
  have hH : ∀ k, hget (hput H g (some (.row T (es.take n)))) k = if k = g then some (.row T (es.take n)) else hget H k := hget_hput H g _
  refine ⟨V, ρ, hV, hn0, ⟨hst.slots, hst.defers, ⟨fun k blk hb => ?_, fun k k' blk blk' hkk hb hb' b hF hF' => ?_⟩, fun k blk hb b hF => ?_, fun k blk hb b hF => ?_, hst.os, hst.tape, hst.output, hst.size, hst.block, hst.le⟩⟩
  · rw [hH] at hb
    split at hb
    · rename_i e; subst e; cases hb
      exact ⟨hVg, hro, hsg⟩
    · exact hst.mem.dom k blk hb
  · rw [hH] at hb hb'
    split at hb
    · rename_i e; subst e; cases hb
      split at hb'
      · rename_i e'; exact absurd e'.symm hkk
      · exact hst.mem.sep k k' (.row T es) _ hkk hg hb' b hF hF'
    · split at hb'
      · rename_i e; subst e
        exact hst.mem.sep k k' _ _ hkk hb hg b hF hF'
      · exact hst.mem.sep k k' _ _ hkk hb hb' b hF hF'
  · rw [hH] at hb
    split at hb
    · rename_i e; subst e; cases hb
      exact hst.base k (.row T es) hg b hF
    · exact hst.base k blk hb b hF
  · rw [hH] at hb
    split at hb
    · rename_i e; subst e
      exact hst.foot k _ hg b hF
    · exact hst.foot k blk hb b hF

theorem tw_lt {α : Type} {p : α → Bool} : ∀ {l : List α} {j : Nat}, j < (l.takeWhile p).length → ∃ h : j < l.length, p l[j] = true
  | [], j, h => by simp at h
  | x :: l, j, h => by
    rw [List.takeWhile_cons] at h
    split at h
    · rename_i hp
      cases j with
      | zero => exact ⟨by simp, hp⟩
      | succ j =>
        obtain ⟨q1, q2⟩ := tw_lt (l := l) (j := j) (by simpa using h)
        exact ⟨by simpa using q1, q2⟩
    · simp at h
theorem tw_end {α : Type} {p : α → Bool} : ∀ {l : List α} (h : (l.takeWhile p).length < l.length), p l[(l.takeWhile p).length] = false
  | [], h => by simp at h
  | x :: l, h => by
    by_cases hp : p x = true
    · have e : ((x :: l).takeWhile p).length = (l.takeWhile p).length + 1 := by rw [List.takeWhile_cons, if_pos hp]; rfl
      simp only [e] at h ⊢
      exact tw_end (l := l) (by simpa using h)
    · have e : ((x :: l).takeWhile p).length = 0 := by rw [List.takeWhile_cons, if_neg hp]; rfl
      simp only [e, List.getElem_cons_zero]
      simpa using hp

theorem lit0 {K : IntKind} {P : Nat → Prop} : (∃ x : Nat, (∃ k, SV.c (CV.v (Value.int K 0)) = SV.c (CV.v (Value.int k (x : Int)))) ∧ P x) ↔ P 0 := by
  constructor
  · rintro ⟨x, ⟨k, h⟩, hp⟩
    have : (0 : Int) = (x : Int) := by injection h with h; injection h with h; injection h
    obtain rfl : x = 0 := by omega
    exact hp
  · intro h; exact ⟨0, ⟨K, rfl⟩, h⟩
theorem litI {K : IntKind} {m : Nat} {P : Nat → Prop} : (∃ x : Nat, (∃ k, SV.c (CV.v (Value.int K (OfNat.ofNat m))) = SV.c (CV.v (Value.int k (x : Int)))) ∧ P x) ↔ P (OfNat.ofNat m) := by
  constructor
  · rintro ⟨x, ⟨k, h⟩, hp⟩
    have h2 : ((m : Nat) : Int) = (x : Int) := by injection h with h; injection h with h; injection h
    obtain rfl : x = m := by omega
    exact hp
  · intro h; exact ⟨m, ⟨K, rfl⟩, h⟩
theorem litN {K : IntKind} {m : Nat} {P : Nat → Prop} : (∃ x : Nat, (∃ k, SV.c (CV.v (Value.int K (m : Int))) = SV.c (CV.v (Value.int k (x : Int)))) ∧ P x) ↔ P m := by
  constructor
  · rintro ⟨x, ⟨k, h⟩, hp⟩
    have h2 : ((m : Nat) : Int) = (x : Int) := by injection h with h; injection h with h; injection h
    obtain rfl : x = m := by omega
    exact hp
  · intro h; exact ⟨m, ⟨K, rfl⟩, h⟩

end Go.Proofs.YtfdhdkljpeohlaaGreatDoor

