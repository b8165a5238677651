/-
  Numbers in digits of seven bits: plain laws. No conditions of its own.
-/
import Derived.Test.YtcbnfkbnbdbfoaaMC
namespace Go.Proofs.Ytcbnfkbnbdbfoaa
set_option linter.unusedSimpArgs false
set_option linter.unusedVariables false
set_option linter.unusedSimpArgs false
set_option linter.unusedVariables false
set_option linter.defProp false
open Go.RowKit

/-- A number in digits of seven bits, the lowest first. -/
def varB (n : Nat) : List UInt8 := if n < 128 then [UInt8.ofNat n] else UInt8.ofNat (n % 128 + 128) :: varB (n / 128)
termination_by n
decreasing_by omega

theorem varB_lt {n : Nat} (h : n < 128) : varB n = [UInt8.ofNat n] := by rw [varB, if_pos h]
theorem varB_ge {n : Nat} (h : ¬ n < 128) : varB n = UInt8.ofNat (n % 128 + 128) :: varB (n / 128) := by rw [varB, if_neg h]

theorem varB_len : ∀ (j n : Nat), n < 128 ^ (j + 1) → (varB n).length ≤ j + 1
  | 0, n, h => by rw [varB_lt (by simpa using h)]; simp
  | j + 1, n, h => by
    by_cases hn : n < 128
    · rw [varB_lt hn]; simp
    · rw [varB_ge hn, List.length_cons]
      have := varB_len j (n / 128) (by rw [Nat.pow_succ] at h; omega)
      omega

theorem varB_len7 {n : Nat} (h : n ≤ 281474976710655) : (varB n).length ≤ 7 := varB_len 6 n (by omega)

/-- The value of digits. -/
def digV : List UInt8 → Nat
  | [] => 0
  | x :: l => x.toNat % 128 + 128 * digV l

theorem digV_snoc (x : UInt8) : ∀ l : List UInt8, digV (l ++ [x]) = digV l + x.toNat % 128 * 128 ^ l.length
  | [] => by simp [digV]
  | y :: l => by
    have := digV_snoc x l
    simp only [List.cons_append, digV, List.length_cons, this, Nat.pow_succ]
    have e : x.toNat % 128 * (128 ^ l.length * 128) = 128 * (x.toNat % 128 * 128 ^ l.length) := by rw [Nat.mul_comm (128 ^ l.length) 128, Nat.mul_left_comm]
    rw [e, Nat.mul_add]
    omega

theorem u8_of {x : UInt8} {n : Nat} (h : x.toNat = n) : UInt8.ofNat n = x := by
  rw [← h]; exact UInt8.ofNat_toNat

/-- Digits as they may stand: all but the last bear the eighth bit. -/
def digW : List UInt8 → Prop
  | [] => False
  | [x] => x.toNat < 128
  | x :: y :: l => 128 ≤ x.toNat ∧ digW (y :: l)

theorem digV_zero : ∀ {l : List UInt8}, digW l → digV l = 0 → l.getLast? = some 0
  | [x], h, h0 => by
    have hx : x.toNat < 128 := h
    simp only [digV] at h0
    have : x.toNat = 0 := by omega
    have := u8_of this
    simp [← this]
  | x :: y :: l, h, h0 => by
    have h2 : digV (x :: y :: l) = x.toNat % 128 + 128 * digV (y :: l) := rfl
    have := digV_zero (l := y :: l) h.2 (by omega)
    rw [List.getLast?_cons_cons]
    exact this

/-- The digits are those that are written for their value, if the last is not a nought, or stands alone. -/
theorem varB_digV : ∀ {l : List UInt8}, digW l → (varB (digV l) = l ↔ (l.length = 1 ∨ l.getLast? ≠ some 0))
  | [x], h => by
    have hx : x.toNat < 128 := h
    have e : digV [x] = x.toNat := by simp only [digV]; omega
    rw [e, varB_lt hx, u8_of rfl]
    simp
  | x :: y :: l, h => by
    have hx : 128 ≤ x.toNat := h.1
    have hx2 := x.toNat_lt
    have ih := varB_digV (l := y :: l) h.2
    have e : digV (x :: y :: l) = x.toNat % 128 + 128 * digV (y :: l) := rfl
    rw [List.getLast?_cons_cons]
    by_cases h0 : digV (y :: l) = 0
    · have hl := digV_zero h.2 h0
      rw [e, h0, varB_lt (by omega)]
      constructor
      · intro h; simp at h
      · rintro (h | h)
        · simp at h
        · exact absurd hl h
    · rw [e, varB_ge (by omega)]
      have e1 : UInt8.ofNat ((x.toNat % 128 + 128 * digV (y :: l)) % 128 + 128) = x := u8_of (by omega)
      have e2 : (x.toNat % 128 + 128 * digV (y :: l)) / 128 = digV (y :: l) := by omega
      rw [e1, e2, List.cons.injEq]
      constructor
      · rintro ⟨_, h⟩
        rcases ih.1 h with h1 | h1
        · refine .inr fun hl => h0 ?_
          cases l with
          | nil =>
            simp at hl
            subst hl
            rfl
          | cons z l => simp at h1
        · exact .inr h1
      · rintro (h | h)
        · simp at h
        · exact ⟨rfl, ih.2 (.inr h)⟩

/-- Where a number's digits end. -/
def endI (d : List UInt8) : Option Nat := (List.range 7).find? fun k => decide (k < d.length ∧ (d.getD k 0).toNat < 128)

theorem endI_some {d : List UInt8} {k : Nat} (hk : k < 7) (hl : k < d.length) (hx : (d.getD k 0).toNat < 128) (hb : ∀ i, i < k → 128 ≤ (d.getD i 0).toNat) : endI d = some k := by
  unfold endI
  rw [List.find?_range_eq_some]
  refine ⟨by rw [decide_eq_true_eq]; exact ⟨hl, hx⟩, by simpa using hk, fun i hi => ?_⟩
  have := hb i hi
  rw [Bool.not_eq_true', decide_eq_false_iff_not]
  rintro ⟨_, h⟩
  omega

theorem endI_none {d : List UInt8} (hb : ∀ i, i < 7 → i < d.length → 128 ≤ (d.getD i 0).toNat) : endI d = none := by
  unfold endI
  rw [List.find?_eq_none]
  intro i hi
  rw [decide_eq_true_eq]
  rintro ⟨h1, h2⟩
  have := hb i (by simpa using hi) h1
  omega

/-- A number read: its value and how many digits it has. -/
def getD7 (d : List UInt8) : Option (Nat × Nat) :=
  match endI d with
  | none => none
  | some k => if (d.getD k 0 = 0 ∧ 0 < k) ∨ 281474976710655 < digV (d.take (k + 1)) then none else some (digV (d.take (k + 1)), k + 1)

end Go.Proofs.Ytcbnfkbnbdbfoaa
