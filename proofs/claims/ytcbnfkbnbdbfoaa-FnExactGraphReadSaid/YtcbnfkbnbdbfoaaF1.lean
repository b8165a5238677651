/-
  Numbers in six bytes: plain laws. No conditions of its own.
-/
import Derived.Test.YtcbnfkbnbdbfoaaCP
namespace Go.Proofs.Ytcbnfkbnbdbfoaa
set_option linter.unusedSimpArgs false
set_option linter.unusedVariables false
set_option linter.unusedSimpArgs false
set_option linter.unusedVariables false
set_option linter.defProp false
open Go.RowKit

/-- The first j of the six bytes of a number, the highest first. -/
def fixT (n j : Nat) : List UInt8 := (List.range j).map fun i => UInt8.ofNat (n / 256 ^ (5 - i))
def fixB (n : Nat) : List UInt8 := fixT n 6
theorem fixT_zero (n : Nat) : fixT n 0 = [] := rfl
theorem fixT_succ (n j : Nat) : fixT n (j + 1) = fixT n j ++ [UInt8.ofNat (n / 256 ^ (5 - j))] := by
  unfold fixT
  rw [List.range_succ, List.map_append]
  rfl
theorem fixT_len (n j : Nat) : (fixT n j).length = j := by unfold fixT; simp
theorem fixB_len (n : Nat) : (fixB n).length = 6 := fixT_len n 6

/-- The number that bytes stand for, the highest first. -/
def getB (l : List UInt8) : Nat := l.foldl (fun n x => n * 256 + x.toNat) 0
theorem getB_snoc (l : List UInt8) (x : UInt8) : getB (l ++ [x]) = getB l * 256 + x.toNat := by
  unfold getB
  rw [List.foldl_append]
  rfl
/-- The first k bytes from place p on. -/
def gf (b : List UInt8) (p k : Nat) : Nat := getB ((b.drop p).take k)
theorem gf_zero (b : List UInt8) (p : Nat) : gf b p 0 = 0 := rfl
theorem gf_succ {b : List UInt8} {p k : Nat} (h : p + k < b.length) : gf b p (k + 1) = gf b p k * 256 + b[p + k].toNat := by
  have hk : k < (b.drop p).length := by rw [List.length_drop]; omega
  have e : (b.drop p)[k] = b[p + k] := by rw [List.getElem_drop]
  unfold gf
  rw [List.take_succ_eq_append_getElem hk, getB_snoc, e]
theorem gf_lt {b : List UInt8} {p : Nat} : ∀ {k : Nat}, p + k ≤ b.length → gf b p k < 256 ^ k
  | 0, _ => by rw [gf_zero]; simp
  | k + 1, h => by
    have ih := gf_lt (b := b) (p := p) (k := k) (by omega)
    have hx := (b[p + k]'(by omega)).toNat_lt
    rw [gf_succ (by omega), Nat.pow_succ]
    omega
theorem gf_max {b : List UInt8} {p k : Nat} (hk : k ≤ 6) (h : p + k ≤ b.length) : gf b p k ≤ 281474976710655 := by
  have h1 := gf_lt h
  have h2 : 256 ^ k ≤ 256 ^ 6 := Nat.pow_le_pow_right (by decide) hk
  omega

theorem getB6 (a b c d e f : UInt8) : fixB (getB [a, b, c, d, e, f]) = [a, b, c, d, e, f] := by
  have h1 := a.toNat_lt; have h2 := b.toNat_lt; have h3 := c.toNat_lt; have h4 := d.toNat_lt; have h5 := e.toNat_lt; have h6 := f.toNat_lt
  have q : ∀ (x : UInt8) (n : Nat), n % 256 = x.toNat → UInt8.ofNat n = x := fun x n h => by
    apply UInt8.toNat_inj.1
    rw [UInt8.toNat_ofNat']
    exact h
  unfold fixB fixT getB
  simp only [List.foldl_cons, List.foldl_nil]
  show [UInt8.ofNat (_ / 256 ^ 5), UInt8.ofNat (_ / 256 ^ 4), UInt8.ofNat (_ / 256 ^ 3), UInt8.ofNat (_ / 256 ^ 2), UInt8.ofNat (_ / 256 ^ 1), UInt8.ofNat (_ / 256 ^ 0)] = _
  rw [q a _ (by omega), q b _ (by omega), q c _ (by omega), q d _ (by omega), q e _ (by omega), q f _ (by omega)]
theorem fixB_getB {l : List UInt8} (h : l.length = 6) : fixB (getB l) = l := by
  match l, h with
  | [a, b, c, d, e, f], _ => exact getB6 a b c d e f
theorem fixB_gf {b : List UInt8} {p : Nat} (h : p + 6 ≤ b.length) : fixB (gf b p 6) = (b.drop p).take 6 := fixB_getB (by rw [List.length_take, List.length_drop]; omega)
theorem getB_fixB {n : Nat} (h : n ≤ 281474976710655) : getB (fixB n) = n := by
  have q : ∀ n : Nat, (UInt8.ofNat n).toNat = n % 256 := fun n => UInt8.toNat_ofNat' ..
  show ((((((0 * 256 + (UInt8.ofNat (n / 256 ^ 5)).toNat) * 256 + (UInt8.ofNat (n / 256 ^ 4)).toNat) * 256 + (UInt8.ofNat (n / 256 ^ 3)).toNat) * 256 + (UInt8.ofNat (n / 256 ^ 2)).toNat) * 256 + (UInt8.ofNat (n / 256 ^ 1)).toNat) * 256 + (UInt8.ofNat (n / 256 ^ 0)).toNat) = n
  rw [q, q, q, q, q, q]
  omega
theorem fixB_inj {n m : Nat} (hn : n ≤ 281474976710655) (hm : m ≤ 281474976710655) (h : fixB n = fixB m) : n = m := by
  rw [← getB_fixB hn, h, getB_fixB hm]

theorem pow8 {k : Nat} (h : k < 6) : (2 : Int) ^ (8 * k) = ((256 ^ k : Nat) : Int) := by
  rcases (by omega : k = 0 ∨ k = 1 ∨ k = 2 ∨ k = 3 ∨ k = 4 ∨ k = 5) with rfl | rfl | rfl | rfl | rfl | rfl <;> rfl
theorem fix_shr (n : Nat) {j : Nat} (h : j < 6) : IntKind.u8.wrap ((n : Int).fdiv (2 ^ (min (8 * (5 - (j : Int))).toNat IntKind.i64.bits))) = ((UInt8.ofNat (n / 256 ^ (5 - j))).toNat : Int) := by
  have h1 : (8 * (5 - (j : Int))).toNat = 8 * (5 - j) := by omega
  have h2 : min (8 * (5 - j)) IntKind.i64.bits = 8 * (5 - j) := Nat.min_eq_left (by have : IntKind.i64.bits = 64 := rfl; omega)
  rw [h1, h2, pow8 (by omega), Int.fdiv_eq_ediv_of_nonneg _ (Int.natCast_nonneg _), IntKind.wrap_u8, UInt8.toNat_ofNat']
  rfl
theorem fix_byte (n k : Nat) : IntKind.u8.wrap (((n / 256 ^ k : Nat) : Int) % 256) = ((UInt8.ofNat (n / 256 ^ k)).toNat : Int) := by
  rw [IntWalk.u8_in _ ⟨by omega, by omega⟩, UInt8.toNat_ofNat']
  omega
theorem fix_or (n x : Nat) (hn : n ≤ 1099511627776) (hx : x < 256) : bits .or .i64 ((n : Int) * 256) (x : Int) = ((n * 256 + x : Nat) : Int) := by
  have h0 : n * 256 ||| x = n * 256 + x := by
    have := Nat.shiftLeft_add_eq_or_of_lt (i := 8) (b := x) (by omega) n
    rw [Nat.shiftLeft_eq] at this
    exact this.symm
  have e : ((n : Int) * 256) = ((n * 256 : Nat) : Int) := by omega
  rw [e]
  have h1 : (BitVec.ofInt 64 ((n * 256 : Nat) : Int)).toNat = n * 256 := by
    rw [BitVec.ofInt_natCast, BitVec.toNat_ofNat]; exact Nat.mod_eq_of_lt (by omega)
  have h2 : (BitVec.ofInt 64 (x : Int)).toNat = x := by
    rw [BitVec.ofInt_natCast, BitVec.toNat_ofNat]; exact Nat.mod_eq_of_lt (by omega)
  show IntKind.i64.wrap ((BitVec.ofInt 64 ((n * 256 : Nat) : Int) ||| BitVec.ofInt 64 (x : Int)).toNat : Int) = _
  rw [BitVec.toNat_or, h1, h2, h0, IntKind.wrap_i64]
  omega

/-- Encoded frames. -/
def hdB (k : Nat) (d : List UInt8) : List UInt8 := [71, UInt8.ofNat k] ++ fixB d.length
def h2B (k : Nat) (d : List UInt8) : List UInt8 := hdB k d ++ fixB (crcN (hdB k d))
def h3B (k : Nat) (d : List UInt8) : List UInt8 := h2B k d ++ fixB (crcN d)
def fbL (k : Nat) (d : List UInt8) : List UInt8 := h3B k d ++ d
theorem hdB_len (k : Nat) (d : List UInt8) : (hdB k d).length = 8 := by unfold hdB; rw [List.length_append, fixB_len]; rfl
theorem h2B_len (k : Nat) (d : List UInt8) : (h2B k d).length = 14 := by unfold h2B; rw [List.length_append, hdB_len, fixB_len]
theorem h3B_len (k : Nat) (d : List UInt8) : (h3B k d).length = 20 := by unfold h3B; rw [List.length_append, h2B_len, fixB_len]
theorem fbL_len (k : Nat) (d : List UInt8) : (fbL k d).length = 20 + d.length := by unfold fbL; rw [List.length_append, h3B_len]

end Go.Proofs.Ytcbnfkbnbdbfoaa
