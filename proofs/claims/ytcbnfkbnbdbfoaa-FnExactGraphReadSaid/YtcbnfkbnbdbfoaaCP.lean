/-
  Plain: the check sum; it tells two lists apart that differ in one place. No conditions of its own.
-/
import Derived.Test.YtcbnfkbnbdbfoaaS1
namespace Go.Proofs.Ytcbnfkbnbdbfoaa
set_option linter.unusedSimpArgs false
set_option linter.unusedVariables false
set_option linter.unusedSimpArgs false
set_option linter.unusedVariables false
set_option linter.defProp false
open Go.RowKit

/-- One bit of the check sum, one byte, all. -/
def crcBit (r : Nat) : Nat := if r % 2 = 1 then (r / 2) ^^^ 3988292384 else r / 2
def crcBits : Nat → Nat → Nat
  | 0, r => r
  | k + 1, r => crcBit (crcBits k r)
def crcRun (l : List UInt8) (r : Nat) : Nat := l.foldl (fun r x => crcBits 8 (r ^^^ x.toNat)) r
def crcN (l : List UInt8) : Nat := crcRun l 4294967295 ^^^ 4294967295

theorem xor_lt32 {a b : Nat} (ha : a < 4294967296) (hb : b < 4294967296) : a ^^^ b < 4294967296 := Nat.xor_lt_two_pow (n := 32) (by omega) (by omega)

theorem crcBit_lt {r : Nat} (h : r < 4294967296) : crcBit r < 4294967296 := by
  unfold crcBit
  split
  · exact xor_lt32 (by omega) (by omega)
  · omega

theorem crcBits_lt {r : Nat} (h : r < 4294967296) : ∀ k, crcBits k r < 4294967296
  | 0 => h
  | k + 1 => crcBit_lt (crcBits_lt h k)

theorem crcRun_lt : ∀ (l : List UInt8) (r : Nat), r < 4294967296 → crcRun l r < 4294967296
  | [], _, h => h
  | x :: l, r, h => crcRun_lt l _ (crcBits_lt (xor_lt32 h (by have := x.toNat_lt; omega)) 8)

theorem crcRun_snoc (l : List UInt8) (k : Nat) (h : k < l.length) (r : Nat) : crcRun (l.take (k + 1)) r = crcBits 8 (crcRun (l.take k) r ^^^ l[k].toNat) := by
  rw [List.take_succ_eq_append_getElem h]
  unfold crcRun
  rw [List.foldl_append]
  rfl

theorem i64_xor_nat (a b : Nat) (ha : a < 4294967296) (hb : b < 4294967296) : bits .xor .i64 (a : Int) (b : Int) = ((a ^^^ b : Nat) : Int) := by
  have hx : a ^^^ b < 4294967296 := xor_lt32 ha hb
  have h1 : (BitVec.ofInt 64 (a : Int)).toNat = a := by
    rw [BitVec.ofInt_natCast, BitVec.toNat_ofNat]; exact Nat.mod_eq_of_lt (by omega)
  have h2 : (BitVec.ofInt 64 (b : Int)).toNat = b := by
    rw [BitVec.ofInt_natCast, BitVec.toNat_ofNat]; exact Nat.mod_eq_of_lt (by omega)
  show IntKind.i64.wrap ((BitVec.ofInt 64 (a : Int) ^^^ BitVec.ofInt 64 (b : Int)).toNat : Int) = _
  rw [BitVec.toNat_xor, h1, h2, IntKind.wrap_i64]
  omega

theorem xor_cancel {a b c : Nat} (h : a ^^^ c = b ^^^ c) : a = b := by
  have := congrArg (· ^^^ c) h
  simpa [Nat.xor_assoc] using this

theorem crcBit_top {r : Nat} (h : r < 4294967296) : (crcBit r).testBit 31 = decide (r % 2 = 1) := by
  have h1 : (r / 2).testBit 31 = false := Nat.testBit_lt_two_pow (by omega)
  unfold crcBit
  split
  · rename_i hr
    rw [Nat.testBit_xor, h1, hr]; rfl
  · rename_i hr
    rw [h1]; simp [hr]

theorem crcBit_inj {r s : Nat} (hr : r < 4294967296) (hs : s < 4294967296) (h : crcBit r = crcBit s) : r = s := by
  have ht := congrArg (Nat.testBit · 31) h
  simp only [crcBit_top hr, crcBit_top hs] at ht
  by_cases h1 : r % 2 = 1
  · have h2 : s % 2 = 1 := by simpa [h1] using ht
    unfold crcBit at h
    rw [if_pos h1, if_pos h2] at h
    have := xor_cancel h
    omega
  · have h2 : ¬ s % 2 = 1 := by simpa [h1] using ht
    unfold crcBit at h
    rw [if_neg h1, if_neg h2] at h
    omega

theorem crcBits_inj {r s : Nat} (hr : r < 4294967296) (hs : s < 4294967296) : ∀ k, crcBits k r = crcBits k s → r = s
  | 0, h => h
  | k + 1, h => crcBits_inj hr hs k (crcBit_inj (crcBits_lt hr k) (crcBits_lt hs k) h)

theorem crcRun_inj : ∀ (l : List UInt8) {r s : Nat}, r < 4294967296 → s < 4294967296 → crcRun l r = crcRun l s → r = s
  | [], _, _, _, _, h => h
  | x :: l, r, s, hr, hs, h => by
    have hx := x.toNat_lt
    have h1 := xor_lt32 hr (show x.toNat < 4294967296 by omega)
    have h2 := xor_lt32 hs (show x.toNat < 4294967296 by omega)
    exact xor_cancel (crcBits_inj h1 h2 8 (crcRun_inj l (crcBits_lt h1 8) (crcBits_lt h2 8) h))

theorem crcRun_append (l m : List UInt8) (r : Nat) : crcRun (l ++ m) r = crcRun m (crcRun l r) := List.foldl_append

theorem crcN_set {p l : List UInt8} {i : Nat} (hi : i < l.length) {x y : UInt8} (h : crcN (p ++ l.set i x) = crcN (p ++ l.set i y)) : x = y := by
  have h1 := xor_cancel h
  rw [List.set_eq_take_append_cons_drop, List.set_eq_take_append_cons_drop, if_pos hi, if_pos hi, crcRun_append, crcRun_append, crcRun_append, crcRun_append] at h1
  have hr := crcRun_lt (l.take i) _ (crcRun_lt p 4294967295 (by omega))
  have hx := x.toNat_lt
  have hy := y.toNat_lt
  have g1 := xor_lt32 hr (show x.toNat < 4294967296 by omega)
  have g2 := xor_lt32 hr (show y.toNat < 4294967296 by omega)
  have h2 := crcBits_inj g1 g2 8 (crcRun_inj (l.drop (i + 1)) (crcBits_lt g1 8) (crcBits_lt g2 8) h1)
  rw [Nat.xor_comm, Nat.xor_comm _ y.toNat] at h2
  exact UInt8.toNat_inj.1 (xor_cancel h2)

end Go.Proofs.Ytcbnfkbnbdbfoaa
