/-
  Plain laws on sets of vertices. No conditions of its own.
-/
import Derived.Test.YtfkpmhnfpljakaaBase
namespace Go.Proofs.Ytfkpmhnfpljakaa
set_option linter.unusedSimpArgs false
set_option linter.unusedVariables false
set_option linter.unusedSimpArgs false
set_option linter.unusedVariables false
set_option linter.defProp false
open Go.RowKit

/-- Is the bit v set? -/
def bitAt (l : List UInt8) (v : Nat) : Bool := decide ((l.getD (v / 8) 0).toNat / 2 ^ (v % 8) % 2 = 1)
def setOk (n : Int) (l : List UInt8) : Bool := decide (0 ≤ n ∧ n ≤ 150 ∧ l.length = (n.toNat + 7) / 8 ∧ ∀ v, v < 8 * l.length → n.toNat ≤ v → bitAt l v = false)

theorem pow_le (k : Nat) (h : k ≤ 7) : 2 ^ k ≤ 128 := Nat.le_trans (Nat.pow_le_pow_right (by omega) h) (by decide)

def bitW (v : Nat) : Int := ((2 ^ (v % 8) : Nat) : Int)
theorem bitW_le (v : Nat) : 1 ≤ bitW v ∧ bitW v ≤ 128 := by
  have h := pow_le (v % 8) (by omega)
  have h' : 0 < 2 ^ (v % 8) := Nat.two_pow_pos _
  unfold bitW
  exact ⟨by omega, by omega⟩

theorem bit_val (x : UInt8) (k : Nat) : (bits BinOp.and IntKind.u8 ((x.toNat : Int) / 2 ^ k) 1 == 1) = decide (x.toNat / 2 ^ k % 2 = 1) := by
  have hx := x.toNat_lt
  have h1 : x.toNat / 2 ^ k < 256 := Nat.lt_of_le_of_lt (Nat.div_le_self _ _) (by omega)
  have h2 : ((x.toNat : Int) / 2 ^ k) = ((x.toNat / 2 ^ k : Nat) : Int) := by push_cast; rfl
  have h3 := u8_and_nat (x.toNat / 2 ^ k) 1 h1 (by omega)
  rw [h2, show (1 : Int) = ((1 : Nat) : Int) from rfl, h3, Nat.and_one_is_mod, Bool.eq_iff_iff]
  simp
  omega

/-- The reference's test of a bit. -/
theorem bit_quo (l : List UInt8) (v : Nat) (hv : v / 8 < l.length) : (((l[v / 8].toNat : Int) / bitW v) % 2 == 1) = bitAt l v := by
  unfold bitAt bitW
  rw [Bool.eq_iff_iff]
  simp [List.getD, hv]
  have : ((l[v / 8].toNat : Int) / 2 ^ (v % 8)) = ((l[v / 8].toNat / 2 ^ (v % 8) : Nat) : Int) := by push_cast; rfl
  rw [this]
  omega

theorem bit_spec (l : List UInt8) (v : Nat) (hv : v / 8 < l.length) : ((wrap64 ((l[v / 8].toNat : Int) / bitW v)).tmod 2 == 1) = bitAt l v := by
  rw [← bit_quo l v hv]
  have hx := l[v / 8].toNat_lt
  obtain ⟨h1, h2⟩ := bitW_le v
  have h3 : 0 ≤ (l[v / 8].toNat : Int) / bitW v := Int.ediv_nonneg (by omega) (by omega)
  have h4 : (l[v / 8].toNat : Int) / bitW v ≤ (l[v / 8].toNat : Int) := Int.ediv_le_self _ (by omega)
  have h5 : wrap64 ((l[v / 8].toNat : Int) / bitW v) = (l[v / 8].toNat : Int) / bitW v := by unfold wrap64; omega
  rw [h5, Int.tmod_eq_emod_of_nonneg h3]

end Go.Proofs.Ytfkpmhnfpljakaa
