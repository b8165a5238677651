/-
  Contracts of Crc, the program's and the reference's.
-/
import Derived.Test.YtjejhdogbhdgoaaSl
namespace Go.Proofs.Ytjejhdogbhdgoaa
set_option linter.unusedSimpArgs false
set_option linter.unusedVariables false
open Go.RowKit

/-- One bit of the check sum, one byte, all. -/
def crcBit (r : Nat) : Nat := if r % 2 = 1 then (r / 2) ^^^ 3988292384 else r / 2
def crcBits : Nat → Nat → Nat
  | 0, r => r
  | k + 1, r => crcBit (crcBits k r)
def crcRun (l : List UInt8) (r : Nat) : Nat := l.foldl (fun r x => crcBits 8 (r ^^^ x.toNat)) r
def crcN (l : List UInt8) : Nat := crcRun l 4294967295 ^^^ 4294967295

theorem xor_lt32 {a b : Nat} (ha : a < 4294967296) (hb : b < 4294967296) : a ^^^ b < 4294967296 := Nat.xor_lt_two_pow (n := 32) (by omega) (by omega)

theorem crcBit_lt {r : Nat} (h : r < 4294967296) : crcBit r < 4294967296 := by
  unfold crcBit
  split
  · exact xor_lt32 (by omega) (by omega)
  · omega

theorem crcBits_lt {r : Nat} (h : r < 4294967296) : ∀ k, crcBits k r < 4294967296
  | 0 => h
  | k + 1 => crcBit_lt (crcBits_lt h k)

theorem crcRun_lt : ∀ (l : List UInt8) (r : Nat), r < 4294967296 → crcRun l r < 4294967296
  | [], _, h => h
  | x :: l, r, h => crcRun_lt l _ (crcBits_lt (xor_lt32 h (by have := x.toNat_lt; omega)) 8)

theorem crcRun_snoc (l : List UInt8) (k : Nat) (h : k < l.length) (r : Nat) : crcRun (l.take (k + 1)) r = crcBits 8 (crcRun (l.take k) r ^^^ l[k].toNat) := by
  rw [List.take_succ_eq_append_getElem h]
  unfold crcRun
  rw [List.foldl_append]
  rfl

theorem i64_xor_nat (a b : Nat) (ha : a < 4294967296) (hb : b < 4294967296) : bits .xor .i64 (a : Int) (b : Int) = ((a ^^^ b : Nat) : Int) := by
  have hx : a ^^^ b < 4294967296 := xor_lt32 ha hb
  have h1 : (BitVec.ofInt 64 (a : Int)).toNat = a := by
    rw [BitVec.ofInt_natCast, BitVec.toNat_ofNat]; exact Nat.mod_eq_of_lt (by omega)
  have h2 : (BitVec.ofInt 64 (b : Int)).toNat = b := by
    rw [BitVec.ofInt_natCast, BitVec.toNat_ofNat]; exact Nat.mod_eq_of_lt (by omega)
  show IntKind.i64.wrap ((BitVec.ofInt 64 (a : Int) ^^^ BitVec.ofInt 64 (b : Int)).toNat : Int) = _
  rw [BitVec.toNat_xor, h1, h2, IntKind.wrap_i64]
  omega

/-- The constants, out of the walk's sight. -/
def poly : Int := 3988292384
def ones : Int := 4294967295

set_option maxHeartbeats 1000000 in
theorem specCrc (S : Nat → Prop) (a : Option Addr) (cap : Nat) (l : List UInt8) (w : World) (h : Sl bC S w a cap l) (hl : l.length ≤ 1099511627776) :
    Calls Try.prog 64 #[.slice a l.length cap] w fun r w' => r = .returned (.int .i64 (crcN l : Nat)) ∧ w = w' := by
  go_enter Try.func64, Try.ntmps64
  go_wp2
  go_loop [3, 4] (fun r i => ∃ k : Nat, k ≤ l.length ∧ i = .int .i64 k ∧ r = .int .i64 (crcRun (l.take k) 4294967295 : Nat)) (fun _ i => l.length - (intOf i).toNat)
  case atStart => exact ⟨0, Nat.zero_le _, rfl, rfl⟩
  case round =>
    obtain ⟨k, hk, rfl, rfl⟩ := hrel
    have hr := crcRun_lt (l.take k) 4294967295 (by omega)
    by_cases hlt : k < l.length
    · obtain ⟨b1, off1, rfl, hS, hbw, hcell⟩ := h.get (by omega)
      have g1 := hcell k hlt
      unfold bC at g1
      clear hcell
      have hx := l[k].toNat_lt
      have q5 : IntKind.i64.wrap (l[k].toNat : Int) = (l[k].toNat : Int) := IntWalk.i64_in _ (by omega)
      have HS := Lib.hid (crcRun_snoc l k hlt 4294967295)
      obtain ⟨r0, hr0⟩ : ∃ r0, r0 = crcRun (l.take k) 4294967295 := ⟨_, rfl⟩
      rw [← hr0] at hr ⊢
      have HR := Lib.hid hr0
      clear hr0
      have q6 := i64_xor_nat r0 l[k].toNat hr (by omega)
      have hy : r0 ^^^ l[k].toNat < 4294967296 := xor_lt32 hr (by omega)
      go_wp2
      go_loop [3, 5] (fun r i => ∃ j : Nat, j ≤ 8 ∧ i = .int .i64 j ∧ r = .int .i64 (crcBits j (r0 ^^^ l[k].toNat) : Nat)) (fun _ i => 8 - (intOf i).toNat)
      case atStart => exact ⟨0, Nat.zero_le _, rfl, rfl⟩
      case round =>
        obtain ⟨j, hj, rfl, rfl⟩ := hrel
        have hrj := crcBits_lt hy j
        obtain ⟨r1, hr1⟩ : ∃ r1, r1 = crcBits j (r0 ^^^ l[k].toNat) := ⟨_, rfl⟩
        rw [← hr1] at hrj ⊢
        have HR1 := Lib.hid hr1
        clear hr1
        by_cases hj8 : j < 8
        · have q7 := i64_xor_nat (r1 / 2) 3988292384 (by omega) (by omega)
          by_cases hodd : r1 % 2 = 1
          · have hodd' : ((r1 : Int) % 2 == 1) = true := by rw [beq_iff_eq]; omega
            go_wp2
            go_round
            case rel => exact ⟨j + 1, by omega, by go_num, congrArg (Value.int .i64) ((show bits BinOp.xor IntKind.i64 ((r1 : Int) / 2) 3988292384 = _ from q7).trans (congrArg Nat.cast (by rw [crcBits, ← HR1.out, crcBit, if_pos hodd])))⟩
            case measure => simp [intOf]; omega
          · have hodd' : ((r1 : Int) % 2 == 1) = false := by rw [beq_eq_false_iff_ne]; omega
            go_wp2
            go_round
            case rel => exact ⟨j + 1, by omega, by go_num, congrArg (Value.int .i64) ((show (r1 : Int) / 2 = ((r1 / 2 : Nat) : Int) from by omega).trans (congrArg Nat.cast (by rw [crcBits, ← HR1.out, crcBit, if_neg hodd])))⟩
            case measure => simp [intOf]; omega
        · obtain rfl : j = 8 := by omega
          go_wp2
          go_round
          case rel => exact ⟨k + 1, by omega, by go_num, congrArg (Value.int .i64) (congrArg Nat.cast (by rw [HS.out, ← HR.out, HR1.out]))⟩
          case measure => simp [intOf]; omega
    · have hq := i64_xor_nat (crcRun (l.take k) 4294967295) 4294967295 hr (by omega)
      have HQ := Lib.hid hq
      clear hq
      go_wp2
      go_ret
      exact ⟨ret_int ((show _ = _ from HQ.out).trans (congrArg Nat.cast (by rw [List.take_of_length_le (by omega)]; rfl))), rfl⟩

set_option maxHeartbeats 1000000 in
theorem implCrc (S : Nat → Prop) (a : Option Addr) (cap : Nat) (l : List UInt8) (w : World) (h : Sl bC S w a cap l) (hl : l.length ≤ 1099511627776) :
    Calls Try.prog 65 #[.slice a l.length cap] w fun r w' => r = .returned (.int .i64 (crcN l : Nat)) ∧ w = w' := by
  go_enter Try.func65, Try.ntmps65
  go_wp2
  go_loop [3, 9] (fun r i => ∃ k : Nat, k ≤ l.length ∧ i = .int .i64 k ∧ r = .int .u32 (crcRun (l.take k) 4294967295 : Nat)) (fun _ i => l.length - (intOf i).toNat)
  case atStart => exact ⟨0, Nat.zero_le _, rfl, rfl⟩
  case round =>
    obtain ⟨k, hk, rfl, rfl⟩ := hrel
    have hr := crcRun_lt (l.take k) 4294967295 (by omega)
    by_cases hlt : k < l.length
    · obtain ⟨b1, off1, rfl, hS, hbw, hcell⟩ := h.get (by omega)
      have g1 := hcell k hlt
      unfold bC at g1
      clear hcell
      have hx := l[k].toNat_lt
      have HS := Lib.hid (crcRun_snoc l k hlt 4294967295)
      obtain ⟨r0, hr0⟩ : ∃ r0, r0 = crcRun (l.take k) 4294967295 := ⟨_, rfl⟩
      rw [← hr0] at hr ⊢
      have HR := Lib.hid hr0
      clear hr0
      have q6 := u32_xor_nat r0 l[k].toNat hr (by omega)
      have hy : r0 ^^^ l[k].toNat < 4294967296 := xor_lt32 hr (by omega)
      go_wp2
      go_loop [3, 17] (fun r i => ∃ j : Nat, j ≤ 8 ∧ i = .int .i64 j ∧ r = .int .u32 (crcBits j (r0 ^^^ l[k].toNat) : Nat)) (fun _ i => 8 - (intOf i).toNat)
      case atStart => exact ⟨0, Nat.zero_le _, rfl, rfl⟩
      case round =>
        obtain ⟨j, hj, rfl, rfl⟩ := hrel
        have hrj := crcBits_lt hy j
        obtain ⟨r1, hr1⟩ : ∃ r1, r1 = crcBits j (r0 ^^^ l[k].toNat) := ⟨_, rfl⟩
        rw [← hr1] at hrj ⊢
        have HR1 := Lib.hid hr1
        clear hr1
        by_cases hj8 : j < 8
        · have q7 := Lib.hid (u32_xor_nat (r1 / 2) 3988292384 (by omega) (by omega))
          have q8 : bits .and .u32 (r1 : Int) 1 = ((r1 % 2 : Nat) : Int) := by
            have := u32_and_nat r1 1 hrj (by omega)
            rwa [Nat.and_one_is_mod] at this
          by_cases hodd : r1 % 2 = 1
          · have hodd' : (((r1 % 2 : Nat) : Int) == 1) = true := by rw [beq_iff_eq]; omega
            go_wp2
            go_round
            case rel => exact ⟨j + 1, by omega, by go_num, congrArg (Value.int .u32) ((show bits BinOp.xor IntKind.u32 ((r1 : Int) / 2) 3988292384 = _ from q7.out).trans (congrArg Nat.cast (by rw [crcBits, ← HR1.out, crcBit, if_pos hodd])))⟩
            case measure => simp [intOf]; omega
          · have hodd' : (((r1 % 2 : Nat) : Int) == 1) = false := by rw [beq_eq_false_iff_ne]; omega
            go_wp2
            go_round
            case rel => exact ⟨j + 1, by omega, by go_num, congrArg (Value.int .u32) ((show (r1 : Int) / 2 = ((r1 / 2 : Nat) : Int) from by omega).trans (congrArg Nat.cast (by rw [crcBits, ← HR1.out, crcBit, if_neg hodd])))⟩
            case measure => simp [intOf]; omega
        · obtain rfl : j = 8 := by omega
          go_wp2
          go_round
          case rel => exact ⟨k + 1, by omega, by go_num, congrArg (Value.int .u32) (congrArg Nat.cast (by rw [HS.out, ← HR.out, HR1.out]))⟩
          case measure => simp [intOf]; omega
    · have hq := u32_xor_nat 4294967295 (crcRun (l.take k) 4294967295) (by omega) hr
      have HQ := Lib.hid hq
      clear hq
      go_wp2
      go_ret
      refine ⟨ret_int ?_, rfl⟩
      have e : bits BinOp.xor IntKind.u32 IntKind.u32.max ((crcRun (List.take k l) 4294967295 : Nat) : Int) = ((4294967295 ^^^ crcRun (l.take k) 4294967295 : Nat) : Int) := HQ.out
      have e2 : 4294967295 ^^^ crcRun (l.take k) 4294967295 < 4294967296 := xor_lt32 (by omega) hr
      show wrap64 (bits BinOp.xor IntKind.u32 IntKind.u32.max ((crcRun (List.take k l) 4294967295 : Nat) : Int)) = _
      rw [e, IntWalk.wrap64_in _ (by omega), Nat.xor_comm, List.take_of_length_le (by omega)]
      rfl

end Go.Proofs.Ytjejhdogbhdgoaa
