/-
  Contracts of PutVar and putVar.
-/
import Derived.Test.YtjejhdogbhdgoaaSl
namespace Go.Proofs.Ytjejhdogbhdgoaa
set_option linter.unusedSimpArgs false
set_option linter.unusedVariables false
open Go.RowKit

/-- A number in digits of seven bits, the lowest first. -/
def varB (n : Nat) : List UInt8 := if n < 128 then [UInt8.ofNat n] else UInt8.ofNat (n % 128 + 128) :: varB (n / 128)
termination_by n
decreasing_by omega

theorem varB_lt {n : Nat} (h : n < 128) : varB n = [UInt8.ofNat n] := by rw [varB, if_pos h]
theorem varB_ge {n : Nat} (h : ¬ n < 128) : varB n = UInt8.ofNat (n % 128 + 128) :: varB (n / 128) := by rw [varB, if_neg h]

theorem varB_len : ∀ (j n : Nat), n < 128 ^ (j + 1) → (varB n).length ≤ j + 1
  | 0, n, h => by rw [varB_lt (by simpa using h)]; simp
  | j + 1, n, h => by
    by_cases hn : n < 128
    · rw [varB_lt hn]; simp
    · rw [varB_ge hn, List.length_cons]
      have := varB_len j (n / 128) (by rw [Nat.pow_succ] at h; omega)
      omega

theorem varB_len7 {n : Nat} (h : n ≤ 281474976710655) : (varB n).length ≤ 7 := varB_len 6 n (by omega)

theorem bC_one (x : UInt8) : (bC x).oneCell' = true := rfl
theorem iC_one (x : Int) : (iC x).oneCell' = true := rfl

set_option maxHeartbeats 1000000 in
set_option maxRecDepth 100000 in
theorem putVar_c (base : Nat) (a : Option Addr) (cap : Nat) (l : List UInt8) (n : Nat) (w : World) (h : Own bC 5 (base ≤ ·) w a cap l) (hl : l.length ≤ 1099511627776) (hn : n ≤ 281474976710655) (hb : base ≤ w.heap.size) :
    Calls Try.prog 66 #[.slice a l.length cap, .int .i64 (n : Int)] w fun r w' => ∃ a' cap', r = .returned (.slice a' (l ++ varB n).length cap') ∧ Own bC 5 (base ≤ ·) w' a' cap' (l ++ varB n) ∧ Below base w w' := by
  go_enter Try.func66, Try.ntmps66
  go_wp2
  go_loopw [0, 1] (fun s q wr => ∃ (m : Nat) (k : List UInt8) (a' : Option Addr) (cap' : Nat), s = .slice a' k.length cap' ∧ q = .int .i64 m ∧ m ≤ n ∧ Hid (k ++ varB m = l ++ varB n) ∧ Own bC 5 (base ≤ ·) wr a' cap' k ∧ Below base w wr)
    (fun _ q _ => (intOf q).toNat)
  case atStart => exact ⟨n, l, a, cap, rfl, rfl, Nat.le_refl _, Lib.hid rfl, h, Below.refl _ _⟩
  case round =>
    obtain ⟨m, k, a', cap', rfl, rfl, hm, HK, ho, hbl⟩ := hrel
    have hbs : base ≤ wr.heap.size := Nat.le_trans hb hbl.size
    have hkl : k.length ≤ l.length + 7 := by
      have h1 := congrArg List.length HK.out
      have h2 := varB_len7 hn
      simp only [List.length_append] at h1
      omega
    have hmb : m ≤ 281474976710655 := by omega
    by_cases hlt : m < 128
    · go_wp2_with (at_builtin; go_must (refine wpList_push rfl _ _ 40 rfl base 5 _ _ Try.underlying40 infoU8 rfl a' cap' k rfl (ho.alloc _) wr.heap.size 1 (UInt8.ofNat m) rfl (by simp [go_sem, bC]; try omega) bC_one (by omega) (by unfold maxLen; omega) (by unfold maxLen; omega) (by omega) (by first | omega | (simp only [World.size_alloc, size_setCell, size_drew, size_drewN]; omega)) ?_; intro a2 c2 w2 ho2 hg2))
      go_ret
      have e : k ++ [UInt8.ofNat m] = l ++ varB n := by rw [← HK.out, varB_lt hlt]
      rw [e] at ho2
      refine ⟨a2, c2, ?_, ho2, hbl.trans (((Below.refl _ _).alloc hbs _).trans hg2.below)⟩
      rw [← e]; simp
    · go_wp2_with (at_builtin; go_must (refine wpList_push rfl _ _ 40 rfl base 5 _ _ Try.underlying40 infoU8 rfl a' cap' k rfl (ho.alloc _) wr.heap.size 1 (UInt8.ofNat (m % 128 + 128)) rfl (by simp [go_sem, bC]; try omega) bC_one (by omega) (by unfold maxLen; omega) (by unfold maxLen; omega) (by omega) (by first | omega | (simp only [World.size_alloc, size_setCell, size_drew, size_drewN]; omega)) ?_; intro a2 c2 w2 ho2 hg2))
      go_roundw
      case rel => exact ⟨m / 128, k ++ [UInt8.ofNat (m % 128 + 128)], a2, c2, by simp, by go_num, by omega, Lib.hid (by rw [← HK.out, varB_ge hlt]; simp), ho2, hbl.trans (((Below.refl _ _).alloc hbs _).trans hg2.below)⟩
      case measure => simp [intOf]; omega

set_option maxHeartbeats 1000000 in
set_option maxRecDepth 100000 in
theorem PutVar_c (S : Nat → Prop) (a : Option Addr) (cap : Nat) (l : List UInt8) (n : Nat) (w : World) (h : Sl bC S w a cap l) (hl : l.length ≤ 1099511627776) (hn : n ≤ 281474976710655) :
    Calls Try.prog 63 #[.slice a l.length cap, .int .i64 (n : Int)] w fun r w' => ∃ a' cap', r = .returned (.tuple #[.slice a' (l ++ varB n).length cap', .bool true]) ∧ Own bC 5 (w.heap.size ≤ ·) w' a' cap' (l ++ varB n) ∧ Below w.heap.size w w' := by
  obtain ⟨base, hbase⟩ : ∃ base, base = w.heap.size := ⟨_, rfl⟩
  have hb : base ≤ w.heap.size := by omega
  rw [← hbase]
  have HB := Lib.hid hbase
  clear hbase
  have hnd : decide ((n : Int) ≤ 281474976710655) = true := by simp; omega
  go_enter Try.func63, Try.ntmps63
  go_wp2_with (first | go_in | (at_builtin; go_must (refine wpList_join rfl _ _ 40 rfl base 5 _ _ Try.underlying40 infoU8 rfl (some ⟨w.heap.size, 0, none⟩) 0 [] rfl (Own.lit base hb) S a cap l rfl (h.alloc _) bC_one (by unfold maxLen; simp; omega) (by simp; omega) (by simp only [World.size_alloc]; omega) ?_; intro a1 c1 w1 ho1 hg1)))
  have hb1 : Below base w w1 := ((Below.refl _ _).alloc hb _).trans hg1.below
  go_loopw [6, 1] (fun s q wr => ∃ (m : Nat) (k : List UInt8) (a' : Option Addr) (cap' : Nat), s = .slice a' k.length cap' ∧ q = .int .i64 m ∧ m ≤ n ∧ Hid (k ++ varB m = l ++ varB n) ∧ Own bC 5 (base ≤ ·) wr a' cap' k ∧ Below base w wr)
    (fun _ q _ => (intOf q).toNat)
  case atStart => exact ⟨n, l, a1, c1, by simp, rfl, Nat.le_refl _, Lib.hid rfl, by simpa using ho1, hb1⟩
  case round =>
    obtain ⟨m, k, a', cap', rfl, rfl, hm, HK, ho, hbl⟩ := hrel
    have hbs : base ≤ wr.heap.size := Nat.le_trans hb hbl.size
    have hkl : k.length ≤ l.length + 7 := by
      have h1 := congrArg List.length HK.out
      have h2 := varB_len7 hn
      simp only [List.length_append] at h1
      omega
    have hmb : m ≤ 281474976710655 := by omega
    clear hnd
    by_cases hlt : m < 128
    · go_wp2_with (at_builtin; go_must (refine wpList_push rfl _ _ 40 rfl base 5 _ _ Try.underlying40 infoU8 rfl a' cap' k rfl (ho.alloc _) wr.heap.size 1 (UInt8.ofNat m) rfl (by simp [go_sem, bC]; try omega) bC_one (by omega) (by unfold maxLen; omega) (by unfold maxLen; omega) (by omega) (by first | omega | (simp only [World.size_alloc, size_setCell, size_drew, size_drewN]; omega)) ?_; intro a2 c2 w2 ho2 hg2))
      go_ret2
      have e : k ++ [UInt8.ofNat m] = l ++ varB n := by rw [← HK.out, varB_lt hlt]
      rw [e] at ho2
      refine ⟨a2, c2, ?_, ho2, hbl.trans (((Below.refl _ _).alloc hbs _).trans hg2.below)⟩
      rw [← e]; simp
    · go_wp2_with (at_builtin; go_must (refine wpList_push rfl _ _ 40 rfl base 5 _ _ Try.underlying40 infoU8 rfl a' cap' k rfl (ho.alloc _) wr.heap.size 1 (UInt8.ofNat (m % 128 + 128)) rfl (by simp [go_sem, bC]; try omega) bC_one (by omega) (by unfold maxLen; omega) (by unfold maxLen; omega) (by omega) (by first | omega | (simp only [World.size_alloc, size_setCell, size_drew, size_drewN]; omega)) ?_; intro a2 c2 w2 ho2 hg2))
      go_roundw
      case rel => exact ⟨m / 128, k ++ [UInt8.ofNat (m % 128 + 128)], a2, c2, by simp, by go_num, by omega, Lib.hid (by rw [← HK.out, varB_ge hlt]; simp), ho2, hbl.trans (((Below.refl _ _).alloc hbs _).trans hg2.below)⟩
      case measure => simp [intOf]; omega

end Go.Proofs.Ytjejhdogbhdgoaa
