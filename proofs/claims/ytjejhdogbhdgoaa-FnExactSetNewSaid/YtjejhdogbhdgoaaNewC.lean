/-
  Contracts of SetNew, the program's and the reference's.
-/
import Derived.Test.YtjejhdogbhdgoaaSetLaws
namespace Go.Proofs.Ytjejhdogbhdgoaa
set_option linter.unusedSimpArgs false
set_option linter.unusedVariables false
open Go.RowKit

theorem bitAt_test (l : List UInt8) (v : Nat) : bitAt l v = (l.getD (v / 8) 0).toNat.testBit (v % 8) := by
  unfold bitAt; rw [Nat.testBit_eq_decide_div_mod_eq]

theorem bitAt_setBit (l : List UInt8) (k v : Nat) (hk : k / 8 < l.length) : bitAt (setBit l k) v = (decide (v = k) || bitAt l v) := by
  rw [bitAt_test, bitAt_test]
  unfold setBit
  have hx := (l.getD (k / 8) 0).toNat_lt
  have ho : (l.getD (k / 8) 0).toNat ||| 2 ^ (k % 8) < 2 ^ 8 := Nat.or_lt_two_pow hx (Nat.pow_lt_pow_right (by omega) (by omega))
  by_cases h8 : v / 8 = k / 8
  · have e : ((l.set (k / 8) (UInt8.ofNat ((l.getD (k / 8) 0).toNat ||| 2 ^ (k % 8)))).getD (v / 8) 0).toNat = (l.getD (k / 8) 0).toNat ||| 2 ^ (k % 8) := by
      rw [h8]
      simp only [List.getD, List.getElem?_set_self hk, Option.getD_some]
      exact ofNat_toNat _ ho
    rw [e, h8, Nat.testBit_or, Nat.testBit_two_pow]
    by_cases hm : k % 8 = v % 8
    · have : v = k := by omega
      simp [this]
    · have : v ≠ k := by intro e; subst e; exact hm rfl
      simp [hm, this]
  · have : v ≠ k := by intro e; subst e; exact h8 rfl
    have e : (l.set (k / 8) (UInt8.ofNat ((l.getD (k / 8) 0).toNat ||| 2 ^ (k % 8)))).getD (v / 8) 0 = l.getD (v / 8) 0 := by
      simp only [List.getD]
      rw [List.getElem?_set_ne (by omega)]
    rw [e]
    simp [this]

/-- The first k of n vertices. -/
def fullTo (n : Nat) : Nat → List UInt8
  | 0 => List.replicate ((n + 7) / 8) 0
  | k + 1 => setBit (fullTo n k) k

theorem fullTo_len (n : Nat) : ∀ k, (fullTo n k).length = (n + 7) / 8
  | 0 => by simp [fullTo]
  | k + 1 => by simp [fullTo, setBit, fullTo_len n k]

theorem fullTo_bit (n : Nat) : ∀ k, k ≤ n → ∀ v, bitAt (fullTo n k) v = decide (v < k)
  | 0, _, v => by
    unfold bitAt fullTo
    have : (List.replicate ((n + 7) / 8) (0 : UInt8)).getD (v / 8) 0 = 0 := by
      simp only [List.getD, List.getElem?_replicate]
      split <;> rfl
    rw [this]
    simp
  | k + 1, hk, v => by
    rw [fullTo, bitAt_setBit _ _ _ (by rw [fullTo_len]; omega), fullTo_bit n k (by omega), Bool.eq_iff_iff]
    simp
    omega

theorem fullTo_ok (n k : Nat) (hn : n ≤ 150) (hk : k ≤ n) : setOk (n : Int) (fullTo n k) = true := by
  unfold setOk
  simp only [decide_eq_true_eq]
  refine ⟨by omega, by omega, by rw [fullTo_len]; simp, fun v _ hv => ?_⟩
  rw [fullTo_bit n k hk]
  simp at hv ⊢
  omega

theorem withL_full (n k : Nat) (hn : n ≤ 150) (hk : k < n) : withL (n : Int) (fullTo n k) (k : Int) = fullTo n (k + 1) ∧ turnN (n : Int) (fullTo n k) = n := by
  have h := fullTo_ok n k hn (by omega)
  constructor
  · unfold withL; rw [if_pos h, if_pos ⟨by omega, by omega⟩]; rfl
  · unfold turnN; rw [if_pos h]

/-- SetNew's bits. -/
def newL (n : Int) (b : Bool) : List UInt8 := if 0 ≤ n ∧ n ≤ 150 then fullTo n.toNat (if b = true then n.toNat else 0) else []
def newN (n : Int) : Int := if 0 ≤ n ∧ n ≤ 150 then n else 0
def newOk (n : Int) : Bool := decide (0 ≤ n ∧ n ≤ 150)

theorem newL_len (n : Int) (b : Bool) : (newL n b).length ≤ 1048576 := by
  unfold newL
  split
  · rw [fullTo_len]; omega
  · simp

set_option maxHeartbeats 1000000 in
theorem emptySet_c (n : Nat) (w : World) (hn : n ≤ 150) :
    Calls Try.prog 60 #[.int .i64 (n : Int)] w fun r w' => ∃ a' cap', r = .returned (.agg #[.int .i64 (n : Int), .slice a' (fullTo n 0).length cap']) ∧ Own bC 5 (w.heap.size ≤ ·) w' a' cap' (fullTo n 0) ∧ Below w.heap.size w w' := by
  have zz : w.heap.size < w.heap.size + 1 := by omega
  go_enter Try.func60, Try.ntmps60
  go_wp2_with (at_make; go_must (refine wpList_mk (enc := bC) rfl _ _ 40 rfl (w.heap.size + 1) 5 _ 0 rfl 1 Try.underlying40 infoU8 rfl _ _ _ _ ((n + 7) / 8) rfl rfl (by omega) (by omega) (by omega) (by unfold maxLen; omega) (by simp) ?_; intro w1 ho1 hg1); have hc1 := fun b o (hh : b < w.heap.size + 1) => hg1.below.cell (p := ⟨b, o, none⟩) hh; have hf1 := fun b o (hh : b < w.heap.size + 1) => hg1.below.frozen (p := ⟨b, o, none⟩) hh)
  rw [fullTo_len]
  refine bodyPost_ret (v := .agg #[.int .i64 (n : Int), .slice (some ⟨w.heap.size + 1, 0, none⟩) ((n + 7) / 8) ((n + 7) / 8)]) (by simp [results, Try.results60, go_sem, hc1, hf1, zz]) rfl ?_
  have hz1 := hg1.below.size
  simp only [World.size_alloc] at hz1 ho1
  have hb1 : Below w.heap.size w w1 := (Below.trans ((by repeat (first | exact Below.refl _ _ | assumption | refine Below.step ?_ (by assumption) | refine Below.drew ?_ | refine Below.drewN ?_ _ | refine Below.alloc ?_ (by first | omega | (simp only [World.size_alloc, size_setCell, size_drew, size_drewN]; omega)) _ | refine Below.setCell ?_ (by first | (dsimp only; omega) | (simp only [World.size_alloc, size_setCell, size_drew, size_drewN]; omega)) _))) (hg1.below.mono (by omega)))
  have ho1' : Own bC 5 (fun x => w.heap.size + 1 ≤ x) w1 (some ⟨w.heap.size + 1, 0, none⟩) ((n + 7) / 8) (fullTo n 0) := ho1
  exact ⟨_, _, rfl, (Own.lift ho1' (by intro b hS hb; (try simp only [World.size_alloc, size_setCell, size_drew, size_drewN] at hS); (try simp only [heap_drew, heap_drewN]); repeat (first | rfl | rw [Below.heap_setCell _ _ _ _ (by dsimp only; omega)] | rw [Below.heap_alloc _ _ _ (by simp only [World.size_alloc, size_setCell, size_drew, size_drewN]; omega)])) (by intro b _ hb; (try simp only [World.size_alloc, size_setCell, size_drew, size_drewN] at hb); omega)), (by repeat (first | exact Below.refl _ _ | assumption | refine Below.step ?_ (by assumption) | refine Below.drew ?_ | refine Below.drewN ?_ _ | refine Below.alloc ?_ (by first | omega | (simp only [World.size_alloc, size_setCell, size_drew, size_drewN]; omega)) _ | refine Below.setCell ?_ (by first | (dsimp only; omega) | (simp only [World.size_alloc, size_setCell, size_drew, size_drewN]; omega)) _))⟩

theorem newN_in {n : Nat} (h : n ≤ 150) : newN (n : Int) = n ∧ newOk (n : Int) = true := by
  constructor
  · unfold newN; rw [if_pos ⟨by omega, by omega⟩]
  · simp [newOk]; omega
theorem newL_in {n : Nat} (h : n ≤ 150) (b : Bool) : newL (n : Int) b = fullTo n (if b = true then n else 0) := by
  unfold newL; rw [if_pos ⟨by omega, by omega⟩]; rfl
theorem new_out {n : Int} (h : ¬ (0 ≤ n ∧ n ≤ 150)) (b : Bool) : newN n = 0 ∧ newL n b = [] ∧ newOk n = false := by
  refine ⟨?_, ?_, ?_⟩
  · unfold newN; rw [if_neg h]
  · unfold newL; rw [if_neg h]
  · unfold newOk; simpa using h

set_option maxHeartbeats 1000000 in
theorem implSetNew_out (n : Int) (b : Bool) (w : World) (hn : ¬ (0 ≤ n ∧ n ≤ 150)) :
    Calls Try.prog 35 #[.int .i64 n, .bool b] w fun r w' => ∃ a' cap', r = .returned (.tuple #[.agg #[.int .i64 (newN n), .slice a' (newL n b).length cap'], .bool (newOk n)]) ∧ Own bC 5 (w.heap.size ≤ ·) w' a' cap' (newL n b) ∧ Below w.heap.size w w' := by
  obtain ⟨e1, e2, e3⟩ := new_out hn b
  rw [e1, e2, e3]
  clear e1 e2 e3
  by_cases h0 : n < 0
  · go_enter Try.func35, Try.ntmps35
    go_wp2
    refine bodyPost_ret (v := .tuple #[.agg #[.int .i64 0, .slice none 0 0], .bool false]) (by simp [results, Try.results35, go_sem]) rfl ?_
    exact ⟨none, 0, rfl, Own.nil, (by repeat (first | exact Below.refl _ _ | assumption | refine Below.step ?_ (by assumption) | refine Below.drew ?_ | refine Below.drewN ?_ _ | refine Below.alloc ?_ (by first | omega | (simp only [World.size_alloc, size_setCell, size_drew, size_drewN]; omega)) _ | refine Below.setCell ?_ (by first | (dsimp only; omega) | (simp only [World.size_alloc, size_setCell, size_drew, size_drewN]; omega)) _))⟩
  · have h1 : 150 < n := by omega
    go_enter Try.func35, Try.ntmps35
    go_wp2
    refine bodyPost_ret (v := .tuple #[.agg #[.int .i64 0, .slice none 0 0], .bool false]) (by simp [results, Try.results35, go_sem]) rfl ?_
    exact ⟨none, 0, rfl, Own.nil, (by repeat (first | exact Below.refl _ _ | assumption | refine Below.step ?_ (by assumption) | refine Below.drew ?_ | refine Below.drewN ?_ _ | refine Below.alloc ?_ (by first | omega | (simp only [World.size_alloc, size_setCell, size_drew, size_drewN]; omega)) _ | refine Below.setCell ?_ (by first | (dsimp only; omega) | (simp only [World.size_alloc, size_setCell, size_drew, size_drewN]; omega)) _))⟩

set_option maxHeartbeats 2000000 in
theorem implSetNew_in (n : Nat) (b : Bool) (w : World) (hn : n ≤ 150) :
    Calls Try.prog 35 #[.int .i64 (n : Int), .bool b] w fun r w' => ∃ a' cap', r = .returned (.tuple #[.agg #[.int .i64 (newN n), .slice a' (newL n b).length cap'], .bool (newOk n)]) ∧ Own bC 5 (w.heap.size ≤ ·) w' a' cap' (newL n b) ∧ Below w.heap.size w w' := by
  rw [newL_in hn, (newN_in hn).1, (newN_in hn).2]
  go_enter Try.func35, Try.ntmps35
  go_wp2_with fail
  refine (emptySet_c n _ hn).mono ?_
  rintro _ w2 ⟨a2, c2, rfl, ho2, hb2⟩
  obtain ⟨hc2, hf2⟩ := bcell hb2
  have hz2 := hb2.size
  simp only [World.size_alloc] at hz2
  have hz2x0 : w.heap.size < w2.heap.size := by omega
  go_wp2
  obtain ⟨W1, hW1⟩ : ∃ W1, W1 = w2.alloc (Obj.cells #[Value.int IntKind.i64 (n : Int), Value.slice a2 (fullTo n 0).length c2] 45) := ⟨_, rfl⟩
  have o0 : W1.cell? ⟨w2.heap.size, 0, none⟩ = some (.int .i64 (n : Int)) := by rw [hW1]; simp [go_sem]
  have o1 : W1.cell? ⟨w2.heap.size, 1, none⟩ = some (.slice a2 (fullTo n 0).length c2) := by rw [hW1]; simp [go_sem]
  have p0 : W1.cell? ⟨w.heap.size, 0, none⟩ = some (.int .i64 0) := by rw [hW1]; exact cell_alloc (by rw [hc2 _ _ (by simp only [World.size_alloc]; omega)]; simp [go_sem]) _
  have p1 : W1.cell? ⟨w.heap.size, 1, none⟩ = some (.slice none 0 0) := by rw [hW1]; exact cell_alloc (by rw [hc2 _ _ (by simp only [World.size_alloc]; omega)]; simp [go_sem]) _
  have p2 : ∀ o, W1.frozen? ⟨w.heap.size, o, none⟩ = false := by intro o; rw [hW1, ((Below.refl w2.heap.size w2).alloc (Nat.le_refl _) _).frozen (by dsimp only; omega), hf2 _ _ (by simp only [World.size_alloc]; omega)]; simp [go_sem]
  have hB1 : Below w.heap.size w W1 := by rw [hW1]; exact (by repeat (first | exact Below.refl _ _ | assumption | refine Below.step ?_ (by assumption) | refine Below.drew ?_ | refine Below.drewN ?_ _ | refine Below.alloc ?_ (by first | omega | (simp only [World.size_alloc, size_setCell, size_drew, size_drewN]; omega)) _ | refine Below.setCell ?_ (by first | (dsimp only; omega) | (simp only [World.size_alloc, size_setCell, size_drew, size_drewN]; omega)) _))
  have hz1 : w2.heap.size < W1.heap.size := by rw [hW1]; simp
  have ho1 : Own bC 5 (fun b => w.heap.size + 1 ≤ b ∧ b < w2.heap.size) W1 a2 c2 (fullTo n 0) := by
    rw [hW1]; exact (ho2.mono fun b hb hS => ⟨by simpa using hS, hb⟩).alloc _
  have HL := Lib.hid (fullTo_len n)
  rw [← hW1]
  clear hW1 hc2 hf2 hb2 ho2
  rw [fullTo_len] at o1 ⊢
  go_loopw [7] (fun v wr => ∃ k : Nat, k ≤ (if b = true then n else 0) ∧ v = .int .i64 k ∧ Own bC 5 (fun b => w.heap.size + 1 ≤ b ∧ b < w2.heap.size) wr a2 c2 (fullTo n k) ∧ Chg (fun b => w.heap.size + 1 ≤ b ∧ b < w2.heap.size) W1 wr)
    (fun v _ => n - (intOf v).toNat)
  case atStart => exact ⟨0, Nat.zero_le _, rfl, ho1, Chg.refl _ _⟩
  case round =>
    obtain ⟨k, hk, rfl, ho, hch⟩ := hrel
    have r0 := cell_same (hch.block _ (by dsimp only; omega) (by dsimp only; omega)) o0
    have r1 := cell_same (hch.block _ (by dsimp only; omega) (by dsimp only; omega)) o1
    have s0 := cell_same (hch.block _ (by dsimp only; omega) (by dsimp only; omega)) p0
    have s1 := cell_same (hch.block _ (by dsimp only; omega) (by dsimp only; omega)) p1
    have s2 := (chg_frozen hch (b := w.heap.size) (by omega) (by omega) 0).trans (p2 0)
    have s3 := (chg_frozen hch (b := w.heap.size) (by omega) (by omega) 1).trans (p2 1)
    have hzr : w2.heap.size < wr.heap.size := by have := hch.size; omega
    have hBr : Below w.heap.size w wr := hB1.trans (hch.below (fun b _ hS => by omega) (by omega))
    clear p2
    cases b
    · obtain rfl : k = 0 := by simpa using hk
      go_wp2
      rw [HL.out]
      refine bodyPost_ret (v := .tuple #[.agg #[.int .i64 (n : Int), .slice a2 ((n + 7) / 8) c2], .bool true]) (by simp [results, Try.results35, go_sem, r0, r1, s0, s1, s2, s3]) rfl ?_
      exact ⟨a2, c2, by simp [HL.out], (Own.lift ho (by intro b hS hb; (try simp only [World.size_alloc, size_setCell, size_drew, size_drewN] at hS); (try simp only [heap_drew, heap_drewN]); repeat (first | rfl | rw [Below.heap_setCell _ _ _ _ (by dsimp only; omega)] | rw [Below.heap_alloc _ _ _ (by simp only [World.size_alloc, size_setCell, size_drew, size_drewN]; omega)])) (by intro b _ hb; (try simp only [World.size_alloc, size_setCell, size_drew, size_drewN] at hb); omega)), (by repeat (first | exact Below.refl _ _ | assumption | refine Below.step ?_ (by assumption) | refine Below.drew ?_ | refine Below.drewN ?_ _ | refine Below.alloc ?_ (by first | omega | (simp only [World.size_alloc, size_setCell, size_drew, size_drewN]; omega)) _ | refine Below.setCell ?_ (by first | (dsimp only; omega) | (simp only [World.size_alloc, size_setCell, size_drew, size_drewN]; omega)) _))⟩
    · simp only [if_true] at hk
      by_cases hlt : k < n
      · have hk8 : k / 8 < (fullTo n k).length := by rw [HL.out]; omega
        obtain ⟨b1, off1, rfl, hS, hbw, hcell⟩ := ho.sl.get (by omega)
        obtain ⟨l, hl⟩ : ∃ l, l = fullTo n k := ⟨_, rfl⟩
        have hll : l.length = (n + 7) / 8 := by rw [hl]; exact HL.out k
        have hnext : fullTo n (k + 1) = setBit l k := by rw [fullTo, hl]
        rw [← hl] at ho hk8
        obtain ⟨y, hy⟩ : ∃ y, y = UInt8.ofNat ((l.getD (k / 8) 0).toNat ||| 2 ^ (k % 8)) := ⟨_, rfl⟩
        obtain ⟨rfl, _, g1, g2, hst⟩ := ho.set rfl hk8 y
        have HY := Lib.hid hy
        have HLL := Lib.hid hll
        have HN := Lib.hid hnext
        have HE := Lib.hid hl
        have q0 : k / 8 < (n + 7) / 8 := by omega
        clear hy hcell hll hnext hl
        unfold bC at g1
        have q1 : IntKind.i64.wrap ((k : Int) / 8) = (k : Int) / 8 := IntWalk.i64_in _ (by omega)
        have q2 : ((k : Int) / 8).toNat = k / 8 := by omega
        have q3 : 0 ≤ (k : Int) / 8 := by omega
        have q4 : (k : Int) / 8 < (((n + 7) / 8 : Nat) : Int) := by omega
        have q4' : (k : Int) / 8 < ((n : Int) + 7) / 8 := by omega
        have q6 : (k : Int).tmod 8 = (k : Int) % 8 := Int.tmod_eq_emod_of_nonneg (by omega)
        have q7 : 0 ≤ (k : Int) % 8 := by omega
        have q8 : ((k : Int) % 8).toNat = k % 8 := by omega
        have q9 : k % 8 < 8 := by omega
        have hx := l[k / 8].toNat_lt
        go_wp2
        go_still_tail 11, (by kernel_rfl)
        have e : bits BinOp.or IntKind.u8 (l[k / 8].toNat : Int) (IntKind.u8.wrap (2 ^ (k % 8))) = (y.toNat : Int) := by
          rw [HY.out, or_val _ _ q9]; simp [List.getD, hk8]
        rw [e]
        clear e
        change wpList _ _ _ _ _ wr.drew
        go_wp2
        go_roundw
        case rel => exact ⟨k + 1, by first | omega | (simp; omega), by go_num, by rw [HN.out]; unfold setBit; rw [← HY.out]; exact hst.drew1, ((hch.drew).setCell hS _)⟩
        case measure => simp [intOf]; omega
      · obtain rfl : k = n := by omega
        go_wp2
        rw [HL.out]
        refine bodyPost_ret (v := .tuple #[.agg #[.int .i64 (k : Int), .slice a2 ((k + 7) / 8) c2], .bool true]) (by simp [results, Try.results35, go_sem, r0, r1, s0, s1, s2, s3]) rfl ?_
        exact ⟨a2, c2, by simp [HL.out], (Own.lift ho (by intro b hS hb; (try simp only [World.size_alloc, size_setCell, size_drew, size_drewN] at hS); (try simp only [heap_drew, heap_drewN]); repeat (first | rfl | rw [Below.heap_setCell _ _ _ _ (by dsimp only; omega)] | rw [Below.heap_alloc _ _ _ (by simp only [World.size_alloc, size_setCell, size_drew, size_drewN]; omega)])) (by intro b _ hb; (try simp only [World.size_alloc, size_setCell, size_drew, size_drewN] at hb); omega)), (by repeat (first | exact Below.refl _ _ | assumption | refine Below.step ?_ (by assumption) | refine Below.drew ?_ | refine Below.drewN ?_ _ | refine Below.alloc ?_ (by first | omega | (simp only [World.size_alloc, size_setCell, size_drew, size_drewN]; omega)) _ | refine Below.setCell ?_ (by first | (dsimp only; omega) | (simp only [World.size_alloc, size_setCell, size_drew, size_drewN]; omega)) _))⟩

theorem implSetNew (n : Int) (b : Bool) (w : World) :
    Calls Try.prog 35 #[.int .i64 n, .bool b] w fun r w' => ∃ a' cap', r = .returned (.tuple #[.agg #[.int .i64 (newN n), .slice a' (newL n b).length cap'], .bool (newOk n)]) ∧ Own bC 5 (w.heap.size ≤ ·) w' a' cap' (newL n b) ∧ Below w.heap.size w w' := by
  by_cases h : 0 ≤ n ∧ n ≤ 150
  · obtain ⟨m, rfl⟩ := Int.eq_ofNat_of_zero_le h.1
    exact implSetNew_in m b w (by omega)
  · exact implSetNew_out n b w h

set_option maxHeartbeats 1000000 in
theorem specSetNew_out (n : Int) (b : Bool) (w : World) (hn : ¬ (0 ≤ n ∧ n ≤ 150)) :
    Calls Try.prog 34 #[.int .i64 n, .bool b] w fun r w' => ∃ a' cap', r = .returned (.tuple #[.agg #[.int .i64 (newN n), .slice a' (newL n b).length cap'], .bool (newOk n)]) ∧ Own bC 5 (w.heap.size ≤ ·) w' a' cap' (newL n b) ∧ Below w.heap.size w w' := by
  obtain ⟨e1, e2, e3⟩ := new_out hn b
  rw [e1, e2, e3]
  clear e1 e2 e3
  by_cases h0 : n < 0
  · go_enter Try.func34, Try.ntmps34
    go_wp2
    refine bodyPost_ret (v := .tuple #[.agg #[.int .i64 0, .slice none 0 0], .bool false]) (by simp [results, Try.results34, go_sem]) rfl ?_
    exact ⟨none, 0, rfl, Own.nil, (by repeat (first | exact Below.refl _ _ | assumption | refine Below.step ?_ (by assumption) | refine Below.drew ?_ | refine Below.drewN ?_ _ | refine Below.alloc ?_ (by first | omega | (simp only [World.size_alloc, size_setCell, size_drew, size_drewN]; omega)) _ | refine Below.setCell ?_ (by first | (dsimp only; omega) | (simp only [World.size_alloc, size_setCell, size_drew, size_drewN]; omega)) _))⟩
  · have h1 : 150 < n := by omega
    go_enter Try.func34, Try.ntmps34
    go_wp2
    refine bodyPost_ret (v := .tuple #[.agg #[.int .i64 0, .slice none 0 0], .bool false]) (by simp [results, Try.results34, go_sem]) rfl ?_
    exact ⟨none, 0, rfl, Own.nil, (by repeat (first | exact Below.refl _ _ | assumption | refine Below.step ?_ (by assumption) | refine Below.drew ?_ | refine Below.drewN ?_ _ | refine Below.alloc ?_ (by first | omega | (simp only [World.size_alloc, size_setCell, size_drew, size_drewN]; omega)) _ | refine Below.setCell ?_ (by first | (dsimp only; omega) | (simp only [World.size_alloc, size_setCell, size_drew, size_drewN]; omega)) _))⟩

set_option maxHeartbeats 2000000 in
theorem specSetNew_in (n : Nat) (b : Bool) (w : World) (hn : n ≤ 150) :
    Calls Try.prog 34 #[.int .i64 (n : Int), .bool b] w fun r w' => ∃ a' cap', r = .returned (.tuple #[.agg #[.int .i64 (newN n), .slice a' (newL n b).length cap'], .bool (newOk n)]) ∧ Own bC 5 (w.heap.size ≤ ·) w' a' cap' (newL n b) ∧ Below w.heap.size w w' := by
  rw [newL_in hn, (newN_in hn).1, (newN_in hn).2]
  have zz : w.heap.size < w.heap.size + 1 := by omega
  go_enter Try.func34, Try.ntmps34
  go_wp2_with (at_make; go_must (refine wpList_mk (enc := bC) rfl _ _ 40 rfl (w.heap.size + 1) 5 _ 0 rfl 1 Try.underlying40 infoU8 rfl _ _ _ _ ((n + 7) / 8) rfl rfl (by omega) (by omega) (by omega) (by unfold maxLen; omega) (by simp) ?_; intro w2 ho2 hg2); have hc2 := fun b o (hh : b < w.heap.size + 1) => hg2.below.cell (p := ⟨b, o, none⟩) hh; have hf2 := fun b o (hh : b < w.heap.size + 1) => hg2.below.frozen (p := ⟨b, o, none⟩) hh)
  simp only [World.size_alloc] at ho2
  have hz2 := hg2.below.size
  simp only [World.size_alloc] at hz2
  have hB2 : Below w.heap.size w w2 := (Below.trans ((by repeat (first | exact Below.refl _ _ | assumption | refine Below.step ?_ (by assumption) | refine Below.drew ?_ | refine Below.drewN ?_ _ | refine Below.alloc ?_ (by first | omega | (simp only [World.size_alloc, size_setCell, size_drew, size_drewN]; omega)) _ | refine Below.setCell ?_ (by first | (dsimp only; omega) | (simp only [World.size_alloc, size_setCell, size_drew, size_drewN]; omega)) _))) (hg2.below.mono (by omega)))
  obtain ⟨W1, hW1⟩ : ∃ W1, W1 = w2.alloc (Obj.cells #[Value.int IntKind.i64 (n : Int), Value.slice (some ⟨w.heap.size + 1, 0, none⟩) ((n + 7) / 8) ((n + 7) / 8)] 45) := ⟨_, rfl⟩
  have o0 : W1.cell? ⟨w2.heap.size, 0, none⟩ = some (.int .i64 (n : Int)) := by rw [hW1]; simp [go_sem]
  have o1 : W1.cell? ⟨w2.heap.size, 1, none⟩ = some (.slice (some ⟨w.heap.size + 1, 0, none⟩) ((n + 7) / 8) ((n + 7) / 8)) := by rw [hW1]; simp [go_sem]
  have o2 : ∀ o, W1.frozen? ⟨w2.heap.size, o, none⟩ = false := by intro o; rw [hW1]; simp [go_sem]
  have p0 : W1.cell? ⟨w.heap.size, 0, none⟩ = some (.int .i64 0) := by rw [hW1]; exact cell_alloc (by rw [hc2 _ _ (by omega)]; simp [go_sem]) _
  have p1 : W1.cell? ⟨w.heap.size, 1, none⟩ = some (.slice none 0 0) := by rw [hW1]; exact cell_alloc (by rw [hc2 _ _ (by omega)]; simp [go_sem]) _
  have p2 : ∀ o, W1.frozen? ⟨w.heap.size, o, none⟩ = false := by intro o; rw [hW1, ((Below.refl w2.heap.size w2).alloc (Nat.le_refl _) _).frozen (by dsimp only; omega), hf2 _ _ (by omega)]; simp [go_sem]
  have hB1 : Below w.heap.size w W1 := by rw [hW1]; exact (by repeat (first | exact Below.refl _ _ | assumption | refine Below.step ?_ (by assumption) | refine Below.drew ?_ | refine Below.drewN ?_ _ | refine Below.alloc ?_ (by first | omega | (simp only [World.size_alloc, size_setCell, size_drew, size_drewN]; omega)) _ | refine Below.setCell ?_ (by first | (dsimp only; omega) | (simp only [World.size_alloc, size_setCell, size_drew, size_drewN]; omega)) _))
  have hz1 : w2.heap.size < W1.heap.size := by rw [hW1]; simp
  have ho1 : Own bC 5 (fun b => w.heap.size < b ∧ b ≠ w2.heap.size) W1 (some ⟨w.heap.size + 1, 0, none⟩) ((n + 7) / 8) (fullTo n 0) := by
    rw [hW1]; exact (Own.mono (enc := bC) (l := fullTo n 0) ho2 fun b hb hS => ⟨by omega, by omega⟩).alloc _
  have q0 := p2 0
  have q1 := p2 1
  have u0 := o2 0
  have u1 := o2 1
  have HL := Lib.hid (fullTo_len n)
  rw [← hW1]
  clear hW1 hc2 hf2 hg2 ho2 p2 o2
  go_loopw [7] (fun v wr => ∃ (k : Nat) (a' : Option Addr) (cap' : Nat), k ≤ (if b = true then n else 0) ∧ v = .int .i64 k ∧ wr.cell? ⟨w2.heap.size, 0, none⟩ = some (.int .i64 (n : Int)) ∧ wr.cell? ⟨w2.heap.size, 1, none⟩ = some (.slice a' ((n + 7) / 8) cap') ∧
      wr.frozen? ⟨w2.heap.size, 0, none⟩ = false ∧ wr.frozen? ⟨w2.heap.size, 1, none⟩ = false ∧ wr.cell? ⟨w.heap.size, 0, none⟩ = some (.int .i64 0) ∧ wr.cell? ⟨w.heap.size, 1, none⟩ = some (.slice none 0 0) ∧
      wr.frozen? ⟨w.heap.size, 0, none⟩ = false ∧ wr.frozen? ⟨w.heap.size, 1, none⟩ = false ∧
      Own bC 5 (fun b => w.heap.size < b ∧ b ≠ w2.heap.size) wr a' cap' (fullTo n k) ∧ Below w.heap.size w wr ∧ w2.heap.size < wr.heap.size)
    (fun v _ => n - (intOf v).toNat)
  case atStart => exact ⟨0, _, _, Nat.zero_le _, rfl, o0, o1, u0, u1, p0, p1, q0, q1, ho1, hB1, hz1⟩
  case round =>
    clear o0 o1 u0 u1 p0 p1 q0 q1 ho1 hB1 hz1
    obtain ⟨k, a2, c2, hk, rfl, r0, r1, u0, u1, s0, s1, s2, s3, ho, hBr, hzr⟩ := hrel
    by_cases hlt : k < n
    · cases b
      · obtain rfl : k = 0 := by simpa using hk
        go_wp2
        rw [HL.out]
        refine bodyPost_ret (v := .tuple #[.agg #[.int .i64 (n : Int), .slice a2 ((n + 7) / 8) c2], .bool true]) (by simp [results, Try.results34, go_sem, r0, r1, s0, s1, s2, s3]) rfl ?_
        exact ⟨a2, c2, by simp [HL.out], Own.lift ho (by intro b hS hb; (try simp only [World.size_alloc, size_setCell, size_drew, size_drewN] at hS); (try simp only [heap_drew, heap_drewN]); repeat (first | rfl | rw [Below.heap_setCell _ _ _ _ (by dsimp only; omega)] | rw [Below.heap_alloc _ _ _ (by simp only [World.size_alloc, size_setCell, size_drew, size_drewN]; omega)])) (by intro b _ hb; have := hb.1; omega), (by repeat (first | exact Below.refl _ _ | assumption | refine Below.step ?_ (by assumption) | refine Below.drew ?_ | refine Below.drewN ?_ _ | refine Below.alloc ?_ (by first | omega | (simp only [World.size_alloc, size_setCell, size_drew, size_drewN]; omega)) _ | refine Below.setCell ?_ (by first | (dsimp only; omega) | (simp only [World.size_alloc, size_setCell, size_drew, size_drewN]; omega)) _))⟩
      · have HW := Lib.hid (withL_full n k hn hlt)
        have hwr : w.heap.size < wr.heap.size := by omega
        go_wp2_with fail
        have C := specWith _ (n : Int) a2 c2 (fullTo n k) (k : Int) wr ho.sl (by rw [HL.out]; omega)
        rw [HW.out.1, HW.out.2, HL.out, HL.out] at C
        refine C.mono ?_
        rintro _ w3 ⟨a3, c3, rfl, ho3, hb3⟩
        have t0 := cell_below hb3 r0
        have t1 := cell_below hb3 r1
        have t2 := (hb3.frozen (p := ⟨w2.heap.size, 0, none⟩) hzr).trans u0
        have t3 := (hb3.frozen (p := ⟨w2.heap.size, 1, none⟩) hzr).trans u1
        have v0 := cell_below hb3 s0
        have v1 := cell_below hb3 s1
        have v2 := (hb3.frozen (p := ⟨w.heap.size, 0, none⟩) hwr).trans s2
        have v3 := (hb3.frozen (p := ⟨w.heap.size, 1, none⟩) hwr).trans s3
        have hz3 := hb3.size
        have hB3 : Below w.heap.size w w3 := Below.step hBr hb3
        have hne : w.heap.size ≠ w2.heap.size := by omega
        clear r0 r1 u0 u1 s0 s1 s2 s3
        go_wp2
        go_roundw
        case rel =>
          refine ⟨k + 1, a3, c3, by first | omega | (simp; omega), by go_num, by simp [go_sem, t0, t1, t2, t3], by simp [go_sem, t0, t1, t2, t3], by simp [go_sem, t2], by simp [go_sem, t3], by simp [go_sem, v0, hne], by simp [go_sem, v1, hne], by simp [go_sem, v2], by simp [go_sem, v3], Own.lift ho3 (by intro b hS hb; (try simp only [World.size_alloc, size_setCell, size_drew, size_drewN] at hS); (try simp only [heap_drew, heap_drewN]); repeat (first | rfl | rw [Below.heap_setCell _ _ _ _ (by dsimp only; omega)] | rw [Below.heap_alloc _ _ _ (by simp only [World.size_alloc, size_setCell, size_drew, size_drewN]; omega)])) (by intro b _ hb; omega), (by repeat (first | exact Below.refl _ _ | assumption | refine Below.step ?_ (by assumption) | refine Below.drew ?_ | refine Below.drewN ?_ _ | refine Below.alloc ?_ (by first | omega | (simp only [World.size_alloc, size_setCell, size_drew, size_drewN]; omega)) _ | refine Below.setCell ?_ (by first | (dsimp only; omega) | (simp only [World.size_alloc, size_setCell, size_drew, size_drewN]; omega)) _)), ?_⟩
          simp only [size_setCell]; omega
        case measure => simp [intOf]; omega
    · cases b
      · obtain rfl : k = 0 := by simpa using hk
        obtain rfl : n = 0 := by omega
        go_wp2
        rw [HL.out]
        refine bodyPost_ret (v := .tuple #[.agg #[.int .i64 0, .slice a2 ((0 + 7) / 8) c2], .bool true]) (by simp [results, Try.results34, go_sem, r0, r1, s0, s1, s2, s3]) rfl ?_
        exact ⟨a2, c2, by simp [HL.out], Own.lift ho (by intro b hS hb; (try simp only [World.size_alloc, size_setCell, size_drew, size_drewN] at hS); (try simp only [heap_drew, heap_drewN]); repeat (first | rfl | rw [Below.heap_setCell _ _ _ _ (by dsimp only; omega)] | rw [Below.heap_alloc _ _ _ (by simp only [World.size_alloc, size_setCell, size_drew, size_drewN]; omega)])) (by intro b _ hb; have := hb.1; omega), (by repeat (first | exact Below.refl _ _ | assumption | refine Below.step ?_ (by assumption) | refine Below.drew ?_ | refine Below.drewN ?_ _ | refine Below.alloc ?_ (by first | omega | (simp only [World.size_alloc, size_setCell, size_drew, size_drewN]; omega)) _ | refine Below.setCell ?_ (by first | (dsimp only; omega) | (simp only [World.size_alloc, size_setCell, size_drew, size_drewN]; omega)) _))⟩
      · obtain rfl : k = n := by simp only [if_true] at hk; omega
        go_wp2
        rw [HL.out]
        refine bodyPost_ret (v := .tuple #[.agg #[.int .i64 (k : Int), .slice a2 ((k + 7) / 8) c2], .bool true]) (by simp [results, Try.results34, go_sem, r0, r1, s0, s1, s2, s3]) rfl ?_
        exact ⟨a2, c2, by simp [HL.out], Own.lift ho (by intro b hS hb; (try simp only [World.size_alloc, size_setCell, size_drew, size_drewN] at hS); (try simp only [heap_drew, heap_drewN]); repeat (first | rfl | rw [Below.heap_setCell _ _ _ _ (by dsimp only; omega)] | rw [Below.heap_alloc _ _ _ (by simp only [World.size_alloc, size_setCell, size_drew, size_drewN]; omega)])) (by intro b _ hb; have := hb.1; omega), (by repeat (first | exact Below.refl _ _ | assumption | refine Below.step ?_ (by assumption) | refine Below.drew ?_ | refine Below.drewN ?_ _ | refine Below.alloc ?_ (by first | omega | (simp only [World.size_alloc, size_setCell, size_drew, size_drewN]; omega)) _ | refine Below.setCell ?_ (by first | (dsimp only; omega) | (simp only [World.size_alloc, size_setCell, size_drew, size_drewN]; omega)) _))⟩

theorem specSetNew (n : Int) (b : Bool) (w : World) :
    Calls Try.prog 34 #[.int .i64 n, .bool b] w fun r w' => ∃ a' cap', r = .returned (.tuple #[.agg #[.int .i64 (newN n), .slice a' (newL n b).length cap'], .bool (newOk n)]) ∧ Own bC 5 (w.heap.size ≤ ·) w' a' cap' (newL n b) ∧ Below w.heap.size w w' := by
  by_cases h : 0 ≤ n ∧ n ≤ 150
  · obtain ⟨m, rfl⟩ := Int.eq_ofNat_of_zero_le h.1
    exact specSetNew_in m b w (by omega)
  · exact specSetNew_out n b w h

end Go.Proofs.Ytjejhdogbhdgoaa
