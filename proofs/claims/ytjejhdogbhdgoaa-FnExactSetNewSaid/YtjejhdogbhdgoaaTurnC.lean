/-
  Contracts of the reference's With and Without.
-/
import Derived.Test.YtjejhdogbhdgoaaWithC
namespace Go.Proofs.Ytjejhdogbhdgoaa
set_option linter.unusedSimpArgs false
set_option linter.unusedVariables false
open Go.RowKit

theorem bits_fin : ∀ x : Fin 256, ∀ k : Fin 8, (x.val / 2 ^ k.val % 2 = 1 → x.val ||| 2 ^ k.val = x.val ∧ x.val &&& (255 - 2 ^ k.val) = x.val - 2 ^ k.val ∧ 2 ^ k.val ≤ x.val) ∧
    (¬ x.val / 2 ^ k.val % 2 = 1 → x.val ||| 2 ^ k.val = x.val + 2 ^ k.val ∧ x.val &&& (255 - 2 ^ k.val) = x.val ∧ x.val + 2 ^ k.val < 256) := by
  decide +kernel

theorem bits_nat8 (x k : Nat) (hx : x < 256) (hk : k < 8) : (x / 2 ^ k % 2 = 1 → x ||| 2 ^ k = x ∧ x &&& (255 - 2 ^ k) = x - 2 ^ k ∧ 2 ^ k ≤ x) ∧
    (¬ x / 2 ^ k % 2 = 1 → x ||| 2 ^ k = x + 2 ^ k ∧ x &&& (255 - 2 ^ k) = x ∧ x + 2 ^ k < 256) := bits_fin ⟨x, hx⟩ ⟨k, hk⟩

theorem set_same (l : List UInt8) (i : Nat) (hi : i < l.length) (y : UInt8) (h : y = l[i]) : l.set i y = l := by
  subst h; exact List.set_getElem_self hi

theorem u8_eq (x : UInt8) (m : Nat) (h : m = x.toNat) : UInt8.ofNat m = x := by
  subst h; simp

theorem setBit_same {l : List UInt8} {v : Nat} (hv : v / 8 < l.length) (h : bitAt l v = true) : setBit l v = l := by
  unfold bitAt at h
  simp [List.getD, hv] at h
  unfold setBit
  refine set_same _ _ hv _ ?_
  simp only [List.getD, List.getElem?_eq_getElem hv, Option.getD_some]
  exact u8_eq _ _ (((bits_nat8 _ (v % 8) l[v / 8].toNat_lt (by omega)).1 h).1)

theorem clrBit_same {l : List UInt8} {v : Nat} (hv : v / 8 < l.length) (h : bitAt l v = false) : clrBit l v = l := by
  unfold bitAt at h
  simp [List.getD, hv] at h
  unfold clrBit
  refine set_same _ _ hv _ ?_
  simp only [List.getD, List.getElem?_eq_getElem hv, Option.getD_some]
  exact u8_eq _ _ (((bits_nat8 _ (v % 8) l[v / 8].toNat_lt (by omega)).2 (by omega)).2.1)

set_option maxHeartbeats 1000000 in
theorem l09Copy_c (S : Nat → Prop) (n : Int) (a : Option Addr) (cap : Nat) (l : List UInt8) (w : World) (h : Sl bC S w a cap l) (hl : l.length ≤ 1048576) :
    Calls Try.prog 72 #[.agg #[.int .i64 n, .slice a l.length cap]] w fun r w' => ∃ a' cap', r = .returned (.agg #[.int .i64 n, .slice a' l.length cap']) ∧ Own bC 5 (w.heap.size ≤ ·) w' a' cap' l ∧ Below w.heap.size w w' := by
  have zz : w.heap.size < w.heap.size + 1 + 1 := by omega
  go_enter Try.func72, Try.ntmps72
  go_wp2_with (at_builtin; go_must (refine wpList_join rfl _ _ 40 rfl (w.heap.size + 1 + 1) 5 _ _ Try.underlying40 infoU8 rfl (some ⟨w.heap.size + 1 + 1, 0, none⟩) 0 [] rfl (by have := Own.lit (enc := bC) (e := 5) (w := (w.alloc (Obj.cells #[Value.int IntKind.i64 n, Value.slice a l.length cap] 45)).alloc (Obj.cells #[Value.int IntKind.i64 0, Value.slice none 0 0] 45)) (w.heap.size + 1 + 1) (by simp); simpa using this) S a cap l rfl (h.below (by repeat (first | exact Below.refl _ _ | assumption | refine Below.step ?_ (by assumption) | refine Below.drew ?_ | refine Below.drewN ?_ _ | refine Below.alloc ?_ (by first | omega | (simp only [World.size_alloc, size_setCell, size_drew, size_drewN]; omega)) _ | refine Below.setCell ?_ (by first | (dsimp only; omega) | (simp only [World.size_alloc, size_setCell, size_drew, size_drewN]; omega)) _))) bC_one (by unfold maxLen; simp; omega) (by simp; omega) (by simp) ?_; intro a1 c1 w1 ho1 hg1); have hc1 := fun b o (hh : b < w.heap.size + 1 + 1) => hg1.below.cell (p := ⟨b, o, none⟩) hh; have hf1 := fun b o (hh : b < w.heap.size + 1 + 1) => hg1.below.frozen (p := ⟨b, o, none⟩) hh)
  refine bodyPost_ret (v := .agg #[.int .i64 n, .slice a1 l.length c1]) (by simp [results, Try.results72, go_sem, hc1, hf1, zz]) rfl ?_
  have hz1 := hg1.below.size
  simp only [World.size_alloc] at hz1
  have hb1 : Below w.heap.size w w1 := (Below.trans ((by repeat (first | exact Below.refl _ _ | assumption | refine Below.step ?_ (by assumption) | refine Below.drew ?_ | refine Below.drewN ?_ _ | refine Below.alloc ?_ (by first | omega | (simp only [World.size_alloc, size_setCell, size_drew, size_drewN]; omega)) _ | refine Below.setCell ?_ (by first | (dsimp only; omega) | (simp only [World.size_alloc, size_setCell, size_drew, size_drewN]; omega)) _))) (hg1.below.mono (by omega)))
  rw [List.nil_append] at ho1
  exact ⟨a1, c1, rfl, (Own.lift ho1 (by intro b hS hb; (try simp only [World.size_alloc, size_setCell, size_drew, size_drewN] at hS); (try simp only [heap_drew, heap_drewN]); repeat (first | rfl | rw [Below.heap_setCell _ _ _ _ (by dsimp only; omega)] | rw [Below.heap_alloc _ _ _ (by simp only [World.size_alloc, size_setCell, size_drew, size_drewN]; omega)])) (by intro b _ hb; (try simp only [World.size_alloc, size_setCell, size_drew, size_drewN] at hb); omega)), (by repeat (first | exact Below.refl _ _ | assumption | refine Below.step ?_ (by assumption) | refine Below.drew ?_ | refine Below.drewN ?_ _ | refine Below.alloc ?_ (by first | omega | (simp only [World.size_alloc, size_setCell, size_drew, size_drewN]; omega)) _ | refine Below.setCell ?_ (by first | (dsimp only; omega) | (simp only [World.size_alloc, size_setCell, size_drew, size_drewN]; omega)) _))⟩

def turnL (n : Int) (l : List UInt8) (v : Int) (b : Bool) : List UInt8 := if b = true then withL n l v else woutL n l v

theorem turnL_no {n : Int} {l : List UInt8} (v : Int) (b : Bool) (h : setOk n l = false) : turnL n l v b = [] ∧ turnN n l = 0 := by
  cases b <;> simp [turnL, withL, woutL, turnN, h]
theorem turnL_out {n : Int} {l : List UInt8} (v : Int) (b : Bool) (h : setOk n l = true) (hv : ¬ (0 ≤ v ∧ v < n)) : turnL n l v b = l ∧ turnN n l = n := by
  cases b <;> simp only [turnL, withL, woutL, turnN, h, if_true, if_neg hv, and_self, Bool.false_eq_true, if_false]
theorem turnL_same {n : Int} {l : List UInt8} (v : Nat) (b : Bool) (h : setOk n l = true) (hv : (v : Int) < n) (hk : v / 8 < l.length) (hb : bitAt l v = b) : turnL n l v b = l ∧ turnN n l = n := by
  cases b <;> simp [turnL, withL, woutL, turnN, h, hv]
  · exact clrBit_same hk hb
  · exact setBit_same hk hb

theorem i64_and_nat (a b : Nat) (ha : a < 4294967296) (hb : b < 4294967296) : bits .and .i64 (a : Int) (b : Int) = ((a &&& b : Nat) : Int) := by
  have hx : a &&& b < 2 ^ 32 := Nat.and_lt_two_pow _ (by omega)
  have h1 : (BitVec.ofInt 64 (a : Int)).toNat = a := by
    rw [BitVec.ofInt_natCast, BitVec.toNat_ofNat]; exact Nat.mod_eq_of_lt (by omega)
  have h2 : (BitVec.ofInt 64 (b : Int)).toNat = b := by
    rw [BitVec.ofInt_natCast, BitVec.toNat_ofNat]; exact Nat.mod_eq_of_lt (by omega)
  show IntKind.i64.wrap ((BitVec.ofInt 64 (a : Int) &&& BitVec.ofInt 64 (b : Int)).toNat : Int) = _
  rw [BitVec.toNat_and, h1, h2, IntKind.wrap_i64]
  omega

theorem and255 (x : Int) (h0 : 0 ≤ x) (h1 : x < 256) : bits .and .i64 x 255 = x := by
  obtain ⟨m, rfl⟩ := Int.eq_ofNat_of_zero_le h0
  have h := i64_and_nat m 255 (by omega) (by omega)
  have e : m &&& 255 = m := by
    rw [show (255 : Nat) = 2 ^ 8 - 1 from rfl, Nat.and_two_pow_sub_one_eq_mod]; omega
  rw [e] at h
  exact h

set_option maxHeartbeats 2000000 in
theorem l09Turn_c (S : Nat → Prop) (n : Int) (a : Option Addr) (cap : Nat) (l : List UInt8) (v : Int) (b : Bool) (w : World) (h : Sl bC S w a cap l) (hl : l.length ≤ 1048576) :
    Calls Try.prog 67 #[.agg #[.int .i64 n, .slice a l.length cap], .int .i64 v, .bool b] w fun r w' => ∃ a' cap', r = .returned (.agg #[.int .i64 (turnN n l), .slice a' (turnL n l v b).length cap']) ∧ Own bC 5 (w.heap.size ≤ ·) w' a' cap' (turnL n l v b) ∧ Below w.heap.size w w' := by
  by_cases h1 : setOk n l = true
  case neg =>
    have H1 := Lib.hid (show setOk n l = false by simpa using h1)
    clear h1
    go_enter Try.func67, Try.ntmps67
    go_wp2_with fail
    refine (specSetOk_no _ _ _ _ _ _ (h.below (by repeat (first | exact Below.refl _ _ | assumption | refine Below.step ?_ (by assumption) | refine Below.drew ?_ | refine Below.drewN ?_ _ | refine Below.alloc ?_ (by first | omega | (simp only [World.size_alloc, size_setCell, size_drew, size_drewN]; omega)) _ | refine Below.setCell ?_ (by first | (dsimp only; omega) | (simp only [World.size_alloc, size_setCell, size_drew, size_drewN]; omega)) _))) hl H1.out).mono ?_
    rintro _ w1 ⟨rfl, hb1⟩
    obtain ⟨hc1, hf1⟩ := bcell hb1
    have hz1 := hb1.size
    try simp only [World.size_alloc, size_setCell, size_drew, size_drewN] at hz1
    have hz1x0 : w.heap.size < w1.heap.size := by omega
    have hz1x1 : w.heap.size + 1 < w1.heap.size := by omega
    go_wp2
    rw [(turnL_no v b H1.out).1, (turnL_no v b H1.out).2]
    refine bodyPost_ret (v := .agg #[.int .i64 0, .slice none 0 0]) (by simp [results, Try.results67, go_sem, hc1, hf1, hz1x0, hz1x1]) rfl ?_
    exact ⟨none, 0, rfl, Own.nil, (by repeat (first | exact Below.refl _ _ | assumption | refine Below.step ?_ (by assumption) | refine Below.drew ?_ | refine Below.drewN ?_ _ | refine Below.alloc ?_ (by first | omega | (simp only [World.size_alloc, size_setCell, size_drew, size_drewN]; omega)) _ | refine Below.setCell ?_ (by first | (dsimp only; omega) | (simp only [World.size_alloc, size_setCell, size_drew, size_drewN]; omega)) _))⟩
  case pos =>
    obtain ⟨hn0, hn1, hn2⟩ := setOk_len h1
    have H1 := Lib.hid h1
    have HN := Lib.hid hn2
    clear h1 hn2
    by_cases hv : 0 ≤ v ∧ v < n
    · obtain ⟨k, rfl⟩ := Int.eq_ofNat_of_zero_le hv.1
      have hk8 : k / 8 < l.length := by have := HN.out; omega
      have hv2 := hv.2
      clear hv
      have HH := Lib.hid (show hasB n l (k : Int) = bitAt l k by rw [Bool.eq_iff_iff]; simp [hasB, H1.out, hv2])
      have hd0 : decide ((k : Int) < 0) = false := by simp
      have hd1 : decide (n ≤ (k : Int)) = false := by simp; omega
      go_enter Try.func67, Try.ntmps67
      go_wp2_with fail
      refine (specSetOk_yes _ _ _ _ _ _ (h.below (by repeat (first | exact Below.refl _ _ | assumption | refine Below.step ?_ (by assumption) | refine Below.drew ?_ | refine Below.drewN ?_ _ | refine Below.alloc ?_ (by first | omega | (simp only [World.size_alloc, size_setCell, size_drew, size_drewN]; omega)) _ | refine Below.setCell ?_ (by first | (dsimp only; omega) | (simp only [World.size_alloc, size_setCell, size_drew, size_drewN]; omega)) _))) hl H1.out).mono ?_
      rintro _ w1 ⟨rfl, hb1⟩
      obtain ⟨hc1, hf1⟩ := bcell hb1
      have hz1 := hb1.size
      try simp only [World.size_alloc, size_setCell, size_drew, size_drewN] at hz1
      have hz1x0 : w.heap.size < w1.heap.size := by omega
      have hz1x1 : w.heap.size + 1 < w1.heap.size := by omega
      have hB1 : Below w.heap.size w w1 := (by repeat (first | exact Below.refl _ _ | assumption | refine Below.step ?_ (by assumption) | refine Below.drew ?_ | refine Below.drewN ?_ _ | refine Below.alloc ?_ (by first | omega | (simp only [World.size_alloc, size_setCell, size_drew, size_drewN]; omega)) _ | refine Below.setCell ?_ (by first | (dsimp only; omega) | (simp only [World.size_alloc, size_setCell, size_drew, size_drewN]; omega)) _))
      go_wp2_with fail
      refine (l09Copy_c _ _ _ _ _ _ (h.below hB1) hl).mono ?_
      rintro _ w2 ⟨a2, c2, rfl, ho2, hb2⟩
      obtain ⟨hc2, hf2⟩ := bcell hb2
      have hz2 := hb2.size
      have hz2x0 : w.heap.size < w2.heap.size := by omega
      have hz2x1 : w.heap.size + 1 < w2.heap.size := by omega
      have hB2 : Below w.heap.size w w2 := Below.step hB1 hb2
      go_wp2_with fail
      refine (specHas _ _ _ _ _ _ _ ((h.below hB2).alloc _) hl).mono ?_
      rintro _ w3 ⟨rfl, hb3⟩
      rw [HH.out]
      obtain ⟨hc3, hf3⟩ := bcell hb3
      have hz3 := hb3.size
      simp only [World.size_alloc] at hz3
      have hz3x0 : w.heap.size < w3.heap.size := by omega
      have hz3x1 : w.heap.size + 1 < w3.heap.size := by omega
      have hz3o : w2.heap.size < w3.heap.size := by omega
      have ho3 := (ho2.alloc (Obj.cells #[Value.int IntKind.i64 n, Value.slice a2 l.length c2] 45)).below hb3
      have hB3 : Below w.heap.size w w3 := Below.step (hB2.alloc hB2.size _) hb3
      by_cases hbb : bitAt l k = b
      · have E := Lib.hid (turnL_same k b H1.out hv2 hk8 hbb)
        have hbe : (bitAt l k == b) = true := by simpa using hbb
        have HBB := Lib.hid hbb
        clear hbb
        go_wp2
        rw [E.out.1, E.out.2]
        refine bodyPost_ret (v := .agg #[.int .i64 n, .slice a2 l.length c2]) (by simp [results, Try.results67, go_sem, hc1, hf1, hc2, hf2, hc3, hf3, hz1x0, hz1x1, hz2x0, hz2x1, hz3x0, hz3x1, hz3o]) rfl ?_
        exact ⟨a2, c2, rfl, (Own.lift ho3 (by intro b hS hb; (try simp only [World.size_alloc, size_setCell, size_drew, size_drewN] at hS); (try simp only [heap_drew, heap_drewN]); repeat (first | rfl | rw [Below.heap_setCell _ _ _ _ (by dsimp only; omega)] | rw [Below.heap_alloc _ _ _ (by simp only [World.size_alloc, size_setCell, size_drew, size_drewN]; omega)])) (by intro b _ hb; (try simp only [World.size_alloc, size_setCell, size_drew, size_drewN] at hb); omega)), (by repeat (first | exact Below.refl _ _ | assumption | refine Below.step ?_ (by assumption) | refine Below.drew ?_ | refine Below.drewN ?_ _ | refine Below.alloc ?_ (by first | omega | (simp only [World.size_alloc, size_setCell, size_drew, size_drewN]; omega)) _ | refine Below.setCell ?_ (by first | (dsimp only; omega) | (simp only [World.size_alloc, size_setCell, size_drew, size_drewN]; omega)) _))⟩
      · have hbe : (bitAt l k == b) = false := by simpa using hbb
        obtain ⟨b0, off0, rfl, hS0, hb0w, hcell⟩ := h.get (by omega)
        have gs : w3.cell? ⟨b0, off0 + k / 8, none⟩ = some (.int .u8 (l[k / 8].toNat : Int)) := (hB3.cell (p := ⟨b0, off0 + k / 8, none⟩) hb0w).trans (hcell (k / 8) hk8)
        obtain ⟨b1, off1, rfl, hS, hbw, hcell2⟩ := ho3.sl.get (by omega)
        obtain ⟨y, hy⟩ : ∃ y : UInt8, y = UInt8.ofNat (if b = true then ((l.getD (k / 8) 0).toNat ||| 2 ^ (k % 8)) else ((l.getD (k / 8) 0).toNat &&& (255 - 2 ^ (k % 8)))) := ⟨_, rfl⟩
        obtain ⟨rfl, _, g1, g2, hst⟩ := ho3.set rfl hk8 y
        unfold bC at g1
        have hx := l[k / 8].toNat_lt
        obtain ⟨hw1, hw2⟩ := bitW_le k
        have E : turnL n l (k : Int) b = l.set (k / 8) y ∧ turnN n l = n := by
          rw [hy]; cases b <;> simp [turnL, withL, woutL, turnN, H1.out, hv2, setBit, clrBit]
        have hgd : (l.getD (k / 8) 0) = l[k / 8] := by simp [List.getD, hk8]
        have hyv : (y.toNat : Int) = if b = true then (l[k / 8].toNat : Int) + bitW k else (l[k / 8].toNat : Int) - bitW k := by
          have hb8 := bits_nat8 l[k / 8].toNat (k % 8) hx (by omega)
          have hbit : bitAt l k = decide (l[k / 8].toNat / 2 ^ (k % 8) % 2 = 1) := by unfold bitAt; rw [hgd]
          rw [hy, hgd]
          unfold bitW
          cases b
          · have hb1 : l[k / 8].toNat / 2 ^ (k % 8) % 2 = 1 := by rw [hbit] at hbb; simpa using hbb
            obtain ⟨_, e2, e3⟩ := hb8.1 hb1
            simp only [Bool.false_eq_true, if_false]
            rw [e2, ofNat_toNat (l[k / 8].toNat - 2 ^ (k % 8)) (Nat.lt_of_le_of_lt (Nat.sub_le _ _) hx)]
            omega
          · have hb1 : ¬ l[k / 8].toNat / 2 ^ (k % 8) % 2 = 1 := by rw [hbit] at hbb; simpa using hbb
            obtain ⟨e1, _, e3⟩ := hb8.2 hb1
            simp only [if_true]
            rw [e1, ofNat_toNat (l[k / 8].toNat + 2 ^ (k % 8)) e3]
            omega
        have hyl := y.toNat_lt
        have HE := Lib.hid E
        have HY := Lib.hid hyv
        clear E hyv hy hcell hcell2 hgd hbb
        have r0 : w3.cell? ⟨w.heap.size, 0, none⟩ = some (.int .i64 n) := cell_below hb3 (cell_alloc (by rw [hc2 _ _ (by omega), hc1 _ _ (by simp only [World.size_alloc]; omega)]; simp [go_sem]) _)
        have r1 : w3.cell? ⟨w.heap.size, 1, none⟩ = some (.slice (some ⟨b0, off0, none⟩) l.length cap) := cell_below hb3 (cell_alloc (by rw [hc2 _ _ (by omega), hc1 _ _ (by simp only [World.size_alloc]; omega)]; simp [go_sem]) _)
        have p0 : w3.cell? ⟨w.heap.size + 1, 0, none⟩ = some (.int .i64 0) := cell_below hb3 (cell_alloc (by rw [hc2 _ _ (by omega), hc1 _ _ (by simp only [World.size_alloc]; omega)]; simp [go_sem]) _)
        have p1 : w3.cell? ⟨w.heap.size + 1, 1, none⟩ = some (.slice none 0 0) := cell_below hb3 (cell_alloc (by rw [hc2 _ _ (by omega), hc1 _ _ (by simp only [World.size_alloc]; omega)]; simp [go_sem]) _)
        have o0 : w3.cell? ⟨w2.heap.size, 0, none⟩ = some (.int .i64 n) := cell_below hb3 (by simp [go_sem])
        have o1 : w3.cell? ⟨w2.heap.size, 1, none⟩ = some (.slice (some ⟨b1, 0, none⟩) l.length c2) := cell_below hb3 (by simp [go_sem])
        have p2 : w3.frozen? ⟨w.heap.size + 1, 0, none⟩ = false := by rw [hf3 _ _ (by simp only [World.size_alloc]; omega), ((Below.refl w2.heap.size w2).alloc (Nat.le_refl _) _).frozen (by dsimp only; omega), hf2 _ _ (by omega), hf1 _ _ (by simp only [World.size_alloc]; omega)]; simp [go_sem]
        have p3 : w3.frozen? ⟨w.heap.size + 1, 1, none⟩ = false := by rw [hf3 _ _ (by simp only [World.size_alloc]; omega), ((Below.refl w2.heap.size w2).alloc (Nat.le_refl _) _).frozen (by dsimp only; omega), hf2 _ _ (by omega), hf1 _ _ (by simp only [World.size_alloc]; omega)]; simp [go_sem]
        have hbo : b1 < w2.heap.size := by
          have := (ho2.block b1 rfl).2
          exact this
        have n1 : b1 ≠ w2.heap.size := by omega
        have n2 : b1 ≠ w.heap.size + 1 := by omega
        have n3 : b1 ≠ w.heap.size := by omega
        have q2 : ((k : Int) / 8).toNat = k / 8 := by omega
        have q3 : 0 ≤ (k : Int) / 8 := by omega
        have q4 : (k : Int) / 8 < (l.length : Int) := by omega
        clear hc1 hf1 hc2 hf2 hc3 hf3 hb1 hb2 hb3
        have HST := Lib.hid hst
        clear hst
        cases b
        · simp only [Bool.false_eq_true, if_false] at HY
          have HY2 : (y.toNat : Int) = (l[k / 8].toNat : Int) - bitW k := HY.out
          have qa : bits .and .i64 ((l[k / 8].toNat : Int) - bitW k) 255 = (l[k / 8].toNat : Int) - bitW k := and255 _ (by omega) (by omega)
          have qb : 0 ≤ (l[k / 8].toNat : Int) - bitW k := by omega
          have qc : (l[k / 8].toNat : Int) - bitW k ≤ 255 := by omega
          have HY3 := Lib.hid HY2
          clear HY2
          go_wp2_with fail
          refine (l09Bit_c k _ (by omega)).mono ?_
          rintro _ _ ⟨rfl, rfl⟩
          go_wp2
          have hsl : (turnL n l (k : Int) false).length = l.length := by rw [HE.out.1, List.length_set]
          rw [hsl, HE.out.1, HE.out.2]
          refine bodyPost_ret (v := .agg #[.int .i64 n, .slice (some ⟨b1, 0, none⟩) l.length c2]) (by simp [results, Try.results67, go_sem, p0, p1, p2, p3, o0, o1, r0, r1, n1, n2, n3, hz3x0, hz3x1, hz3o]) rfl ?_
          have hst' : Own bC 5 (fun x => w2.heap.size ≥ 0 ∧ w1.heap.size ≤ x) (w3.setCell ⟨b1, k / 8, none⟩ (.int .u8 ((l[k / 8].toNat : Int) - bitW k))) (some ⟨b1, 0, none⟩) c2 (l.set (k / 8) y) := by
            have e : bC y = .int .u8 ((l[k / 8].toNat : Int) - bitW k) := congrArg (Value.int .u8) HY3.out
            rw [← e]
            exact HST.out.mono fun b _ hb => ⟨Nat.zero_le _, hb⟩
          exact ⟨_, c2, rfl, Own.lift hst' (by intro b hS hb; (try simp only [World.size_alloc, size_setCell, size_drew, size_drewN] at hS); (try simp only [heap_drew, heap_drewN]); repeat (first | rfl | rw [Below.heap_setCell _ _ _ _ (by dsimp only; omega)] | rw [Below.heap_alloc _ _ _ (by simp only [World.size_alloc, size_setCell, size_drew, size_drewN]; omega)])) (by intro b _ hb; have := hb.2; omega), (by repeat (first | exact Below.refl _ _ | assumption | refine Below.step ?_ (by assumption) | refine Below.drew ?_ | refine Below.drewN ?_ _ | refine Below.alloc ?_ (by first | omega | (simp only [World.size_alloc, size_setCell, size_drew, size_drewN]; omega)) _ | refine Below.setCell ?_ (by first | (dsimp only; omega) | (simp only [World.size_alloc, size_setCell, size_drew, size_drewN]; omega)) _))⟩
        · simp only [if_true] at HY
          have HY2 : (y.toNat : Int) = (l[k / 8].toNat : Int) + bitW k := HY.out
          have qa : bits .and .i64 ((l[k / 8].toNat : Int) + bitW k) 255 = (l[k / 8].toNat : Int) + bitW k := and255 _ (by omega) (by omega)
          have qb : 0 ≤ (l[k / 8].toNat : Int) + bitW k := by omega
          have qc : (l[k / 8].toNat : Int) + bitW k ≤ 255 := by omega
          have HY3 := Lib.hid HY2
          clear HY2
          go_wp2_with fail
          refine (l09Bit_c k _ (by omega)).mono ?_
          rintro _ _ ⟨rfl, rfl⟩
          go_wp2
          have hsl : (turnL n l (k : Int) true).length = l.length := by rw [HE.out.1, List.length_set]
          rw [hsl, HE.out.1, HE.out.2]
          refine bodyPost_ret (v := .agg #[.int .i64 n, .slice (some ⟨b1, 0, none⟩) l.length c2]) (by simp [results, Try.results67, go_sem, p0, p1, p2, p3, o0, o1, r0, r1, n1, n2, n3, hz3x0, hz3x1, hz3o]) rfl ?_
          have hst' : Own bC 5 (fun x => w2.heap.size ≥ 0 ∧ w1.heap.size ≤ x) (w3.setCell ⟨b1, k / 8, none⟩ (.int .u8 ((l[k / 8].toNat : Int) + bitW k))) (some ⟨b1, 0, none⟩) c2 (l.set (k / 8) y) := by
            have e : bC y = .int .u8 ((l[k / 8].toNat : Int) + bitW k) := congrArg (Value.int .u8) HY3.out
            rw [← e]
            exact HST.out.mono fun b _ hb => ⟨Nat.zero_le _, hb⟩
          exact ⟨_, c2, rfl, Own.lift hst' (by intro b hS hb; (try simp only [World.size_alloc, size_setCell, size_drew, size_drewN] at hS); (try simp only [heap_drew, heap_drewN]); repeat (first | rfl | rw [Below.heap_setCell _ _ _ _ (by dsimp only; omega)] | rw [Below.heap_alloc _ _ _ (by simp only [World.size_alloc, size_setCell, size_drew, size_drewN]; omega)])) (by intro b _ hb; have := hb.2; omega), (by repeat (first | exact Below.refl _ _ | assumption | refine Below.step ?_ (by assumption) | refine Below.drew ?_ | refine Below.drewN ?_ _ | refine Below.alloc ?_ (by first | omega | (simp only [World.size_alloc, size_setCell, size_drew, size_drewN]; omega)) _ | refine Below.setCell ?_ (by first | (dsimp only; omega) | (simp only [World.size_alloc, size_setCell, size_drew, size_drewN]; omega)) _))⟩
    · have E := Lib.hid (turnL_out v b H1.out hv)
      have HV := Lib.hid hv
      clear hv
      by_cases hv0 : v < 0
      · have hd0 : decide (v < 0) = true := by simpa using hv0
        go_enter Try.func67, Try.ntmps67
        go_wp2_with fail
        refine (specSetOk_yes _ _ _ _ _ _ (h.below (by repeat (first | exact Below.refl _ _ | assumption | refine Below.step ?_ (by assumption) | refine Below.drew ?_ | refine Below.drewN ?_ _ | refine Below.alloc ?_ (by first | omega | (simp only [World.size_alloc, size_setCell, size_drew, size_drewN]; omega)) _ | refine Below.setCell ?_ (by first | (dsimp only; omega) | (simp only [World.size_alloc, size_setCell, size_drew, size_drewN]; omega)) _))) hl H1.out).mono ?_
        rintro _ w1 ⟨rfl, hb1⟩
        obtain ⟨hc1, hf1⟩ := bcell hb1
        have hz1 := hb1.size
        try simp only [World.size_alloc, size_setCell, size_drew, size_drewN] at hz1
        have hz1x0 : w.heap.size < w1.heap.size := by omega
        have hz1x1 : w.heap.size + 1 < w1.heap.size := by omega
        have hB1 : Below w.heap.size w w1 := (by repeat (first | exact Below.refl _ _ | assumption | refine Below.step ?_ (by assumption) | refine Below.drew ?_ | refine Below.drewN ?_ _ | refine Below.alloc ?_ (by first | omega | (simp only [World.size_alloc, size_setCell, size_drew, size_drewN]; omega)) _ | refine Below.setCell ?_ (by first | (dsimp only; omega) | (simp only [World.size_alloc, size_setCell, size_drew, size_drewN]; omega)) _))
        go_wp2_with fail
        refine (l09Copy_c _ _ _ _ _ _ (h.below hB1) hl).mono ?_
        rintro _ w2 ⟨a2, c2, rfl, ho2, hb2⟩
        obtain ⟨hc2, hf2⟩ := bcell hb2
        have hz2 := hb2.size
        have hz2x0 : w.heap.size < w2.heap.size := by omega
        have hz2x1 : w.heap.size + 1 < w2.heap.size := by omega
        go_wp2
        rw [E.out.1, E.out.2]
        refine bodyPost_ret (v := .agg #[.int .i64 n, .slice a2 l.length c2]) (by simp [results, Try.results67, go_sem, hc1, hf1, hc2, hf2, hz1x0, hz1x1, hz2x0, hz2x1]) rfl ?_
        have hB2 : Below w.heap.size w w2 := Below.step hB1 hb2
        exact ⟨a2, c2, rfl, (Own.lift ho2 (by intro b hS hb; (try simp only [World.size_alloc, size_setCell, size_drew, size_drewN] at hS); (try simp only [heap_drew, heap_drewN]); repeat (first | rfl | rw [Below.heap_setCell _ _ _ _ (by dsimp only; omega)] | rw [Below.heap_alloc _ _ _ (by simp only [World.size_alloc, size_setCell, size_drew, size_drewN]; omega)])) (by intro b _ hb; (try simp only [World.size_alloc, size_setCell, size_drew, size_drewN] at hb); omega)), (by repeat (first | exact Below.refl _ _ | assumption | refine Below.step ?_ (by assumption) | refine Below.drew ?_ | refine Below.drewN ?_ _ | refine Below.alloc ?_ (by first | omega | (simp only [World.size_alloc, size_setCell, size_drew, size_drewN]; omega)) _ | refine Below.setCell ?_ (by first | (dsimp only; omega) | (simp only [World.size_alloc, size_setCell, size_drew, size_drewN]; omega)) _))⟩
      · have hd0 : decide (v < 0) = false := by simpa using hv0
        have hvn : n ≤ v := by have := HV.out; omega
        have hd1 : decide (n ≤ v) = true := by simpa using hvn
        go_enter Try.func67, Try.ntmps67
        go_wp2_with fail
        refine (specSetOk_yes _ _ _ _ _ _ (h.below (by repeat (first | exact Below.refl _ _ | assumption | refine Below.step ?_ (by assumption) | refine Below.drew ?_ | refine Below.drewN ?_ _ | refine Below.alloc ?_ (by first | omega | (simp only [World.size_alloc, size_setCell, size_drew, size_drewN]; omega)) _ | refine Below.setCell ?_ (by first | (dsimp only; omega) | (simp only [World.size_alloc, size_setCell, size_drew, size_drewN]; omega)) _))) hl H1.out).mono ?_
        rintro _ w1 ⟨rfl, hb1⟩
        obtain ⟨hc1, hf1⟩ := bcell hb1
        have hz1 := hb1.size
        try simp only [World.size_alloc, size_setCell, size_drew, size_drewN] at hz1
        have hz1x0 : w.heap.size < w1.heap.size := by omega
        have hz1x1 : w.heap.size + 1 < w1.heap.size := by omega
        have hB1 : Below w.heap.size w w1 := (by repeat (first | exact Below.refl _ _ | assumption | refine Below.step ?_ (by assumption) | refine Below.drew ?_ | refine Below.drewN ?_ _ | refine Below.alloc ?_ (by first | omega | (simp only [World.size_alloc, size_setCell, size_drew, size_drewN]; omega)) _ | refine Below.setCell ?_ (by first | (dsimp only; omega) | (simp only [World.size_alloc, size_setCell, size_drew, size_drewN]; omega)) _))
        go_wp2_with fail
        refine (l09Copy_c _ _ _ _ _ _ (h.below hB1) hl).mono ?_
        rintro _ w2 ⟨a2, c2, rfl, ho2, hb2⟩
        obtain ⟨hc2, hf2⟩ := bcell hb2
        have hz2 := hb2.size
        have hz2x0 : w.heap.size < w2.heap.size := by omega
        have hz2x1 : w.heap.size + 1 < w2.heap.size := by omega
        go_wp2
        rw [E.out.1, E.out.2]
        refine bodyPost_ret (v := .agg #[.int .i64 n, .slice a2 l.length c2]) (by simp [results, Try.results67, go_sem, hc1, hf1, hc2, hf2, hz1x0, hz1x1, hz2x0, hz2x1]) rfl ?_
        have hB2 : Below w.heap.size w w2 := Below.step hB1 hb2
        exact ⟨a2, c2, rfl, (Own.lift ho2 (by intro b hS hb; (try simp only [World.size_alloc, size_setCell, size_drew, size_drewN] at hS); (try simp only [heap_drew, heap_drewN]); repeat (first | rfl | rw [Below.heap_setCell _ _ _ _ (by dsimp only; omega)] | rw [Below.heap_alloc _ _ _ (by simp only [World.size_alloc, size_setCell, size_drew, size_drewN]; omega)])) (by intro b _ hb; (try simp only [World.size_alloc, size_setCell, size_drew, size_drewN] at hb); omega)), (by repeat (first | exact Below.refl _ _ | assumption | refine Below.step ?_ (by assumption) | refine Below.drew ?_ | refine Below.drewN ?_ _ | refine Below.alloc ?_ (by first | omega | (simp only [World.size_alloc, size_setCell, size_drew, size_drewN]; omega)) _ | refine Below.setCell ?_ (by first | (dsimp only; omega) | (simp only [World.size_alloc, size_setCell, size_drew, size_drewN]; omega)) _))⟩

end Go.Proofs.Ytjejhdogbhdgoaa
