/-
  Plain laws on the bits of sets. No conditions of its own.
-/
import Derived.Test.YtfkpmhnfpljakaaK1
namespace Go.Proofs.Ytfkpmhnfpljakaa
set_option linter.unusedSimpArgs false
set_option linter.unusedVariables false
set_option linter.unusedSimpArgs false
set_option linter.unusedVariables false
set_option linter.defProp false
open Go.RowKit

def setBit (l : List UInt8) (v : Nat) : List UInt8 := l.set (v / 8) (UInt8.ofNat ((l.getD (v / 8) 0).toNat ||| 2 ^ (v % 8)))

def clrBit (l : List UInt8) (v : Nat) : List UInt8 := l.set (v / 8) (UInt8.ofNat ((l.getD (v / 8) 0).toNat &&& (255 - 2 ^ (v % 8))))

theorem pow_int (k : Nat) (h : k < 8) : IntKind.u8.wrap (2 ^ k) = ((2 ^ k : Nat) : Int) := by
  have := pow_le k (by omega)
  have h2 : ((2 : Int) ^ k) = ((2 ^ k : Nat) : Int) := by push_cast; rfl
  rw [h2]
  generalize 2 ^ k = m at *
  exact IntWalk.u8_in _ (by omega)

theorem ofNat_toNat (m : Nat) (h : m < 256) : (UInt8.ofNat m).toNat = m := by
  simp; omega

theorem or_val (x : UInt8) (k : Nat) (h : k < 8) : bits BinOp.or IntKind.u8 (x.toNat : Int) (IntKind.u8.wrap (2 ^ k)) = ((UInt8.ofNat (x.toNat ||| 2 ^ k)).toNat : Int) := by
  have hx := x.toNat_lt
  have hp := pow_le k (by omega)
  have ho : x.toNat ||| 2 ^ k < 2 ^ 8 := Nat.or_lt_two_pow (by omega) (by omega)
  rw [pow_int k h, u8_or_nat _ _ (by omega) (by omega), ofNat_toNat _ ho]

theorem clr_val (x : UInt8) (k : Nat) (h : k < 8) : bits BinOp.andNot IntKind.u8 (x.toNat : Int) (IntKind.u8.wrap (2 ^ k)) = ((UInt8.ofNat (x.toNat &&& (255 - 2 ^ k))).toNat : Int) := by
  have hx := x.toNat_lt
  have hp := pow_le k (by omega)
  have ho : x.toNat &&& (255 - 2 ^ k) < 2 ^ 8 := Nat.and_lt_two_pow _ (Nat.lt_of_le_of_lt (Nat.sub_le _ _) (by omega))
  rw [pow_int k h, u8_andNot_nat _ _ (by omega) (by omega), ofNat_toNat _ ho]

def turnN (n : Int) (l : List UInt8) : Int := if setOk n l = true then n else 0

def withL (n : Int) (l : List UInt8) (v : Int) : List UInt8 := if setOk n l = true then (if 0 ≤ v ∧ v < n then setBit l v.toNat else l) else []

def woutL (n : Int) (l : List UInt8) (v : Int) : List UInt8 := if setOk n l = true then (if 0 ≤ v ∧ v < n then clrBit l v.toNat else l) else []

theorem bits_fin : ∀ x : Fin 256, ∀ k : Fin 8, (x.val / 2 ^ k.val % 2 = 1 → x.val ||| 2 ^ k.val = x.val ∧ x.val &&& (255 - 2 ^ k.val) = x.val - 2 ^ k.val ∧ 2 ^ k.val ≤ x.val) ∧
    (¬ x.val / 2 ^ k.val % 2 = 1 → x.val ||| 2 ^ k.val = x.val + 2 ^ k.val ∧ x.val &&& (255 - 2 ^ k.val) = x.val ∧ x.val + 2 ^ k.val < 256) := by
  decide +kernel

theorem bits_nat8 (x k : Nat) (hx : x < 256) (hk : k < 8) : (x / 2 ^ k % 2 = 1 → x ||| 2 ^ k = x ∧ x &&& (255 - 2 ^ k) = x - 2 ^ k ∧ 2 ^ k ≤ x) ∧
    (¬ x / 2 ^ k % 2 = 1 → x ||| 2 ^ k = x + 2 ^ k ∧ x &&& (255 - 2 ^ k) = x ∧ x + 2 ^ k < 256) := bits_fin ⟨x, hx⟩ ⟨k, hk⟩

theorem set_same (l : List UInt8) (i : Nat) (hi : i < l.length) (y : UInt8) (h : y = l[i]) : l.set i y = l := by
  subst h; exact List.set_getElem_self hi

theorem u8_back (x : UInt8) (m : Nat) (h : m = x.toNat) : UInt8.ofNat m = x := by
  subst h; simp

theorem setBit_same {l : List UInt8} {v : Nat} (hv : v / 8 < l.length) (h : bitAt l v = true) : setBit l v = l := by
  unfold bitAt at h
  simp [List.getD, hv] at h
  unfold setBit
  refine set_same _ _ hv _ ?_
  simp only [List.getD, List.getElem?_eq_getElem hv, Option.getD_some]
  exact u8_back _ _ (((bits_nat8 _ (v % 8) l[v / 8].toNat_lt (by omega)).1 h).1)

theorem clrBit_same {l : List UInt8} {v : Nat} (hv : v / 8 < l.length) (h : bitAt l v = false) : clrBit l v = l := by
  unfold bitAt at h
  simp [List.getD, hv] at h
  unfold clrBit
  refine set_same _ _ hv _ ?_
  simp only [List.getD, List.getElem?_eq_getElem hv, Option.getD_some]
  exact u8_back _ _ (((bits_nat8 _ (v % 8) l[v / 8].toNat_lt (by omega)).2 (by omega)).2.1)

def turnL (n : Int) (l : List UInt8) (v : Int) (b : Bool) : List UInt8 := if b = true then withL n l v else woutL n l v

theorem turnL_no {n : Int} {l : List UInt8} (v : Int) (b : Bool) (h : setOk n l = false) : turnL n l v b = [] ∧ turnN n l = 0 := by
  cases b <;> simp [turnL, withL, woutL, turnN, h]

theorem turnL_out {n : Int} {l : List UInt8} (v : Int) (b : Bool) (h : setOk n l = true) (hv : ¬ (0 ≤ v ∧ v < n)) : turnL n l v b = l ∧ turnN n l = n := by
  cases b <;> simp only [turnL, withL, woutL, turnN, h, if_true, if_neg hv, and_self, Bool.false_eq_true, if_false]

theorem turnL_same {n : Int} {l : List UInt8} (v : Nat) (b : Bool) (h : setOk n l = true) (hv : (v : Int) < n) (hk : v / 8 < l.length) (hb : bitAt l v = b) : turnL n l v b = l ∧ turnN n l = n := by
  cases b <;> simp [turnL, withL, woutL, turnN, h, hv]
  · exact clrBit_same hk hb
  · exact setBit_same hk hb

theorem i64_and_nat (a b : Nat) (ha : a < 4294967296) (hb : b < 4294967296) : bits .and .i64 (a : Int) (b : Int) = ((a &&& b : Nat) : Int) := by
  have hx : a &&& b < 2 ^ 32 := Nat.and_lt_two_pow _ (by omega)
  have h1 : (BitVec.ofInt 64 (a : Int)).toNat = a := by
    rw [BitVec.ofInt_natCast, BitVec.toNat_ofNat]; exact Nat.mod_eq_of_lt (by omega)
  have h2 : (BitVec.ofInt 64 (b : Int)).toNat = b := by
    rw [BitVec.ofInt_natCast, BitVec.toNat_ofNat]; exact Nat.mod_eq_of_lt (by omega)
  show IntKind.i64.wrap ((BitVec.ofInt 64 (a : Int) &&& BitVec.ofInt 64 (b : Int)).toNat : Int) = _
  rw [BitVec.toNat_and, h1, h2, IntKind.wrap_i64]
  omega

theorem and255 (x : Int) (h0 : 0 ≤ x) (h1 : x < 256) : bits .and .i64 x 255 = x := by
  obtain ⟨m, rfl⟩ := Int.eq_ofNat_of_zero_le h0
  have h := i64_and_nat m 255 (by omega) (by omega)
  have e : m &&& 255 = m := by
    rw [show (255 : Nat) = 2 ^ 8 - 1 from rfl, Nat.and_two_pow_sub_one_eq_mod]; omega
  rw [e] at h
  exact h

theorem bitAt_test (l : List UInt8) (v : Nat) : bitAt l v = (l.getD (v / 8) 0).toNat.testBit (v % 8) := by
  unfold bitAt; rw [Nat.testBit_eq_decide_div_mod_eq]

theorem bitAt_setBit (l : List UInt8) (k v : Nat) (hk : k / 8 < l.length) : bitAt (setBit l k) v = (decide (v = k) || bitAt l v) := by
  rw [bitAt_test, bitAt_test]
  unfold setBit
  have hx := (l.getD (k / 8) 0).toNat_lt
  have ho : (l.getD (k / 8) 0).toNat ||| 2 ^ (k % 8) < 2 ^ 8 := Nat.or_lt_two_pow hx (Nat.pow_lt_pow_right (by omega) (by omega))
  by_cases h8 : v / 8 = k / 8
  · have e : ((l.set (k / 8) (UInt8.ofNat ((l.getD (k / 8) 0).toNat ||| 2 ^ (k % 8)))).getD (v / 8) 0).toNat = (l.getD (k / 8) 0).toNat ||| 2 ^ (k % 8) := by
      rw [h8]
      simp only [List.getD, List.getElem?_set_self hk, Option.getD_some]
      exact ofNat_toNat _ ho
    rw [e, h8, Nat.testBit_or, Nat.testBit_two_pow]
    by_cases hm : k % 8 = v % 8
    · have : v = k := by omega
      simp [this]
    · have : v ≠ k := by intro e; subst e; exact hm rfl
      simp [hm, this]
  · have : v ≠ k := by intro e; subst e; exact h8 rfl
    have e : (l.set (k / 8) (UInt8.ofNat ((l.getD (k / 8) 0).toNat ||| 2 ^ (k % 8)))).getD (v / 8) 0 = l.getD (v / 8) 0 := by
      simp only [List.getD]
      rw [List.getElem?_set_ne (by omega)]
    rw [e]
    simp [this]

/-- The first k of n vertices. -/

def fullTo (n : Nat) : Nat → List UInt8
  | 0 => List.replicate ((n + 7) / 8) 0
  | k + 1 => setBit (fullTo n k) k

theorem fullTo_len (n : Nat) : ∀ k, (fullTo n k).length = (n + 7) / 8
  | 0 => by simp [fullTo]
  | k + 1 => by simp [fullTo, setBit, fullTo_len n k]

theorem fullTo_bit (n : Nat) : ∀ k, k ≤ n → ∀ v, bitAt (fullTo n k) v = decide (v < k)
  | 0, _, v => by
    unfold bitAt fullTo
    have : (List.replicate ((n + 7) / 8) (0 : UInt8)).getD (v / 8) 0 = 0 := by
      simp only [List.getD, List.getElem?_replicate]
      split <;> rfl
    rw [this]
    simp
  | k + 1, hk, v => by
    rw [fullTo, bitAt_setBit _ _ _ (by rw [fullTo_len]; omega), fullTo_bit n k (by omega), Bool.eq_iff_iff]
    simp
    omega

theorem fullTo_ok (n k : Nat) (hn : n ≤ 150) (hk : k ≤ n) : setOk (n : Int) (fullTo n k) = true := by
  unfold setOk
  simp only [decide_eq_true_eq]
  refine ⟨by omega, by omega, by rw [fullTo_len]; simp, fun v _ hv => ?_⟩
  rw [fullTo_bit n k hk]
  simp at hv ⊢
  omega

theorem withL_full (n k : Nat) (hn : n ≤ 150) (hk : k < n) : withL (n : Int) (fullTo n k) (k : Int) = fullTo n (k + 1) ∧ turnN (n : Int) (fullTo n k) = n := by
  have h := fullTo_ok n k hn (by omega)
  constructor
  · unfold withL; rw [if_pos h, if_pos ⟨by omega, by omega⟩]; rfl
  · unfold turnN; rw [if_pos h]

/-- SetNew's bits. -/

def newL (n : Int) (b : Bool) : List UInt8 := if 0 ≤ n ∧ n ≤ 150 then fullTo n.toNat (if b = true then n.toNat else 0) else []

def newN (n : Int) : Int := if 0 ≤ n ∧ n ≤ 150 then n else 0

def newOk (n : Int) : Bool := decide (0 ≤ n ∧ n ≤ 150)

theorem newL_len (n : Int) (b : Bool) : (newL n b).length ≤ 1048576 := by
  unfold newL
  split
  · rw [fullTo_len]; omega
  · simp

theorem newN_in {n : Nat} (h : n ≤ 150) : newN (n : Int) = n ∧ newOk (n : Int) = true := by
  constructor
  · unfold newN; rw [if_pos ⟨by omega, by omega⟩]
  · simp [newOk]; omega

theorem newL_in {n : Nat} (h : n ≤ 150) (b : Bool) : newL (n : Int) b = fullTo n (if b = true then n else 0) := by
  unfold newL; rw [if_pos ⟨by omega, by omega⟩]; rfl

theorem new_out {n : Int} (h : ¬ (0 ≤ n ∧ n ≤ 150)) (b : Bool) : newN n = 0 ∧ newL n b = [] ∧ newOk n = false := by
  refine ⟨?_, ?_, ?_⟩
  · unfold newN; rw [if_neg h]
  · unfold newL; rw [if_neg h]
  · unfold newOk; simpa using h

def orB (x y : UInt8) : UInt8 := UInt8.ofNat (x.toNat ||| y.toNat)

def eitherL (l m : List UInt8) : List UInt8 := List.zipWith orB l m

theorem u8_ext {x y : UInt8} (h : ∀ k, k < 8 → x.toNat.testBit k = y.toNat.testBit k) : x = y := by
  apply UInt8.toNat_inj.1
  apply Nat.eq_of_testBit_eq
  intro i
  by_cases hi : i < 8
  · exact h i hi
  · have hx : x.toNat < 2 ^ i := Nat.lt_of_lt_of_le x.toNat_lt (Nat.pow_le_pow_right (by omega) (by omega))
    have hy : y.toNat < 2 ^ i := Nat.lt_of_lt_of_le y.toNat_lt (Nat.pow_le_pow_right (by omega) (by omega))
    rw [Nat.testBit_lt_two_pow hx, Nat.testBit_lt_two_pow hy]

theorem bits_ext {l m : List UInt8} (hl : l.length = m.length) (h : ∀ v, v < 8 * l.length → bitAt l v = bitAt m v) : l = m := by
  apply list_ext hl
  intro i hi
  have hi' : i < m.length := by omega
  rw [List.getElem?_eq_getElem hi, List.getElem?_eq_getElem hi']
  congr 1
  apply u8_ext
  intro k hk
  have := h (8 * i + k) (by omega)
  rw [bitAt_test, bitAt_test, show (8 * i + k) / 8 = i from by omega, show (8 * i + k) % 8 = k from by omega] at this
  simpa [List.getD, hi, hi'] using this

theorem bitAt_ge {l : List UInt8} {v : Nat} (h : l.length ≤ v / 8) : bitAt l v = false := by
  unfold bitAt
  simp [List.getD, List.getElem?_eq_none h]

theorem bitAt_either {l m : List UInt8} (hl : l.length = m.length) (v : Nat) : bitAt (eitherL l m) v = (bitAt l v || bitAt m v) := by
  by_cases hv : v / 8 < l.length
  · have hv' : v / 8 < m.length := by omega
    have e : (eitherL l m).getD (v / 8) 0 = orB l[v / 8] m[v / 8] := by simp [eitherL, List.getD, List.getElem?_zipWith, hv, hv']
    have ho : l[v / 8].toNat ||| m[v / 8].toNat < 2 ^ 8 := Nat.or_lt_two_pow l[v / 8].toNat_lt m[v / 8].toNat_lt
    rw [bitAt_test, bitAt_test, bitAt_test, e]
    unfold orB
    rw [ofNat_toNat _ ho, Nat.testBit_or]
    simp [List.getD, hv, hv']
  · rw [bitAt_ge (l := l) (by omega), bitAt_ge (l := m) (by omega), bitAt_ge (by simp [eitherL]; omega)]
    rfl

/-- Vertex after vertex set. -/

def setAll (l : List UInt8) (vs : List Int) : List UInt8 := vs.foldl (fun l v => setBit l v.toNat) l

theorem setAll_len (l : List UInt8) (vs : List Int) : (setAll l vs).length = l.length := by
  unfold setAll
  induction vs generalizing l with
  | nil => rfl
  | cons v vs ih => rw [List.foldl_cons, ih]; simp [setBit]

theorem bitAt_setAll (l : List UInt8) (vs : List Int) (h : ∀ v ∈ vs, v.toNat / 8 < l.length) (u : Nat) : bitAt (setAll l vs) u = (bitAt l u || vs.any fun v => decide (v.toNat = u)) := by
  unfold setAll
  induction vs generalizing l with
  | nil => simp
  | cons v vs ih =>
    rw [List.foldl_cons, ih _ (fun x hx => by simpa [setBit] using h x (List.mem_cons_of_mem _ hx)), bitAt_setBit _ _ _ (h v List.mem_cons_self), List.any_cons]
    rw [Bool.eq_iff_iff]
    simp only [Bool.or_eq_true, decide_eq_true_eq]
    constructor
    · rintro ((h1 | h1) | h1)
      · exact .inr (.inl h1.symm)
      · exact .inl h1
      · exact .inr (.inr h1)
    · rintro (h1 | h1 | h1)
      · exact .inl (.inr h1)
      · exact .inl (.inl h1.symm)
      · exact .inr h1

theorem setBit_ok {n : Nat} {l : List UInt8} {v : Nat} (hl : setOk (n : Int) l = true) (hv : v < n) : setOk (n : Int) (setBit l v) = true := by
  have h3 := (setOk_len hl).2.2
  unfold setOk at hl ⊢
  simp only [decide_eq_true_eq] at hl ⊢
  refine ⟨hl.1, hl.2.1, by simpa [setBit] using hl.2.2.1, fun u hu hnu => ?_⟩
  have e : (setBit l v).length = l.length := by simp [setBit]
  rw [e] at hu
  simp at h3
  rw [bitAt_setBit _ _ _ (by omega), hl.2.2.2 u hu hnu]
  simp at hnu ⊢
  omega

theorem setAll_ok {n : Nat} (vs : List Int) : ∀ {l : List UInt8}, setOk (n : Int) l = true → (∀ v ∈ vs, ∃ u : Nat, v = u ∧ u < n) → setOk (n : Int) (setAll l vs) = true := by
  unfold setAll
  induction vs with
  | nil => intro l h _; exact h
  | cons v vs ih =>
    intro l h hv
    obtain ⟨u, rfl, hu⟩ := hv v List.mem_cons_self
    rw [List.foldl_cons]
    exact ih (setBit_ok h (by simpa using hu)) (fun x hx => hv x (List.mem_cons_of_mem _ hx))


end Go.Proofs.Ytfkpmhnfpljakaa
