/-
  The engine, texts SetM Fm K1 K2 SetP K3 V2 K4 in one. No conditions of its own.
-/
import Derived.Test.YtfdhdkljpeohlaaGreatDoorGO
import Derived.Test.YtfdhdkljpeohlaaGreatDoorBase
import Derived.Test.YtfdhdkljpeohlaaGreatDoorZz1
namespace Go.Proofs.YtfdhdkljpeohlaaGreatDoor
set_option linter.unusedSimpArgs false
set_option linter.unusedVariables false
set_option linter.unusedSimpArgs false
set_option linter.unusedVariables false
set_option linter.defProp false
open Go.RowKit

/-- Is the bit v set? -/
def bitAt (l : List UInt8) (v : Nat) : Bool := decide ((l.getD (v / 8) 0).toNat / 2 ^ (v % 8) % 2 = 1)
def setOk (n : Int) (l : List UInt8) : Bool := decide (0 ≤ n ∧ n ≤ 150 ∧ l.length = (n.toNat + 7) / 8 ∧ ∀ v, v < 8 * l.length → n.toNat ≤ v → bitAt l v = false)

theorem pow_le (k : Nat) (h : k ≤ 7) : 2 ^ k ≤ 128 := Nat.le_trans (Nat.pow_le_pow_right (by omega) h) (by decide)

def bitW (v : Nat) : Int := ((2 ^ (v % 8) : Nat) : Int)
theorem bitW_le (v : Nat) : 1 ≤ bitW v ∧ bitW v ≤ 128 := by
  have h := pow_le (v % 8) (by omega)
  have h' : 0 < 2 ^ (v % 8) := Nat.two_pow_pos _
  unfold bitW
  exact ⟨by omega, by omega⟩

theorem bit_val (x : UInt8) (k : Nat) : (bits BinOp.and IntKind.u8 ((x.toNat : Int) / 2 ^ k) 1 == 1) = decide (x.toNat / 2 ^ k % 2 = 1) := by
  have hx := x.toNat_lt
  have h1 : x.toNat / 2 ^ k < 256 := Nat.lt_of_le_of_lt (Nat.div_le_self _ _) (by omega)
  have h2 : ((x.toNat : Int) / 2 ^ k) = ((x.toNat / 2 ^ k : Nat) : Int) := by push_cast; rfl
  have h3 := u8_and_nat (x.toNat / 2 ^ k) 1 h1 (by omega)
  rw [h2, show (1 : Int) = ((1 : Nat) : Int) from rfl, h3, Nat.and_one_is_mod, Bool.eq_iff_iff]
  simp
  omega

/-- The reference's test of a bit. -/
theorem bit_quo (l : List UInt8) (v : Nat) (hv : v / 8 < l.length) : (((l[v / 8].toNat : Int) / bitW v) % 2 == 1) = bitAt l v := by
  unfold bitAt bitW
  rw [Bool.eq_iff_iff]
  simp [List.getD, hv]
  have : ((l[v / 8].toNat : Int) / 2 ^ (v % 8)) = ((l[v / 8].toNat / 2 ^ (v % 8) : Nat) : Int) := by push_cast; rfl
  rw [this]
  omega

end Go.Proofs.YtfdhdkljpeohlaaGreatDoor

namespace Go.Proofs.YtfdhdkljpeohlaaGreatDoor
set_option linter.unusedSimpArgs false
set_option linter.unusedVariables false
set_option linter.defProp false
open Go.RowKit

section
variable {α : Type}
/-- what f gives for the first k numbers -/
def fm (f : Nat → Option α) (k : Nat) : List α := (List.range k).filterMap f
theorem fm_zero (f : Nat → Option α) : fm f 0 = [] := rfl
theorem fm_some {f : Nat → Option α} {k : Nat} {x : α} (h : f k = some x) : fm f (k + 1) = fm f k ++ [x] := by
  simp [fm, List.range_succ, List.filterMap_append, h]
theorem fm_none {f : Nat → Option α} {k : Nat} (h : f k = none) : fm f (k + 1) = fm f k := by
  simp [fm, List.range_succ, List.filterMap_append, h]
theorem fm_len (f : Nat → Option α) : ∀ k, (fm f k).length ≤ k
  | 0 => Nat.le_refl _
  | k + 1 => by
    have := fm_len f k
    cases h : f k with
    | none => rw [fm_none h]; omega
    | some x => rw [fm_some h]; simp; omega
end

end Go.Proofs.YtfdhdkljpeohlaaGreatDoor

namespace Go.Proofs.YtfdhdkljpeohlaaGreatDoor
set_option linter.unusedSimpArgs false
set_option linter.unusedVariables false
set_option linter.defProp false
open Go.RowKit

theorem bit_shr (l : List UInt8) (v : Nat) (hv : v / 8 < l.length) : (bits BinOp.and IntKind.u8 ((l[v / 8].toNat : Int).fdiv (2 ^ min ((v : Int) % 8).toNat IntKind.u8.bits)) 1 == 1) = bitAt l v := by
  have h1 : ((v : Int) % 8).toNat = v % 8 := by omega
  have h2 : min (v % 8) IntKind.u8.bits = v % 8 := Nat.min_eq_left (by have : IntKind.u8.bits = 8 := rfl; omega)
  rw [h1, h2, Int.fdiv_eq_ediv_of_nonneg _ (Int.pow_nonneg (by decide)), bit_val]
  simp [bitAt, hv]

theorem implhas_k (n : Int) (l : List UInt8) (v : Nat) (hv : v / 8 < l.length) (hv' : v ≤ 1099511627776) :
    FnOK Tryz.prog 79 ⟨1, [(0, some (.ro (l.map bytK)))], [.agg [.v (.int .i64 n), .sl 0 1 0 l.length], .c (.v (.int .i64 (v : Int)))], .c (.v (.bool (bitAt l v))), [], 1⟩ := by
  have q2 : ((v : Int) / 8).toNat = v / 8 := by omega
  refine fnOK_of true mixed Tryz.func79 rfl (by rfl) (by rfl) ?_
  have hres := congrArg Array.toList Tryz.results79
  simp only [Tryz.ntmps79, BGB, seval]
  (have gx := And.intro (@List.length_map.{0,0}) (And.intro (@List.getElem_map.{0,0}) (And.intro @bytK.eq_1 @q2)); refine go ?_; (repeat' first | exact Ef.mk | apply Lf.mk | refine fun (K : KT) hK hE hT => ?_ | refine fun (KS : KE) hKS => ?_ | refine fun (D : KD) hD => ?_ | refine fun (hg : (_ : Prop)) => ?_ | fail); all_goals (first | (refine Wr.mk ?_; (try clear gx); repeat first | clear hK hE hT K | clear hR hE hT K) | assumption | skip))
  (refine post_a hres (.inl rfl) ?_; simp only [RSB, ENB, seval, tiAll, bit_shr l v hv]; simp only [MAB, seval]; refine ⟨rfl, rfl, ?_, ?_, ?_⟩ <;> (first | rfl | (simp [WKB, Nat.add_comm, bit_shr l v hv]; done) | (simp only [WKB, seval])))

theorem setOk_no (n : Int) (l : List UInt8) (h : ¬ (0 ≤ n ∧ n ≤ 150 ∧ l.length = (n.toNat + 7) / 8)) : setOk n l = false := by
  rw [Bool.eq_false_iff]
  intro h'
  unfold setOk at h'
  simp only [decide_eq_true_eq] at h'
  exact h ⟨h'.1, h'.2.1, h'.2.2.1⟩

theorem setOk_hit (m k : Nat) (l : List UInt8) (h1 : m ≤ k) (h2 : k < 8 * l.length) (hb : bitAt l k = true) : setOk (m : Int) l = false := by
  rw [Bool.eq_false_iff]
  intro h'
  unfold setOk at h'
  simp only [decide_eq_true_eq] at h'
  have := h'.2.2.2 k h2 (by simpa using h1)
  rw [this] at hb; cases hb

theorem setOk_end (m k : Nat) (l : List UInt8) (hm : m ≤ 150) (hl : l.length = (m + 7) / 8) (h2 : 8 * l.length ≤ k) (h : ∀ j, m ≤ j → j < k → bitAt l j = false) : setOk (m : Int) l = true := by
  unfold setOk
  simp only [decide_eq_true_eq]
  exact ⟨by omega, by omega, by simpa using hl, fun v hv hmv => h v (by simpa using hmv) (by omega)⟩

theorem setOk_len {n : Int} {l : List UInt8} (h : setOk n l = true) : 0 ≤ n ∧ n ≤ 150 ∧ l.length = (n.toNat + 7) / 8 ∧ l.length ≤ 19 := by
  unfold setOk at h
  simp only [decide_eq_true_eq] at h
  refine ⟨h.1, h.2.1, h.2.2.1, ?_⟩
  have := h.1
  have := h.2.1
  have := h.2.2.1
  omega


set_option maxHeartbeats 2000000 in
theorem implSetOk_k (n : Int) (l : List UInt8) (hl : l.length ≤ 1048576) :
    FnOK Tryz.prog 44 ⟨1, [(0, some (.ro (l.map bytK)))], [.agg [.v (.int .i64 n), .sl 0 1 0 l.length]], .c (.v (.bool (setOk n l))), [], 1⟩ := by
  refine fnOK_of true mixed Tryz.func44 rfl (by rfl) (by rfl) ?_
  have hres := congrArg Array.toList Tryz.results44
  simp only [Tryz.ntmps44, BGB, seval]
  (have gx := And.intro (@List.length_map.{0,0}) (And.intro @List.getElem_map.{0,0} @bytK.eq_1); refine go ?_; (repeat' first | exact Ef.mk | apply Lf.mk | refine fun (K : KT) hK hE hT => ?_ | refine fun (KS : KE) hKS => ?_ | refine fun (D : KD) hD => ?_ | refine fun (hg : (_ : Prop)) => ?_ | fail); all_goals (first | (refine Wr.mk ?_; (try clear gx); repeat first | clear hK hE hT K | clear hR hE hT K) | assumption | skip))
  · (refine post_a hres (.inl rfl) ?_; simp only [RSB, ENB, seval, tiAll, setOk_no n l (by omega)]; simp only [MAB, seval]; refine ⟨rfl, rfl, ?_, ?_, ?_⟩ <;> (first | rfl | (simp [WKB, Nat.add_comm, setOk_no n l (by omega)]; done) | (simp only [WKB, seval])))
  · obtain ⟨m, rfl⟩ := Int.eq_ofNat_of_zero_le (show 0 ≤ n by assumption)
    have hm : m ≤ 150 := by omega
    have hlm : l.length = (m + 7) / 8 := by omega
    refine loop_v (X := {k : Nat // (m ≤ k ∧ k ≤ 8 * l.length) ∧ Rnd (∀ j, m ≤ j → j < k → bitAt l j = false)}) [] (fun x => [(3, .c (.v (.int .i64 ((x.1 : Nat) : Int))))]) (fun x => [(0, some (.ro (l.map bytK))), (1, some (.box 46 [.v (.int .i64 (m : Int)), .sl 0 1 0 l.length]))]) 2 (fun x => 8 * l.length - x.1) ⟨m, ⟨Nat.le_refl _, by omega⟩, ⟨fun j h1 h2 => by omega⟩⟩ ?_
    simp only [KPB, seval]
    refine ⟨?_, ?_⟩
    · (refine wk_a ?_; simp only [MAB, seval]; refine ⟨rfl, rfl, (by decide), ?_, ?_⟩; all_goals (first | (simp only [WKB, seval, true_and]; done) | (simp [WKB, seval, true_and]; done) | simp only [WKB, seval]))
    · rintro ⟨k, ⟨hk1, hk2⟩, hk⟩ K hR hE hT
      skip
      (have gx := And.intro (@List.length_map.{0,0}) (And.intro @List.getElem_map.{0,0} @bytK.eq_1); have q1 := implhas_k (m : Int) l k; refine go ?_; (repeat' first | exact Ef.mk | apply Lf.mk | refine fun (K : KT) hK hE hT => ?_ | refine fun (KS : KE) hKS => ?_ | refine fun (D : KD) hD => ?_ | refine fun (hg : (_ : Prop)) => ?_ | fail); all_goals (first | (refine Wr.mk ?_; (try clear gx q1); repeat first | clear hK hE hT K | clear hR hE hT K) | assumption | skip))
      · have hb : bitAt l k = true := by assumption
        (refine post_a hres (.inl rfl) ?_; simp only [RSB, ENB, seval, tiAll, setOk_hit m k l hk1 (by omega) hb]; simp only [MAB, seval]; refine ⟨rfl, rfl, ?_, ?_, ?_⟩ <;> (first | rfl | (simp [WKB, Nat.add_comm, setOk_hit m k l hk1 (by omega) hb]; done) | (simp only [WKB, seval])))
      · have hb : bitAt l k = false := by assumption
        have hn : ∀ j, m ≤ j → j < k + 1 → bitAt l j = false := fun j h1 h2 => by
          by_cases hj : j = k
          · subst hj; exact hb
          · exact hk.out j h1 (by omega)
        (refine hR.out ⟨k + 1, ⟨by omega, by omega⟩, ⟨hn⟩⟩ _ _ _ (by simp only; omega) ?_; (refine wk_a ?_; simp only [MAB, seval]; refine ⟨rfl, rfl, (by decide), ?_, ?_⟩; all_goals (first | (simp only [WKB, seval, true_and]; done) | (simp [WKB, seval, true_and]; done) | simp only [WKB, seval])))
      · (refine post_a hres (.inl rfl) ?_; simp only [RSB, ENB, seval, tiAll, setOk_end m k l hm hlm (by omega) hk.out]; simp only [MAB, seval]; refine ⟨rfl, rfl, ?_, ?_, ?_⟩ <;> (first | rfl | (simp [WKB, Nat.add_comm, setOk_end m k l hm hlm (by omega) hk.out]; done) | (simp only [WKB, seval])))
  · (refine post_a hres (.inl rfl) ?_; simp only [RSB, ENB, seval, tiAll, setOk_no n l (by omega)]; simp only [MAB, seval]; refine ⟨rfl, rfl, ?_, ?_, ?_⟩ <;> (first | rfl | (simp [WKB, Nat.add_comm, setOk_no n l (by omega)]; done) | (simp only [WKB, seval])))
  · (refine post_a hres (.inl rfl) ?_; simp only [RSB, ENB, seval, tiAll, setOk_no n l (by omega)]; simp only [MAB, seval]; refine ⟨rfl, rfl, ?_, ?_, ?_⟩ <;> (first | rfl | (simp [WKB, Nat.add_comm, setOk_no n l (by omega)]; done) | (simp only [WKB, seval])))

theorem l09Bit_w (v : Nat) (hv : v ≤ 1099511627776) : FnOK Tryz.prog 81 ⟨0, [], [.c (.v (.int .i64 (v : Int)))], .c (.v (.int .i64 (bitW v))), [], 0⟩ := l09Bit_k v hv

set_option maxHeartbeats 2000000 in
theorem specSetOk_k (n : Int) (l : List UInt8) (hl : l.length ≤ 1048576) :
    FnOK Tryz.prog 53 ⟨1, [(0, some (.ro (l.map bytK)))], [.agg [.v (.int .i64 n), .sl 0 1 0 l.length]], .c (.v (.bool (setOk n l))), [], 1⟩ := by
  refine fnOK_of true mixed Tryz.func53 rfl (by rfl) (by rfl) ?_
  have hres := congrArg Array.toList Tryz.results53
  simp only [Tryz.ntmps53, BGB, seval]
  (have gx := And.intro (@List.length_map.{0,0}) (And.intro @List.getElem_map.{0,0} @bytK.eq_1); refine go ?_; (repeat' first | exact Ef.mk | apply Lf.mk | refine fun (K : KT) hK hE hT => ?_ | refine fun (KS : KE) hKS => ?_ | refine fun (D : KD) hD => ?_ | refine fun (hg : (_ : Prop)) => ?_ | fail); all_goals (first | (refine Wr.mk ?_; (try clear gx); repeat first | clear hK hE hT K | clear hR hE hT K) | assumption | skip))
  · (refine post_a hres (.inl rfl) ?_; simp only [RSB, ENB, seval, tiAll, setOk_no n l (by omega)]; simp only [MAB, seval]; refine ⟨rfl, rfl, ?_, ?_, ?_⟩ <;> (first | rfl | (simp [WKB, Nat.add_comm, setOk_no n l (by omega)]; done) | (simp only [WKB, seval])))
  · obtain ⟨m, rfl⟩ := Int.eq_ofNat_of_zero_le (show 0 ≤ n by assumption)
    have hm : m ≤ 150 := by omega
    have hlm : l.length = (m + 7) / 8 := by omega
    refine loop_v (X := {k : Nat // (m ≤ k ∧ k ≤ 8 * l.length) ∧ Rnd (∀ j, m ≤ j → j < k → bitAt l j = false)}) [] (fun x => [(3, .c (.v (.int .i64 ((x.1 : Nat) : Int))))]) (fun x => [(0, some (.ro (l.map bytK))), (1, some (.box 46 [.v (.int .i64 (m : Int)), .sl 0 1 0 l.length]))]) 2 (fun x => 8 * l.length - x.1) ⟨m, ⟨Nat.le_refl _, by omega⟩, ⟨fun j h1 h2 => by omega⟩⟩ ?_
    simp only [KPB, seval]
    refine ⟨?_, ?_⟩
    · (refine wk_a ?_; simp only [MAB, seval]; refine ⟨rfl, rfl, (by decide), ?_, ?_⟩; all_goals (first | (simp only [WKB, seval, true_and]; done) | (simp [WKB, seval, true_and]; done) | simp only [WKB, seval]))
    · rintro ⟨k, ⟨hk1, hk2⟩, hk⟩ K hR hE hT
      have q2 : ((k : Int) / 8).toNat = k / 8 := by omega
      obtain ⟨hw1, hw2⟩ := bitW_le k
      have q0 : ∀ h : k / 8 < l.length, 0 ≤ (l[k / 8].toNat : Int) / bitW k := fun h => Int.ediv_nonneg (by omega) (by omega)
      (have gx := And.intro (@List.length_map.{0,0}) (And.intro (@List.getElem_map.{0,0}) (And.intro @bytK.eq_1 @q2)); have q1 := l09Bit_w k; have gs := q0; refine go ?_; (repeat' first | exact Ef.mk | apply Lf.mk | refine fun (K : KT) hK hE hT => ?_ | refine fun (KS : KE) hKS => ?_ | refine fun (D : KD) hD => ?_ | refine fun (hg : (_ : Prop)) => ?_ | fail); all_goals (first | (refine Wr.mk ?_; (try clear gx q1 gs); repeat first | clear hK hE hT K | clear hR hE hT K) | assumption | skip))
      · have hb : bitAt l k = true := by rw [← bit_quo l k (by omega), beq_iff_eq]; assumption
        (refine post_a hres (.inl rfl) ?_; simp only [RSB, ENB, seval, tiAll, setOk_hit m k l hk1 (by omega) hb]; simp only [MAB, seval]; refine ⟨rfl, rfl, ?_, ?_, ?_⟩ <;> (first | rfl | (simp [WKB, Nat.add_comm, setOk_hit m k l hk1 (by omega) hb]; done) | (simp only [WKB, seval])))
      · have hb : bitAt l k = false := by rw [← bit_quo l k (by omega), beq_eq_false_iff_ne]; assumption
        have hn : ∀ j, m ≤ j → j < k + 1 → bitAt l j = false := fun j h1 h2 => by
          by_cases hj : j = k
          · subst hj; exact hb
          · exact hk.out j h1 (by omega)
        (refine hR.out ⟨k + 1, ⟨by omega, by omega⟩, ⟨hn⟩⟩ _ _ _ (by simp only; omega) ?_; (refine wk_a ?_; simp only [MAB, seval]; refine ⟨rfl, rfl, (by decide), ?_, ?_⟩; all_goals (first | (simp only [WKB, seval, true_and]; done) | (simp [WKB, seval, true_and]; done) | simp only [WKB, seval])))
      · (refine post_a hres (.inl rfl) ?_; simp only [RSB, ENB, seval, tiAll, setOk_end m k l hm hlm (by omega) hk.out]; simp only [MAB, seval]; refine ⟨rfl, rfl, ?_, ?_, ?_⟩ <;> (first | rfl | (simp [WKB, Nat.add_comm, setOk_end m k l hm hlm (by omega) hk.out]; done) | (simp only [WKB, seval])))
  · (refine post_a hres (.inl rfl) ?_; simp only [RSB, ENB, seval, tiAll, setOk_no n l (by omega)]; simp only [MAB, seval]; refine ⟨rfl, rfl, ?_, ?_, ?_⟩ <;> (first | rfl | (simp [WKB, Nat.add_comm, setOk_no n l (by omega)]; done) | (simp only [WKB, seval])))
  · (refine post_a hres (.inl rfl) ?_; simp only [RSB, ENB, seval, tiAll, setOk_no n l (by omega)]; simp only [MAB, seval]; refine ⟨rfl, rfl, ?_, ?_, ?_⟩ <;> (first | rfl | (simp [WKB, Nat.add_comm, setOk_no n l (by omega)]; done) | (simp only [WKB, seval])))

/-- Is the vertex a member? -/
def hasL (n : Int) (l : List UInt8) (v : Int) : Bool := setOk n l && decide (0 ≤ v ∧ v < n) && bitAt l v.toNat

set_option maxHeartbeats 2000000 in
theorem specHas_k (n : Int) (l : List UInt8) (hl : l.length ≤ 1048576) (v : Int) :
    FnOK Tryz.prog 116 ⟨1, [(0, some (.ro (l.map bytK)))], [.agg [.v (.int .i64 n), .sl 0 1 0 l.length], .c (.v (.int .i64 v))], .c (.v (.bool (hasL n l v))), [], 1⟩ := by
  cases ho : setOk n l with
  | false =>
    have hs := specSetOk_k n l hl
    rw [ho] at hs
    refine fnOK_of true mixed Tryz.func116 rfl (by rfl) (by rfl) ?_
    have hres := congrArg Array.toList Tryz.results116
    simp only [Tryz.ntmps116, BGB, seval]
    (have gx := And.intro (@List.length_map.{0,0}) (And.intro @List.getElem_map.{0,0} @bytK.eq_1); have q1 := hs; refine go ?_; (repeat' first | exact Ef.mk | apply Lf.mk | refine fun (K : KT) hK hE hT => ?_ | refine fun (KS : KE) hKS => ?_ | refine fun (D : KD) hD => ?_ | refine fun (hg : (_ : Prop)) => ?_ | fail); all_goals (first | (refine Wr.mk ?_; (try clear gx q1); repeat first | clear hK hE hT K | clear hR hE hT K) | assumption | skip))
    (refine post_a hres (.inl rfl) ?_; simp only [RSB, ENB, seval, tiAll, hasL, ho, Bool.false_and]; simp only [MAB, seval]; refine ⟨rfl, rfl, ?_, ?_, ?_⟩ <;> (first | rfl | (simp [WKB, Nat.add_comm, hasL, ho, Bool.false_and]; done) | (simp only [WKB, seval])))
  | true =>
    obtain ⟨h1, h2, h3, h4⟩ := setOk_len ho
    have hs := specSetOk_k n l hl
    rw [ho] at hs
    by_cases hv : 0 ≤ v ∧ v < n
    · obtain ⟨k, rfl⟩ := Int.eq_ofNat_of_zero_le hv.1
      have hk : k / 8 < l.length := by omega
      have e : hasL n l (k : Int) = bitAt l k := by unfold hasL; simp [ho, hv.2]
      have q2 : ((k : Int) / 8).toNat = k / 8 := by omega
      obtain ⟨hw1, hw2⟩ := bitW_le k
      have q0 : ∀ h : k / 8 < l.length, 0 ≤ (l[k / 8].toNat : Int) / bitW k := fun h => Int.ediv_nonneg (by omega) (by omega)
      have q3 := bit_quo l k hk
      refine fnOK_of true mixed Tryz.func116 rfl (by rfl) (by rfl) ?_
      have hres := congrArg Array.toList Tryz.results116
      simp only [Tryz.ntmps116, BGB, seval]
      (have gx := And.intro (@List.length_map.{0,0}) (And.intro (@List.getElem_map.{0,0}) (And.intro (@bytK.eq_1) (And.intro @q2 @q3))); have q1 := hs; have q2 := l09Bit_w k; have gs := q0; refine go ?_; (repeat' first | exact Ef.mk | apply Lf.mk | refine fun (K : KT) hK hE hT => ?_ | refine fun (KS : KE) hKS => ?_ | refine fun (D : KD) hD => ?_ | refine fun (hg : (_ : Prop)) => ?_ | fail); all_goals (first | (refine Wr.mk ?_; (try clear gx q1 q2 gs); repeat first | clear hK hE hT K | clear hR hE hT K) | assumption | skip))
      (refine post_a hres (.inl rfl) ?_; simp only [RSB, ENB, seval, tiAll, e]; simp only [MAB, seval]; refine ⟨rfl, rfl, ?_, ?_, ?_⟩ <;> (first | rfl | (simp [WKB, Nat.add_comm, e]; done) | (simp only [WKB, seval])))
    · have e : hasL n l v = false := by unfold hasL; simp [ho]; intro a b; exact absurd ⟨a, b⟩ hv
      refine fnOK_of true mixed Tryz.func116 rfl (by rfl) (by rfl) ?_
      have hres := congrArg Array.toList Tryz.results116
      simp only [Tryz.ntmps116, BGB, seval]
      (have gx := And.intro (@List.length_map.{0,0}) (And.intro @List.getElem_map.{0,0} @bytK.eq_1); have q1 := hs; refine go ?_; (repeat' first | exact Ef.mk | apply Lf.mk | refine fun (K : KT) hK hE hT => ?_ | refine fun (KS : KE) hKS => ?_ | refine fun (D : KD) hD => ?_ | refine fun (hg : (_ : Prop)) => ?_ | fail); all_goals (first | (refine Wr.mk ?_; (try clear gx q1); repeat first | clear hK hE hT K | clear hR hE hT K) | assumption | skip))
      all_goals (refine post_a hres (.inl rfl) ?_; simp only [RSB, ENB, seval, tiAll, e]; simp only [MAB, seval]; refine ⟨rfl, rfl, ?_, ?_, ?_⟩ <;> (first | rfl | (simp [WKB, Nat.add_comm, e]; done) | (simp only [WKB, seval])))

end Go.Proofs.YtfdhdkljpeohlaaGreatDoor

namespace Go.Proofs.YtfdhdkljpeohlaaGreatDoor
set_option linter.unusedSimpArgs false
set_option linter.unusedVariables false
set_option linter.defProp false
open Go.RowKit

section
variable {α : Type}
theorem all_no {p : α → Bool} {l : List α} {k : Nat} (h : k < l.length) (hp : p l[k] = false) : l.all p = false := by
  rw [Bool.eq_false_iff]
  intro h'
  rw [List.all_eq_true] at h'
  rw [h' _ (List.getElem_mem h)] at hp
  cases hp
theorem all_yes {p : α → Bool} {l : List α} {k : Nat} (hk : l.length ≤ k) (h : ∀ i (hi : i < l.length), i < k → p l[i] = true) : l.all p = true := by
  rw [List.all_eq_true]
  intro x hx
  obtain ⟨i, hi, rfl⟩ := List.getElem_of_mem hx
  exact h i hi (by omega)
theorem all_more {p : α → Bool} {l : List α} {k : Nat} (h : ∀ i (hi : i < l.length), i < k → p l[i] = true) (hk : k < l.length) (hp : p l[k] = true) : ∀ i (hi : i < l.length), i < k + 1 → p l[i] = true := by
  intro i hi hlt
  by_cases hik : i = k
  · subst hik; exact hp
  · exact h i hi (by omega)
end

def valOk (z : Int) : Bool := decide (0 ≤ z ∧ z ≤ 1099511627776)
def edgeOk (n : Int) (e : EdgeD) : Bool := decide (0 ≤ e.From ∧ e.From < n ∧ 0 ≤ e.To ∧ e.To < n ∧ 0 ≤ e.W ∧ e.W ≤ 1000)
def graphOk (g : GraphD) : Bool := decide (0 ≤ g.N ∧ g.N ≤ 150 ∧ g.Edges.length ≤ 400) && g.Edges.all (edgeOk g.N)
def jobOk (n : Int) (j : JobD) : Bool := decide (1 ≤ j.Prog ∧ j.Prog ≤ 4 ∧ (j.Prog = 3 → 0 ≤ j.Src ∧ j.Src < n) ∧ (j.Prog ≠ 3 → j.Src = 0))

theorem implisValue_k (z : Int) : FnOK Tryz.prog 78 ⟨0, [], [.c (.v (.int .i64 z))], .c (.v (.bool (valOk z))), [], 0⟩ := by
  refine fnOK_of true mixed Tryz.func78 rfl (by rfl) (by rfl) ?_
  have hres := congrArg Array.toList Tryz.results78
  simp only [Tryz.ntmps78, BGB, seval]
  (have gx := true_and True; refine go ?_; (repeat' first | exact Ef.mk | apply Lf.mk | refine fun (K : KT) hK hE hT => ?_ | refine fun (KS : KE) hKS => ?_ | refine fun (D : KD) hD => ?_ | refine fun (hg : (_ : Prop)) => ?_ | fail); all_goals (first | (refine Wr.mk ?_; (try clear gx); repeat first | clear hK hE hT K | clear hR hE hT K) | assumption | skip))
  all_goals (have e : valOk z = decide (z ≤ 1099511627776 ∧ 0 ≤ z) := by simp only [valOk, and_comm]
             (refine post_a hres (.inl rfl) ?_; simp only [RSB, ENB, seval, tiAll, e, *]; simp only [MAB, seval]; refine ⟨rfl, rfl, ?_, ?_, ?_⟩ <;> (first | rfl | (simp [WKB, Nat.add_comm, e, *]; done) | (simp only [WKB, seval]))))

theorem implisProg_k (z : Int) : FnOK Tryz.prog 42 ⟨0, [], [.c (.v (.int .i64 z))], .c (.v (.bool (decide (1 ≤ z ∧ z ≤ 4)))), [], 0⟩ := by
  refine fnOK_of true mixed Tryz.func42 rfl (by rfl) (by rfl) ?_
  have hres := congrArg Array.toList Tryz.results42
  simp only [Tryz.ntmps42, BGB, seval]
  (have gx := true_and True; refine go ?_; (repeat' first | exact Ef.mk | apply Lf.mk | refine fun (K : KT) hK hE hT => ?_ | refine fun (KS : KE) hKS => ?_ | refine fun (D : KD) hD => ?_ | refine fun (hg : (_ : Prop)) => ?_ | fail); all_goals (first | (refine Wr.mk ?_; (try clear gx); repeat first | clear hK hE hT K | clear hR hE hT K) | assumption | skip))
  all_goals (refine post_a hres (.inl rfl) ?_; simp only [RSB, ENB, seval, tiAll, true_and]; simp only [MAB, seval]; refine ⟨rfl, rfl, ?_, ?_, ?_⟩ <;> (first | rfl | (simp [WKB, Nat.add_comm, true_and]; done) | (simp only [WKB, seval])))
  all_goals (refine congrArg (fun b => SV.c (CV.v (Value.bool b))) ?_; symm; first | (rw [decide_eq_false_iff_not]; omega) | (rw [decide_eq_true_eq]; omega) | (rw [decide_eq_decide]; omega) | (rw [Bool.eq_iff_iff]; simp only [decide_eq_true_eq, beq_iff_eq]; omega))

set_option maxHeartbeats 1000000 in
theorem l11Vals_k (l : List Int) (hl : l.length ≤ 9223372036854775807) : FnOK Tryz.prog 86 ⟨1, [(0, some (.ro (l.map intK)))], [.c (.sl 0 1 0 l.length)], .c (.v (.bool (l.all valOk))), [], 1⟩ := by
  refine fnOK_of true mixed Tryz.func86 rfl (by rfl) (by rfl) ?_
  have hres := congrArg Array.toList Tryz.results86
  simp only [Tryz.ntmps86, BGB, seval]
  (have gx := true_and True; refine go ?_; (repeat' first | exact Ef.mk | apply Lf.mk | refine fun (K : KT) hK hE hT => ?_ | refine fun (KS : KE) hKS => ?_ | refine fun (D : KD) hD => ?_ | refine fun (hg : (_ : Prop)) => ?_ | fail); all_goals (first | (refine Wr.mk ?_; (try clear gx); repeat first | clear hK hE hT K | clear hR hE hT K) | assumption | skip))
  refine loop_v (X := {k : Nat // k ≤ l.length ∧ Rnd (∀ i (hi : i < l.length), i < k → valOk l[i] = true)}) [] (fun x => [(7, .c (.v (.int .i64 ((x.1 : Nat) : Int))))]) (fun x => [(0, some (.ro (l.map intK)))]) 1 (fun x => l.length - x.1) ⟨0, by omega, ⟨fun i hi h => by omega⟩⟩ ?_
  simp only [KPB, seval]
  refine ⟨?_, ?_⟩
  · (refine wk_a ?_; simp only [MAB, seval]; refine ⟨rfl, rfl, (by decide), ?_, ?_⟩; all_goals (first | (simp only [WKB, seval, true_and]; done) | (simp [WKB, seval, true_and]; done) | simp only [WKB, seval]))
  · rintro ⟨k, hk, hi⟩ K hR hE hT
    (have gx := And.intro (@List.length_map.{0,0}) (And.intro @List.getElem_map.{0,0} @intK.eq_1); refine go ?_; (repeat' first | exact Ef.mk | apply Lf.mk | refine fun (K : KT) hK hE hT => ?_ | refine fun (KS : KE) hKS => ?_ | refine fun (D : KD) hD => ?_ | refine fun (hg : (_ : Prop)) => ?_ | fail); all_goals (first | (refine Wr.mk ?_; (try clear gx); repeat first | clear hK hE hT K | clear hR hE hT K) | assumption | skip))
    all_goals first
      | (have e : valOk (l[k]'(by omega)) = false := by unfold valOk; rw [decide_eq_false_iff_not]; omega
         (refine post_a hres (.inl rfl) ?_; simp only [RSB, ENB, seval, tiAll, all_no (p := valOk) (by omega) e]; simp only [MAB, seval]; refine ⟨rfl, rfl, ?_, ?_, ?_⟩ <;> (first | rfl | (simp [WKB, Nat.add_comm, all_no (p := valOk) (by omega) e]; done) | (simp only [WKB, seval]))))
      | (have e : valOk (l[k]'(by omega)) = true := by unfold valOk; rw [decide_eq_true_eq]; omega
         (refine hR.out ⟨k + 1, by omega, ⟨all_more hi.out (by omega) e⟩⟩ _ _ _ (by simp only; omega) ?_; (refine wk_a ?_; simp only [MAB, seval]; refine ⟨rfl, rfl, (by decide), ?_, ?_⟩; all_goals (first | (simp only [WKB, seval, true_and]; done) | (simp [WKB, seval, true_and]; done) | simp only [WKB, seval]))))
      | ((refine post_a hres (.inl rfl) ?_; simp only [RSB, ENB, seval, tiAll, all_yes (p := valOk) (k := k) (by omega) hi.out]; simp only [MAB, seval]; refine ⟨rfl, rfl, ?_, ?_, ?_⟩ <;> (first | rfl | (simp [WKB, Nat.add_comm, all_yes (p := valOk) (k := k) (by omega) hi.out]; done) | (simp only [WKB, seval]))))

set_option maxHeartbeats 1000000 in
theorem areValues_k (l : List Int) (hl : l.length ≤ 9223372036854775807) : FnOK Tryz.prog 43 ⟨1, [(0, some (.ro (l.map intK)))], [.c (.sl 0 1 0 l.length)], .c (.v (.bool (l.all valOk))), [], 1⟩ := by
  refine fnOK_of true mixed Tryz.func43 rfl (by rfl) (by rfl) ?_
  have hres := congrArg Array.toList Tryz.results43
  simp only [Tryz.ntmps43, BGB, seval]
  (have gx := true_and True; refine go ?_; (repeat' first | exact Ef.mk | apply Lf.mk | refine fun (K : KT) hK hE hT => ?_ | refine fun (KS : KE) hKS => ?_ | refine fun (D : KD) hD => ?_ | refine fun (hg : (_ : Prop)) => ?_ | fail); all_goals (first | (refine Wr.mk ?_; (try clear gx); repeat first | clear hK hE hT K | clear hR hE hT K) | assumption | skip))
  refine loop_v (X := {k : Nat // k ≤ l.length ∧ Rnd (∀ i (hi : i < l.length), i < k → valOk l[i] = true)}) [] (fun x => [(7, .c (.v (.int .i64 ((x.1 : Nat) : Int))))]) (fun x => [(0, some (.ro (l.map intK)))]) 1 (fun x => l.length - x.1) ⟨0, by omega, ⟨fun i hi h => by omega⟩⟩ ?_
  simp only [KPB, seval]
  refine ⟨?_, ?_⟩
  · (refine wk_a ?_; simp only [MAB, seval]; refine ⟨rfl, rfl, (by decide), ?_, ?_⟩; all_goals (first | (simp only [WKB, seval, true_and]; done) | (simp [WKB, seval, true_and]; done) | simp only [WKB, seval]))
  · rintro ⟨k, hk, hi⟩ K hR hE hT
    (have gx := And.intro (@List.length_map.{0,0}) (And.intro @List.getElem_map.{0,0} @intK.eq_1); have q1 := fun hq1 => implisValue_k (l[k]'hq1); refine go ?_; (repeat' first | exact Ef.mk | apply Lf.mk | refine fun (K : KT) hK hE hT => ?_ | refine fun (KS : KE) hKS => ?_ | refine fun (D : KD) hD => ?_ | refine fun (hg : (_ : Prop)) => ?_ | fail); all_goals (first | (refine Wr.mk ?_; (try clear gx q1); repeat first | clear hK hE hT K | clear hR hE hT K) | assumption | skip))
    · have e : valOk (l[k]'(by omega)) = false := by assumption
      (refine post_a hres (.inl rfl) ?_; simp only [RSB, ENB, seval, tiAll, all_no (p := valOk) (by omega) e]; simp only [MAB, seval]; refine ⟨rfl, rfl, ?_, ?_, ?_⟩ <;> (first | rfl | (simp [WKB, Nat.add_comm, all_no (p := valOk) (by omega) e]; done) | (simp only [WKB, seval])))
    · have e : valOk (l[k]'(by omega)) = true := by assumption
      (refine hR.out ⟨k + 1, by omega, ⟨all_more hi.out (by omega) e⟩⟩ _ _ _ (by simp only; omega) ?_; (refine wk_a ?_; simp only [MAB, seval]; refine ⟨rfl, rfl, (by decide), ?_, ?_⟩; all_goals (first | (simp only [WKB, seval, true_and]; done) | (simp [WKB, seval, true_and]; done) | simp only [WKB, seval])))
    · (refine post_a hres (.inl rfl) ?_; simp only [RSB, ENB, seval, tiAll, all_yes (p := valOk) (k := k) (by omega) hi.out]; simp only [MAB, seval]; refine ⟨rfl, rfl, ?_, ?_, ?_⟩ <;> (first | rfl | (simp [WKB, Nat.add_comm, all_yes (p := valOk) (k := k) (by omega) hi.out]; done) | (simp only [WKB, seval])))


set_option maxHeartbeats 1000000 in
theorem specJobOk_k (n : Int) (j : JobD) : FnOK Tryz.prog 97 ⟨0, [], [.c (.v (.int .i64 n)), .agg [.v (.int .i64 j.Prog), .v (.int .i64 j.Src)]], .c (.v (.bool (jobOk n j))), [], 0⟩ := by
  obtain ⟨p, s⟩ := j
  refine fnOK_of true mixed Tryz.func97 rfl (by rfl) (by rfl) ?_
  have hres := congrArg Array.toList Tryz.results97
  simp only [Tryz.ntmps97, BGB, seval]
  (have gx := true_and True; refine go ?_; (repeat' first | exact Ef.mk | apply Lf.mk | refine fun (K : KT) hK hE hT => ?_ | refine fun (KS : KE) hKS => ?_ | refine fun (D : KD) hD => ?_ | refine fun (hg : (_ : Prop)) => ?_ | fail); all_goals (first | (refine Wr.mk ?_; (try clear gx); repeat first | clear hK hE hT K | clear hR hE hT K) | assumption | skip))
  all_goals (refine post_a hres (.inl rfl) ?_; simp only [RSB, ENB, seval, tiAll, true_and]; simp only [MAB, seval]; refine ⟨rfl, rfl, ?_, ?_, ?_⟩ <;> (first | rfl | (simp [WKB, Nat.add_comm, true_and]; done) | (simp only [WKB, seval])))
  all_goals (unfold jobOk; dsimp only)
  all_goals (refine congrArg (fun b => SV.c (CV.v (Value.bool b))) ?_; symm; first | (rw [decide_eq_false_iff_not]; omega) | (rw [decide_eq_true_eq]; omega) | (rw [decide_eq_decide]; omega) | (rw [Bool.eq_iff_iff]; simp only [decide_eq_true_eq, beq_iff_eq]; omega))


set_option maxHeartbeats 4000000 in
theorem specGraphOk_k (g : GraphD) (hl : g.Edges.length ≤ 9223372036854775807) : FnOK Tryz.prog 35 ⟨1, [(0, some (.ro ((g.Edges).map EdgeD.k)))], [.agg [.v (.int .i64 g.N), .sl 0 3 0 (g.Edges).length]], .c (.v (.bool (graphOk g))), [], 1⟩ := by
  obtain ⟨n, l⟩ := g
  dsimp only at hl
  refine fnOK_of true mixed Tryz.func35 rfl (by rfl) (by rfl) ?_
  have hres := congrArg Array.toList Tryz.results35
  simp only [Tryz.ntmps35, BGB, seval]
  (have gx := And.intro (@List.length_map.{0,0}) (And.intro @List.getElem_map.{0,0} @EdgeD.k.eq_1); refine go ?_; (repeat' first | exact Ef.mk | apply Lf.mk | refine fun (K : KT) hK hE hT => ?_ | refine fun (KS : KE) hKS => ?_ | refine fun (D : KD) hD => ?_ | refine fun (hg : (_ : Prop)) => ?_ | fail); all_goals (first | (refine Wr.mk ?_; (try clear gx); repeat first | clear hK hE hT K | clear hR hE hT K) | assumption | skip))
  all_goals first
    | (have e : graphOk ⟨n, l⟩ = false := by
         unfold graphOk; dsimp only; rw [decide_eq_false (by omega), Bool.false_and]
       (refine post_a hres (.inl rfl) ?_; simp only [RSB, ENB, seval, tiAll, e]; simp only [MAB, seval]; refine ⟨rfl, rfl, ?_, ?_, ?_⟩ <;> (first | rfl | (simp [WKB, Nat.add_comm, e]; done) | (simp only [WKB, seval]))))
    | skip
  refine loop_v (X := {k : Nat // k ≤ l.length ∧ Rnd (∀ i (hi : i < l.length), i < k → edgeOk n l[i] = true)}) [] (fun x => [(8, .c (.v (.int .i64 ((x.1 : Nat) : Int))))]) (fun x => [(0, some (.ro (l.map EdgeD.k))), (1, some (.box 35 [.v (.int .i64 n), .sl 0 3 0 l.length]))]) 2 (fun x => l.length - x.1) ⟨0, by omega, ⟨fun i hi h => by omega⟩⟩ ?_
  simp only [KPB, seval]
  refine ⟨?_, ?_⟩
  · (refine wk_a ?_; simp only [MAB, seval]; refine ⟨rfl, rfl, (by decide), ?_, ?_⟩; all_goals (first | (simp only [WKB, seval, true_and]; done) | (simp [WKB, seval, true_and]; done) | simp only [WKB, seval]))
  · rintro ⟨k, hk, hi⟩ K hR hE hT
    (have gx := And.intro (@List.length_map.{0,0}) (And.intro @List.getElem_map.{0,0} @EdgeD.k.eq_1); refine go ?_; (repeat' first | exact Ef.mk | apply Lf.mk | refine fun (K : KT) hK hE hT => ?_ | refine fun (KS : KE) hKS => ?_ | refine fun (D : KD) hD => ?_ | refine fun (hg : (_ : Prop)) => ?_ | fail); all_goals (first | (refine Wr.mk ?_; (try clear gx); repeat first | clear hK hE hT K | clear hR hE hT K) | assumption | skip))
    all_goals first
      | (have e : edgeOk n (l[k]'(by omega)) = false := by unfold edgeOk; rw [decide_eq_false_iff_not]; omega
         have e2 : graphOk ⟨n, l⟩ = false := by unfold graphOk; dsimp only; rw [all_no (by omega) e, Bool.and_false]
         (refine post_a hres (.inl rfl) ?_; simp only [RSB, ENB, seval, tiAll, e2]; simp only [MAB, seval]; refine ⟨rfl, rfl, ?_, ?_, ?_⟩ <;> (first | rfl | (simp [WKB, Nat.add_comm, e2]; done) | (simp only [WKB, seval]))))
      | (have e : edgeOk n (l[k]'(by omega)) = true := by unfold edgeOk; rw [decide_eq_true_eq]; omega
         (refine hR.out ⟨k + 1, by omega, ⟨all_more hi.out (by omega) e⟩⟩ _ _ _ (by simp only; omega) ?_; (refine wk_a ?_; simp only [MAB, seval]; refine ⟨rfl, rfl, (by decide), ?_, ?_⟩; all_goals (first | (simp only [WKB, seval, true_and]; done) | (simp [WKB, seval, true_and]; done) | simp only [WKB, seval]))))
      | (have e : l.all (edgeOk n) = true := all_yes (k := k) (by omega) hi.out
         have e2 : graphOk ⟨n, l⟩ = decide (0 ≤ n ∧ n ≤ 150 ∧ l.length ≤ 400) := by unfold graphOk; dsimp only; rw [e, Bool.and_true]
         (refine post_a hres (.inl rfl) ?_; simp only [RSB, ENB, seval, tiAll, e2]; simp only [MAB, seval]; refine ⟨rfl, rfl, ?_, ?_, ?_⟩ <;> (first | rfl | (simp [WKB, Nat.add_comm, e2]; done) | (simp only [WKB, seval])))
         all_goals (refine congrArg (fun b => SV.c (CV.v (Value.bool b))) ?_; symm; first | (rw [decide_eq_false_iff_not]; omega) | (rw [decide_eq_true_eq]; omega) | (rw [decide_eq_decide]; omega) | (rw [Bool.eq_iff_iff]; simp only [decide_eq_true_eq, beq_iff_eq]; omega)))

set_option maxHeartbeats 4000000 in
theorem implGraphOk_k (g : GraphD) (hl : g.Edges.length ≤ 9223372036854775807) : FnOK Tryz.prog 31 ⟨1, [(0, some (.ro ((g.Edges).map EdgeD.k)))], [.agg [.v (.int .i64 g.N), .sl 0 3 0 (g.Edges).length]], .c (.v (.bool (graphOk g))), [], 1⟩ := by
  obtain ⟨n, l⟩ := g
  dsimp only at hl
  refine fnOK_of true mixed Tryz.func31 rfl (by rfl) (by rfl) ?_
  have hres := congrArg Array.toList Tryz.results31
  simp only [Tryz.ntmps31, BGB, seval]
  (have gx := And.intro (@List.length_map.{0,0}) (And.intro @List.getElem_map.{0,0} @EdgeD.k.eq_1); refine go ?_; (repeat' first | exact Ef.mk | apply Lf.mk | refine fun (K : KT) hK hE hT => ?_ | refine fun (KS : KE) hKS => ?_ | refine fun (D : KD) hD => ?_ | refine fun (hg : (_ : Prop)) => ?_ | fail); all_goals (first | (refine Wr.mk ?_; (try clear gx); repeat first | clear hK hE hT K | clear hR hE hT K) | assumption | skip))
  all_goals first
    | (have e : graphOk ⟨n, l⟩ = false := by
         unfold graphOk; dsimp only; rw [decide_eq_false (by omega), Bool.false_and]
       (refine post_a hres (.inl rfl) ?_; simp only [RSB, ENB, seval, tiAll, e]; simp only [MAB, seval]; refine ⟨rfl, rfl, ?_, ?_, ?_⟩ <;> (first | rfl | (simp [WKB, Nat.add_comm, e]; done) | (simp only [WKB, seval]))))
    | skip
  refine loop_v (X := {k : Nat // k ≤ l.length ∧ Rnd (∀ i (hi : i < l.length), i < k → edgeOk n l[i] = true)}) [] (fun x => [(22, .c (.v (.int .i64 ((x.1 : Nat) : Int))))]) (fun x => [(0, some (.ro (l.map EdgeD.k))), (1, some (.box 35 [.v (.int .i64 n), .sl 0 3 0 l.length]))]) 2 (fun x => l.length - x.1) ⟨0, by omega, ⟨fun i hi h => by omega⟩⟩ ?_
  simp only [KPB, seval]
  refine ⟨?_, ?_⟩
  · (refine wk_a ?_; simp only [MAB, seval]; refine ⟨rfl, rfl, (by decide), ?_, ?_⟩; all_goals (first | (simp only [WKB, seval, true_and]; done) | (simp [WKB, seval, true_and]; done) | simp only [WKB, seval]))
  · rintro ⟨k, hk, hi⟩ K hR hE hT
    (have gx := And.intro (@List.length_map.{0,0}) (And.intro @List.getElem_map.{0,0} @EdgeD.k.eq_1); refine go ?_; (repeat' first | exact Ef.mk | apply Lf.mk | refine fun (K : KT) hK hE hT => ?_ | refine fun (KS : KE) hKS => ?_ | refine fun (D : KD) hD => ?_ | refine fun (hg : (_ : Prop)) => ?_ | fail); all_goals (first | (refine Wr.mk ?_; (try clear gx); repeat first | clear hK hE hT K | clear hR hE hT K) | assumption | skip))
    all_goals first
      | (have e : edgeOk n (l[k]'(by omega)) = false := by unfold edgeOk; rw [decide_eq_false_iff_not]; omega
         have e2 : graphOk ⟨n, l⟩ = false := by unfold graphOk; dsimp only; rw [all_no (by omega) e, Bool.and_false]
         (refine post_a hres (.inl rfl) ?_; simp only [RSB, ENB, seval, tiAll, e2]; simp only [MAB, seval]; refine ⟨rfl, rfl, ?_, ?_, ?_⟩ <;> (first | rfl | (simp [WKB, Nat.add_comm, e2]; done) | (simp only [WKB, seval]))))
      | (have e : edgeOk n (l[k]'(by omega)) = true := by unfold edgeOk; rw [decide_eq_true_eq]; omega
         (refine hR.out ⟨k + 1, by omega, ⟨all_more hi.out (by omega) e⟩⟩ _ _ _ (by simp only; omega) ?_; (refine wk_a ?_; simp only [MAB, seval]; refine ⟨rfl, rfl, (by decide), ?_, ?_⟩; all_goals (first | (simp only [WKB, seval, true_and]; done) | (simp [WKB, seval, true_and]; done) | simp only [WKB, seval]))))
      | (have e : l.all (edgeOk n) = true := all_yes (k := k) (by omega) hi.out
         have e2 : graphOk ⟨n, l⟩ = decide (0 ≤ n ∧ n ≤ 150 ∧ l.length ≤ 400) := by unfold graphOk; dsimp only; rw [e, Bool.and_true]
         (refine post_a hres (.inl rfl) ?_; simp only [RSB, ENB, seval, tiAll, e2]; simp only [MAB, seval]; refine ⟨rfl, rfl, ?_, ?_, ?_⟩ <;> (first | rfl | (simp [WKB, Nat.add_comm, e2]; done) | (simp only [WKB, seval])))
         all_goals (refine congrArg (fun b => SV.c (CV.v (Value.bool b))) ?_; symm; first | (rw [decide_eq_false_iff_not]; omega) | (rw [decide_eq_true_eq]; omega) | (rw [decide_eq_decide]; omega) | (rw [Bool.eq_iff_iff]; simp only [decide_eq_true_eq, beq_iff_eq]; omega)))

end Go.Proofs.YtfdhdkljpeohlaaGreatDoor

namespace Go.Proofs.YtfdhdkljpeohlaaGreatDoor
set_option linter.unusedSimpArgs false
set_option linter.unusedVariables false
set_option linter.defProp false
open Go.RowKit

def setBit (l : List UInt8) (v : Nat) : List UInt8 := l.set (v / 8) (UInt8.ofNat ((l.getD (v / 8) 0).toNat ||| 2 ^ (v % 8)))

def clrBit (l : List UInt8) (v : Nat) : List UInt8 := l.set (v / 8) (UInt8.ofNat ((l.getD (v / 8) 0).toNat &&& (255 - 2 ^ (v % 8))))

theorem ofNat_toNat (m : Nat) (h : m < 256) : (UInt8.ofNat m).toNat = m := by
  simp; omega

def turnN (n : Int) (l : List UInt8) : Int := if setOk n l = true then n else 0

def withL (n : Int) (l : List UInt8) (v : Int) : List UInt8 := if setOk n l = true then (if 0 ≤ v ∧ v < n then setBit l v.toNat else l) else []

def woutL (n : Int) (l : List UInt8) (v : Int) : List UInt8 := if setOk n l = true then (if 0 ≤ v ∧ v < n then clrBit l v.toNat else l) else []

theorem bits_fin : ∀ x : Fin 256, ∀ k : Fin 8, (x.val / 2 ^ k.val % 2 = 1 → x.val ||| 2 ^ k.val = x.val ∧ x.val &&& (255 - 2 ^ k.val) = x.val - 2 ^ k.val ∧ 2 ^ k.val ≤ x.val) ∧
    (¬ x.val / 2 ^ k.val % 2 = 1 → x.val ||| 2 ^ k.val = x.val + 2 ^ k.val ∧ x.val &&& (255 - 2 ^ k.val) = x.val ∧ x.val + 2 ^ k.val < 256) := by
  decide +kernel

theorem bits_nat8 (x k : Nat) (hx : x < 256) (hk : k < 8) : (x / 2 ^ k % 2 = 1 → x ||| 2 ^ k = x ∧ x &&& (255 - 2 ^ k) = x - 2 ^ k ∧ 2 ^ k ≤ x) ∧
    (¬ x / 2 ^ k % 2 = 1 → x ||| 2 ^ k = x + 2 ^ k ∧ x &&& (255 - 2 ^ k) = x ∧ x + 2 ^ k < 256) := bits_fin ⟨x, hx⟩ ⟨k, hk⟩

theorem set_same (l : List UInt8) (i : Nat) (hi : i < l.length) (y : UInt8) (h : y = l[i]) : l.set i y = l := by
  subst h; exact List.set_getElem_self hi

theorem u8_back (x : UInt8) (m : Nat) (h : m = x.toNat) : UInt8.ofNat m = x := by
  subst h; simp

theorem setBit_same {l : List UInt8} {v : Nat} (hv : v / 8 < l.length) (h : bitAt l v = true) : setBit l v = l := by
  unfold bitAt at h
  simp [List.getD, hv] at h
  unfold setBit
  refine set_same _ _ hv _ ?_
  simp only [List.getD, List.getElem?_eq_getElem hv, Option.getD_some]
  exact u8_back _ _ (((bits_nat8 _ (v % 8) l[v / 8].toNat_lt (by omega)).1 h).1)

theorem clrBit_same {l : List UInt8} {v : Nat} (hv : v / 8 < l.length) (h : bitAt l v = false) : clrBit l v = l := by
  unfold bitAt at h
  simp [List.getD, hv] at h
  unfold clrBit
  refine set_same _ _ hv _ ?_
  simp only [List.getD, List.getElem?_eq_getElem hv, Option.getD_some]
  exact u8_back _ _ (((bits_nat8 _ (v % 8) l[v / 8].toNat_lt (by omega)).2 (by omega)).2.1)

def turnL (n : Int) (l : List UInt8) (v : Int) (b : Bool) : List UInt8 := if b = true then withL n l v else woutL n l v

theorem turnL_no {n : Int} {l : List UInt8} (v : Int) (b : Bool) (h : setOk n l = false) : turnL n l v b = [] ∧ turnN n l = 0 := by
  cases b <;> simp [turnL, withL, woutL, turnN, h]

theorem turnL_out {n : Int} {l : List UInt8} (v : Int) (b : Bool) (h : setOk n l = true) (hv : ¬ (0 ≤ v ∧ v < n)) : turnL n l v b = l ∧ turnN n l = n := by
  cases b <;> simp only [turnL, withL, woutL, turnN, h, if_true, if_neg hv, and_self, Bool.false_eq_true, if_false]

theorem turnL_same {n : Int} {l : List UInt8} (v : Nat) (b : Bool) (h : setOk n l = true) (hv : (v : Int) < n) (hk : v / 8 < l.length) (hb : bitAt l v = b) : turnL n l v b = l ∧ turnN n l = n := by
  cases b <;> simp [turnL, withL, woutL, turnN, h, hv]
  · exact clrBit_same hk hb
  · exact setBit_same hk hb

theorem i64_and_nat (a b : Nat) (ha : a < 4294967296) (hb : b < 4294967296) : bits .and .i64 (a : Int) (b : Int) = ((a &&& b : Nat) : Int) := by
  have hx : a &&& b < 2 ^ 32 := Nat.and_lt_two_pow _ (by omega)
  have h1 : (BitVec.ofInt 64 (a : Int)).toNat = a := by
    rw [BitVec.ofInt_natCast, BitVec.toNat_ofNat]; exact Nat.mod_eq_of_lt (by omega)
  have h2 : (BitVec.ofInt 64 (b : Int)).toNat = b := by
    rw [BitVec.ofInt_natCast, BitVec.toNat_ofNat]; exact Nat.mod_eq_of_lt (by omega)
  show IntKind.i64.wrap ((BitVec.ofInt 64 (a : Int) &&& BitVec.ofInt 64 (b : Int)).toNat : Int) = _
  rw [BitVec.toNat_and, h1, h2, IntKind.wrap_i64]
  omega

theorem and255 (x : Int) (h0 : 0 ≤ x) (h1 : x < 256) : bits .and .i64 x 255 = x := by
  obtain ⟨m, rfl⟩ := Int.eq_ofNat_of_zero_le h0
  have h := i64_and_nat m 255 (by omega) (by omega)
  have e : m &&& 255 = m := by
    rw [show (255 : Nat) = 2 ^ 8 - 1 from rfl, Nat.and_two_pow_sub_one_eq_mod]; omega
  rw [e] at h
  exact h

theorem bitAt_test (l : List UInt8) (v : Nat) : bitAt l v = (l.getD (v / 8) 0).toNat.testBit (v % 8) := by
  unfold bitAt; rw [Nat.testBit_eq_decide_div_mod_eq]

theorem bitAt_setBit (l : List UInt8) (k v : Nat) (hk : k / 8 < l.length) : bitAt (setBit l k) v = (decide (v = k) || bitAt l v) := by
  rw [bitAt_test, bitAt_test]
  unfold setBit
  have hx := (l.getD (k / 8) 0).toNat_lt
  have ho : (l.getD (k / 8) 0).toNat ||| 2 ^ (k % 8) < 2 ^ 8 := Nat.or_lt_two_pow hx (Nat.pow_lt_pow_right (by omega) (by omega))
  by_cases h8 : v / 8 = k / 8
  · have e : ((l.set (k / 8) (UInt8.ofNat ((l.getD (k / 8) 0).toNat ||| 2 ^ (k % 8)))).getD (v / 8) 0).toNat = (l.getD (k / 8) 0).toNat ||| 2 ^ (k % 8) := by
      rw [h8]
      simp only [List.getD, List.getElem?_set_self hk, Option.getD_some]
      exact ofNat_toNat _ ho
    rw [e, h8, Nat.testBit_or, Nat.testBit_two_pow]
    by_cases hm : k % 8 = v % 8
    · have : v = k := by omega
      simp [this]
    · have : v ≠ k := by intro e; subst e; exact hm rfl
      simp [hm, this]
  · have : v ≠ k := by intro e; subst e; exact h8 rfl
    have e : (l.set (k / 8) (UInt8.ofNat ((l.getD (k / 8) 0).toNat ||| 2 ^ (k % 8)))).getD (v / 8) 0 = l.getD (v / 8) 0 := by
      simp only [List.getD]
      rw [List.getElem?_set_ne (by omega)]
    rw [e]
    simp [this]

/-- The first k of n vertices. -/

def fullTo (n : Nat) : Nat → List UInt8
  | 0 => List.replicate ((n + 7) / 8) 0
  | k + 1 => setBit (fullTo n k) k

theorem fullTo_len (n : Nat) : ∀ k, (fullTo n k).length = (n + 7) / 8
  | 0 => by simp [fullTo]
  | k + 1 => by simp [fullTo, setBit, fullTo_len n k]

theorem fullTo_bit (n : Nat) : ∀ k, k ≤ n → ∀ v, bitAt (fullTo n k) v = decide (v < k)
  | 0, _, v => by
    unfold bitAt fullTo
    have : (List.replicate ((n + 7) / 8) (0 : UInt8)).getD (v / 8) 0 = 0 := by
      simp only [List.getD, List.getElem?_replicate]
      split <;> rfl
    rw [this]
    simp
  | k + 1, hk, v => by
    rw [fullTo, bitAt_setBit _ _ _ (by rw [fullTo_len]; omega), fullTo_bit n k (by omega), Bool.eq_iff_iff]
    simp
    omega

theorem fullTo_ok (n k : Nat) (hn : n ≤ 150) (hk : k ≤ n) : setOk (n : Int) (fullTo n k) = true := by
  unfold setOk
  simp only [decide_eq_true_eq]
  refine ⟨by omega, by omega, by rw [fullTo_len]; simp, fun v _ hv => ?_⟩
  rw [fullTo_bit n k hk]
  simp at hv ⊢
  omega

theorem withL_full (n k : Nat) (hn : n ≤ 150) (hk : k < n) : withL (n : Int) (fullTo n k) (k : Int) = fullTo n (k + 1) ∧ turnN (n : Int) (fullTo n k) = n := by
  have h := fullTo_ok n k hn (by omega)
  constructor
  · unfold withL; rw [if_pos h, if_pos ⟨by omega, by omega⟩]; rfl
  · unfold turnN; rw [if_pos h]

/-- SetNew's bits. -/

def newL (n : Int) (b : Bool) : List UInt8 := if 0 ≤ n ∧ n ≤ 150 then fullTo n.toNat (if b = true then n.toNat else 0) else []

def newN (n : Int) : Int := if 0 ≤ n ∧ n ≤ 150 then n else 0

def newOk (n : Int) : Bool := decide (0 ≤ n ∧ n ≤ 150)

theorem newN_in {n : Nat} (h : n ≤ 150) : newN (n : Int) = n ∧ newOk (n : Int) = true := by
  constructor
  · unfold newN; rw [if_pos ⟨by omega, by omega⟩]
  · simp [newOk]; omega

theorem newL_in {n : Nat} (h : n ≤ 150) (b : Bool) : newL (n : Int) b = fullTo n (if b = true then n else 0) := by
  unfold newL; rw [if_pos ⟨by omega, by omega⟩]; rfl

theorem new_out {n : Int} (h : ¬ (0 ≤ n ∧ n ≤ 150)) (b : Bool) : newN n = 0 ∧ newL n b = [] ∧ newOk n = false := by
  refine ⟨?_, ?_, ?_⟩
  · unfold newN; rw [if_neg h]
  · unfold newL; rw [if_neg h]
  · unfold newOk; simpa using h

theorem u8_ext {x y : UInt8} (h : ∀ k, k < 8 → x.toNat.testBit k = y.toNat.testBit k) : x = y := by
  apply UInt8.toNat_inj.1
  apply Nat.eq_of_testBit_eq
  intro i
  by_cases hi : i < 8
  · exact h i hi
  · have hx : x.toNat < 2 ^ i := Nat.lt_of_lt_of_le x.toNat_lt (Nat.pow_le_pow_right (by omega) (by omega))
    have hy : y.toNat < 2 ^ i := Nat.lt_of_lt_of_le y.toNat_lt (Nat.pow_le_pow_right (by omega) (by omega))
    rw [Nat.testBit_lt_two_pow hx, Nat.testBit_lt_two_pow hy]

/-- Vertex after vertex set. -/

theorem setBit_ok {n : Nat} {l : List UInt8} {v : Nat} (hl : setOk (n : Int) l = true) (hv : v < n) : setOk (n : Int) (setBit l v) = true := by
  have h3 := (setOk_len hl).2.2
  unfold setOk at hl ⊢
  simp only [decide_eq_true_eq] at hl ⊢
  refine ⟨hl.1, hl.2.1, by simpa [setBit] using hl.2.2.1, fun u hu hnu => ?_⟩
  have e : (setBit l v).length = l.length := by simp [setBit]
  rw [e] at hu
  simp at h3
  rw [bitAt_setBit _ _ _ (by omega), hl.2.2.2 u hu hnu]
  simp at hnu ⊢
  omega

end Go.Proofs.YtfdhdkljpeohlaaGreatDoor

namespace Go.Proofs.YtfdhdkljpeohlaaGreatDoor
set_option linter.unusedSimpArgs false
set_option linter.unusedVariables false
set_option linter.defProp false
open Go.RowKit

def memI (l : List UInt8) (v : Nat) : Option Int := if bitAt l v then some (v : Int) else none
def membersL (n : Int) (l : List UInt8) : List Int := if setOk n l then fm (memI l) n.toNat else []
theorem membersL_ok {n : Int} {l : List UInt8} (h : setOk n l = true) : membersL n l = fm (memI l) n.toNat := by unfold membersL; rw [h]; rfl
theorem membersL_no {n : Int} {l : List UInt8} (h : setOk n l = false) : membersL n l = [] := by unfold membersL; rw [h]; rfl
theorem membersL_len (n : Int) (l : List UInt8) : (membersL n l).length ≤ 150 := by
  cases h : setOk n l with
  | false => rw [membersL_no h]; simp
  | true =>
    rw [membersL_ok h]
    have := fm_len (memI l) n.toNat
    have := setOk_len h
    omega
theorem memI_hit {l : List UInt8} {v : Nat} (h : bitAt l v = true) : memI l v = some (v : Int) := by simp [memI, h]
theorem memI_miss {l : List UInt8} {v : Nat} (h : bitAt l v = false) : memI l v = none := by simp [memI, h]

theorem hasL_ok {m : Nat} {l : List UInt8} {k : Nat} (h : setOk (m : Int) l = true) (hk : k < m) : hasL (m : Int) l (k : Int) = bitAt l k := by
  unfold hasL
  rw [h]
  simp [hk]

set_option maxHeartbeats 4000000 in
theorem specMembers_k (n : Int) (l : List UInt8) (hl : l.length ≤ 1048576) : FnOK Tryz.prog 114 ⟨1, [(0, some (.ro (l.map bytK)))], [.agg [.v (.int .i64 n), .sl 0 1 0 l.length]], .c (.sl 1 1 0 (membersL n l).length), [(1, some (.row 3 ((membersL n l).map intK)))], 2⟩ := by
  have hs := specSetOk_k n l hl
  cases ho : setOk n l with
  | false =>
    rw [ho] at hs
    rw [membersL_no ho]
    refine fnOK_of true mixed Tryz.func114 rfl (by rfl) (by rfl) ?_
    have hres := congrArg Array.toList Tryz.results114
    simp only [Tryz.ntmps114, BGB, seval]
    (have gx := And.intro (@List.length_map.{0,0}) (And.intro @List.getElem_map.{0,0} @bytK.eq_1); have q1 := hs; refine go ?_; (repeat' first | exact Ef.mk | apply Lf.mk | refine fun (K : KT) hK hE hT => ?_ | refine fun (KS : KE) hKS => ?_ | refine fun (D : KD) hD => ?_ | refine fun (hg : (_ : Prop)) => ?_ | fail); all_goals (first | (refine Wr.mk ?_; (try clear gx q1); repeat first | clear hK hE hT K | clear hR hE hT K) | assumption | skip))
    refine loop_v (X := Unit) [5] (fun x => [(3, .c (.sl 2 1 0 0)), (4, .c (.v (.int .i64 0)))]) (fun x => [(0, some (.ro (l.map bytK))), (1, some (.box 46 [.v (.int .i64 n), .sl 0 1 0 l.length])), (2, some (.row 3 []))]) 3 (fun x => 0) () ?_
    simp only [KPB, seval]
    refine ⟨?_, ?_⟩
    · (refine wk_a ?_; simp only [MAB, seval]; refine ⟨rfl, rfl, (by decide), ?_, ?_⟩; all_goals (first | (simp only [WKB, seval, true_and]; done) | (simp [WKB, seval, true_and]; done) | simp only [WKB, seval]))
    · rintro ⟨⟩ K hR hE hT
      (have gx := And.intro (@List.length_map.{0,0}) (And.intro @List.getElem_map.{0,0} @bytK.eq_1); have q1 := hs; refine go ?_; (repeat' first | exact Ef.mk | apply Lf.mk | refine fun (K : KT) hK hE hT => ?_ | refine fun (KS : KE) hKS => ?_ | refine fun (D : KD) hD => ?_ | refine fun (hg : (_ : Prop)) => ?_ | fail); all_goals (first | (refine Wr.mk ?_; (try clear gx q1); repeat first | clear hK hE hT K | clear hR hE hT K) | assumption | skip))
      all_goals (refine post_a hres (.inl rfl) ?_; simp only [RSB, ENB, seval, tiAll, true_and]; simp only [MAB, seval]; refine ⟨rfl, rfl, ?_, ?_, ?_⟩ <;> (first | rfl | (simp [WKB, Nat.add_comm, true_and]; done) | (simp only [WKB, seval])))
  | true =>
    rw [ho] at hs
    obtain ⟨h1, h2, h3, h4⟩ := setOk_len ho
    obtain ⟨m, rfl⟩ := Int.eq_ofNat_of_zero_le h1
    rw [membersL_ok ho]
    simp only [Int.toNat_natCast] at h3 ⊢
    refine fnOK_of true mixed Tryz.func114 rfl (by rfl) (by rfl) ?_
    have hres := congrArg Array.toList Tryz.results114
    simp only [Tryz.ntmps114, BGB, seval]
    (have gx := And.intro (@List.length_map.{0,0}) (And.intro @List.getElem_map.{0,0} @bytK.eq_1); have q1 := hs; refine go ?_; (repeat' first | exact Ef.mk | apply Lf.mk | refine fun (K : KT) hK hE hT => ?_ | refine fun (KS : KE) hKS => ?_ | refine fun (D : KD) hD => ?_ | refine fun (hg : (_ : Prop)) => ?_ | fail); all_goals (first | (refine Wr.mk ?_; (try clear gx q1); repeat first | clear hK hE hT K | clear hR hE hT K) | assumption | skip))
    refine loop_v (X := {k : Nat // k ≤ m}) [5] (fun x => [(3, .c (.sl 2 1 0 (fm (memI l) x.1).length)), (4, .c (.v (.int .i64 ((x.1 : Nat) : Int))))]) (fun x => [(0, some (.ro (l.map bytK))), (1, some (.box 46 [.v (.int .i64 (m : Int)), .sl 0 1 0 l.length])), (2, some (.row 3 ((fm (memI l) x.1).map intK)))]) 3 (fun x => m - x.1) ⟨0, by omega⟩ ?_
    simp only [KPB, seval]
    refine ⟨?_, ?_⟩
    · (refine wk_a ?_; simp only [MAB, seval]; refine ⟨rfl, rfl, (by decide), ?_, ?_⟩; all_goals (first | (simp only [WKB, seval, fm_zero]; done) | (simp [WKB, seval, fm_zero]; done) | simp only [WKB, seval]))
    · rintro ⟨k, hk⟩ K hR hE hT
      have l1 := fm_len (memI l) k
      have hh1 := specHas_k (m : Int) l hl (k : Int)
      rcases Nat.lt_or_ge k m with hlt | hge
      case inr =>
        (have gx := And.intro (@List.length_map.{0,0}) (And.intro (@List.getElem_map.{0,0}) (And.intro @bytK.eq_1 @List.length_map.{0,0})); have q1 := hs; refine go ?_; (repeat' first | exact Ef.mk | apply Lf.mk | refine fun (K : KT) hK hE hT => ?_ | refine fun (KS : KE) hKS => ?_ | refine fun (D : KD) hD => ?_ | refine fun (hg : (_ : Prop)) => ?_ | fail); all_goals (first | (refine Wr.mk ?_; (try clear gx q1); repeat first | clear hK hE hT K | clear hR hE hT K) | assumption | skip))
        obtain rfl : k = m := by omega
        (refine post_a hres (.inl rfl) ?_; simp only [RSB, ENB, seval, tiAll, true_and]; simp only [MAB, seval]; refine ⟨rfl, rfl, ?_, ?_, ?_⟩ <;> (first | rfl | (simp [WKB, Nat.add_comm, true_and]; done) | (simp only [WKB, seval])))
      case inl =>
        rw [hasL_ok ho hlt] at hh1
        (have gx := And.intro (@List.length_map.{0,0}) (And.intro (@List.getElem_map.{0,0}) (And.intro @bytK.eq_1 @List.length_map.{0,0})); have q1 := hs; have q2 := hh1; refine go ?_; (repeat' first | exact Ef.mk | apply Lf.mk | refine fun (K : KT) hK hE hT => ?_ | refine fun (KS : KE) hKS => ?_ | refine fun (D : KD) hD => ?_ | refine fun (hg : (_ : Prop)) => ?_ | fail); all_goals (first | (refine Wr.mk ?_; (try clear gx q1 q2); repeat first | clear hK hE hT K | clear hR hE hT K) | assumption | skip))
        · have e := memI_hit (l := l) (v := k) (by assumption)
          (refine hR.out ⟨k + 1, by omega⟩ _ _ _ (by simp only; omega) ?_; (refine wk_a ?_; simp only [MAB, seval]; refine ⟨rfl, rfl, (by decide), ?_, ?_⟩; all_goals (first | (simp only [WKB, seval, fm_some e, intK]; done) | (simp [WKB, seval, fm_some e, intK]; done) | simp only [WKB, seval])))
        · have e := memI_miss (l := l) (v := k) (by assumption)
          (refine hR.out ⟨k + 1, by omega⟩ _ _ _ (by simp only; omega) ?_; (refine wk_a ?_; simp only [MAB, seval]; refine ⟨rfl, rfl, (by decide), ?_, ?_⟩; all_goals (first | (simp only [WKB, seval, fm_none e]; done) | (simp [WKB, seval, fm_none e]; done) | simp only [WKB, seval])))

def zeroB (x : UInt8) : Bool := decide (x.toNat = 0)
def emptyL (l : List UInt8) : Bool := l.all zeroB

theorem byte_zero {x : UInt8} (hb : ∀ k, k < 8 → x.toNat / 2 ^ k % 2 = 0) : x.toNat = 0 := by
  have : x = 0 := u8_ext fun k hk => by
    rw [Nat.testBit_eq_decide_div_mod_eq, hb k hk]
    simp
  rw [this]; rfl

theorem fm_nil {α : Type} {f : Nat → Option α} {n : Nat} : fm f n = [] ↔ ∀ i, i < n → f i = none := by
  induction n with
  | zero => simp [fm_zero]
  | succ n ih =>
    cases h : f n with
    | none =>
      rw [fm_none h, ih]
      constructor
      · intro h1 i hi
        by_cases hin : i = n
        · subst hin; exact h
        · exact h1 i (by omega)
      · exact fun h1 i hi => h1 i (by omega)
    | some x =>
      rw [fm_some h]
      constructor
      · intro h1; simp at h1
      · intro h1; have := h1 n (by omega); rw [h] at this; cases this

theorem empty_members {n : Int} {l : List UInt8} (ho : setOk n l = true) : emptyL l = decide ((membersL n l).length = 0) := by
  obtain ⟨h1, h2, h3, h4⟩ := setOk_len ho
  rw [membersL_ok ho, Bool.eq_iff_iff, decide_eq_true_eq, List.length_eq_zero_iff, fm_nil]
  unfold emptyL
  rw [List.all_eq_true]
  constructor
  · intro h i hi
    refine memI_miss ?_
    unfold bitAt
    rw [decide_eq_false_iff_not]
    have hil : i / 8 < l.length := by omega
    have := h l[i / 8] (List.getElem_mem hil)
    simp only [zeroB, decide_eq_true_eq] at this
    simp [List.getD, hil, this]
  · intro h x hx
    obtain ⟨i, hi, rfl⟩ := List.getElem_of_mem hx
    simp only [zeroB, decide_eq_true_eq]
    refine byte_zero fun k hk => ?_
    have hb : bitAt l (8 * i + k) = false := by
      by_cases hlt : 8 * i + k < n.toNat
      · have := h _ hlt
        unfold memI at this
        cases hb : bitAt l (8 * i + k) with
        | false => rfl
        | true => rw [hb] at this; simp at this
      · have ho' := ho
        unfold setOk at ho'
        simp only [decide_eq_true_eq] at ho'
        exact ho'.2.2.2 _ (by omega) (by omega)
    unfold bitAt at hb
    rw [decide_eq_false_iff_not] at hb
    have e1 : (8 * i + k) / 8 = i := by omega
    have e2 : (8 * i + k) % 8 = k := by omega
    rw [e1, e2] at hb
    simp [List.getD, hi] at hb
    omega

/-- Is the run valid? -/
def runOk (g : GraphD) (r : RunD) : Bool :=
  graphOk g && jobOk g.N r.Job && decide (0 ≤ r.Iter ∧ r.Iter ≤ 1000 ∧ (r.Vals.length : Int) = g.N ∧ r.EVals.length = g.Edges.length) && r.Vals.all valOk && r.EVals.all valOk &&
    setOk r.Next.N r.Next.Bits && (r.Next.N == g.N) && (r.Done == emptyL r.Next.Bits)

theorem members_zero {n : Int} {l : List UInt8} (ho : setOk n l = true) : (((membersL n l).length : Int) == 0) = emptyL l := by
  rw [empty_members ho, Bool.eq_iff_iff, beq_iff_eq, decide_eq_true_eq]
  omega

set_option maxHeartbeats 8000000 in
theorem specRunOk_k (g : GraphD) (r : RunD) (hg : g.Edges.length ≤ 1048576) (hr : (r.Vals).length ≤ 1048576 ∧ (r.EVals).length ≤ 1048576 ∧ (r.Next.Bits).length ≤ 1048576) : FnOK Tryz.prog 102 ⟨4, [(0, some (.ro ((g.Edges).map EdgeD.k))), (1, some (.ro ((r.Vals).map intK))), (2, some (.ro ((r.EVals).map intK))), (3, some (.ro ((r.Next.Bits).map bytK)))], [.agg [.v (.int .i64 g.N), .sl 0 3 0 (g.Edges).length], .agg [.v (.int .i64 r.Job.Prog), .v (.int .i64 r.Job.Src), .v (.int .i64 r.Iter), .v (.bool r.Done), .sl 1 1 0 (r.Vals).length, .sl 2 1 0 (r.EVals).length, .v (.int .i64 r.Next.N), .sl 3 1 0 (r.Next.Bits).length]], .c (.v (.bool (runOk g r))), [], 4⟩ := by
  obtain ⟨h0, h1, h2⟩ := hr
  have c1 := specGraphOk_k g (by omega)
  have c2 := specJobOk_k g.N r.Job
  have c3 := l11Vals_k r.Vals (by omega)
  have c4 := l11Vals_k r.EVals (by omega)
  have c5 := specSetOk_k r.Next.N r.Next.Bits h2
  obtain ⟨v1, e1⟩ : ∃ v, v = graphOk g := ⟨_, rfl⟩
  obtain ⟨v2, e2⟩ : ∃ v, v = jobOk g.N r.Job := ⟨_, rfl⟩
  obtain ⟨v3, e3⟩ : ∃ v, v = r.Vals.all valOk := ⟨_, rfl⟩
  obtain ⟨v4, e4⟩ : ∃ v, v = r.EVals.all valOk := ⟨_, rfl⟩
  obtain ⟨v5, e5⟩ : ∃ v, v = setOk r.Next.N r.Next.Bits := ⟨_, rfl⟩
  obtain ⟨v6, e6⟩ : ∃ v, v = emptyL r.Next.Bits := ⟨_, rfl⟩
  obtain ⟨v7, e70⟩ : ∃ v, v = decide (0 ≤ r.Iter ∧ r.Iter ≤ 1000 ∧ (r.Vals.length : Int) = g.N ∧ r.EVals.length = g.Edges.length) := ⟨_, rfl⟩
  unfold runOk
  rw [← e1] at c1
  rw [← e2] at c2
  rw [← e3] at c3
  rw [← e4] at c4
  rw [← e5] at c5
  rw [← e1, ← e2, ← e3, ← e4, ← e5, ← e6, ← e70]
  have c6 := specMembers_k r.Next.N r.Next.Bits h2
  have e7 : v5 = true → (((membersL r.Next.N r.Next.Bits).length : Int) == 0) = v6 := fun h => by rw [e6]; exact members_zero (by rw [← e5]; exact h)
  have e8 := membersL_len r.Next.N r.Next.Bits
  refine fnOK_of true mixed Tryz.func102 rfl (by rfl) (by rfl) ?_
  have hres := congrArg Array.toList Tryz.results102
  simp only [Tryz.ntmps102, BGB, seval]
  (have gx := And.intro (@List.length_map.{0,0}) (And.intro (@List.getElem_map.{0,0}) (And.intro @bytK.eq_1 @List.length_map.{0,0})); have q1 := c1; have q2 := c2; have q3 := c3; have q4 := c4; have q5 := c5; have q6 := c6; refine go ?_; (repeat' first | exact Ef.mk | apply Lf.mk | refine fun (K : KT) hK hE hT => ?_ | refine fun (KS : KE) hKS => ?_ | refine fun (D : KD) hD => ?_ | refine fun (hg : (_ : Prop)) => ?_ | fail); all_goals (first | (refine Wr.mk ?_; (try clear gx q1 q2 q3 q4 q5 q6); repeat first | clear hK hE hT K | clear hR hE hT K) | assumption | skip))
  all_goals (refine post_a hres (.inl rfl) ?_; simp only [RSB, ENB, seval, tiAll, true_and]; simp only [MAB, seval]; refine ⟨rfl, rfl, ?_, ?_, ?_⟩ <;> (first | rfl | (simp [WKB, Nat.add_comm, true_and]; done) | (simp only [WKB, seval])))
  all_goals (refine congrArg (fun b => SV.c (CV.v (Value.bool b))) ?_; clear c1 c2 c3 c4 c5 c6 e1 e2 e3 e4 e5 e6 hres)
  all_goals try rw [e7 (by assumption)]
  all_goals try clear e7
  all_goals first
    | (simp only [Bool.true_and, Bool.and_true, Bool.false_and, Bool.and_false, *]; done)
    | (have e9 : v7 = true := by rw [e70, decide_eq_true_eq]; omega
       clear e70
       simp [*]; done)
    | (have e9 : v7 = false := by rw [e70, decide_eq_false_iff_not]; omega
       clear e70
       simp [*]; done)

end Go.Proofs.YtfdhdkljpeohlaaGreatDoor

namespace Go.Proofs.YtfdhdkljpeohlaaGreatDoor
set_option linter.unusedSimpArgs false
set_option linter.unusedVariables false
set_option linter.defProp false
open Go.RowKit

theorem copyInts_k (l : List Int) (h : l.length ≤ 1048576) : FnOK Tryz.prog 45 ⟨1, [(0, some (.ro (l.map intK)))], [.c (.sl 0 1 0 l.length)], .c (.sl 1 1 0 l.length), [(1, some (.row 3 (l.map intK)))], 2⟩ := by
  refine fnOK_of true mixed Tryz.func45 rfl (by rfl) (by rfl) ?_
  have hres := congrArg Array.toList Tryz.results45
  simp only [Tryz.ntmps45, BGB, seval]
  (have gx := And.intro @List.length_map.{0,0} @map_take; refine go ?_; (repeat' first | exact Ef.mk | apply Lf.mk | refine fun (K : KT) hK hE hT => ?_ | refine fun (KS : KE) hKS => ?_ | refine fun (D : KD) hD => ?_ | refine fun (hg : (_ : Prop)) => ?_ | fail); all_goals (first | (refine Wr.mk ?_; (try clear gx); repeat first | clear hK hE hT K | clear hR hE hT K) | assumption | skip))
  (refine post_a hres (.inl rfl) ?_; simp only [RSB, ENB, seval, tiAll, true_and]; simp only [MAB, seval]; refine ⟨rfl, rfl, ?_, ?_, ?_⟩ <;> (first | rfl | (simp [WKB, Nat.add_comm, true_and]; done) | (simp only [WKB, seval])))

theorem copyBytes_k (l : List UInt8) (h : l.length ≤ 1048576) : FnOK Tryz.prog 48 ⟨1, [(0, some (.ro (l.map bytK)))], [.c (.sl 0 1 0 l.length)], .c (.sl 1 1 0 l.length), [(1, some (.row 5 (l.map bytK)))], 2⟩ := by
  refine fnOK_of true mixed Tryz.func48 rfl (by rfl) (by rfl) ?_
  have hres := congrArg Array.toList Tryz.results48
  simp only [Tryz.ntmps48, BGB, seval]
  (have gx := And.intro @List.length_map.{0,0} @map_take; refine go ?_; (repeat' first | exact Ef.mk | apply Lf.mk | refine fun (K : KT) hK hE hT => ?_ | refine fun (KS : KE) hKS => ?_ | refine fun (D : KD) hD => ?_ | refine fun (hg : (_ : Prop)) => ?_ | fail); all_goals (first | (refine Wr.mk ?_; (try clear gx); repeat first | clear hK hE hT K | clear hR hE hT K) | assumption | skip))
  (refine post_a hres (.inl rfl) ?_; simp only [RSB, ENB, seval, tiAll, true_and]; simp only [MAB, seval]; refine ⟨rfl, rfl, ?_, ?_, ?_⟩ <;> (first | rfl | (simp [WKB, Nat.add_comm, true_and]; done) | (simp only [WKB, seval])))

theorem copySet_k (x : SetD) (h : (x.Bits).length ≤ 1048576) : FnOK Tryz.prog 46 ⟨1, [(0, some (.ro ((x.Bits).map bytK)))], [.agg [.v (.int .i64 x.N), .sl 0 1 0 (x.Bits).length]], .agg [.v (.int .i64 x.N), .sl 1 1 0 (x.Bits).length], [(1, some (.row 5 ((x.Bits).map bytK)))], 2⟩ := by
  refine fnOK_of true mixed Tryz.func46 rfl (by rfl) (by rfl) ?_
  have hres := congrArg Array.toList Tryz.results46
  simp only [Tryz.ntmps46, BGB, seval]
  (have gx := @List.length_map.{0,0}; have q1 := copyBytes_k x.Bits h; refine go ?_; (repeat' first | exact Ef.mk | apply Lf.mk | refine fun (K : KT) hK hE hT => ?_ | refine fun (KS : KE) hKS => ?_ | refine fun (D : KD) hD => ?_ | refine fun (hg : (_ : Prop)) => ?_ | fail); all_goals (first | (refine Wr.mk ?_; (try clear gx q1); repeat first | clear hK hE hT K | clear hR hE hT K) | assumption | skip))
  (refine post_a hres (.inl rfl) ?_; simp only [RSB, ENB, seval, tiAll, true_and]; simp only [MAB, seval]; refine ⟨rfl, rfl, ?_, ?_, ?_⟩ <;> (first | rfl | (simp [WKB, Nat.add_comm, true_and]; done) | (simp only [WKB, seval])))

theorem l09Copy_k (x : SetD) (h : (x.Bits).length ≤ 1048576) : FnOK Tryz.prog 115 ⟨1, [(0, some (.ro ((x.Bits).map bytK)))], [.agg [.v (.int .i64 x.N), .sl 0 1 0 (x.Bits).length]], .agg [.v (.int .i64 x.N), .sl 1 1 0 (x.Bits).length], [(1, some (.row 5 ((x.Bits).map bytK)))], 2⟩ := by
  refine fnOK_of true mixed Tryz.func115 rfl (by rfl) (by rfl) ?_
  have hres := congrArg Array.toList Tryz.results115
  simp only [Tryz.ntmps115, BGB, seval]
  (have gx := And.intro @List.length_map.{0,0} @map_take; refine go ?_; (repeat' first | exact Ef.mk | apply Lf.mk | refine fun (K : KT) hK hE hT => ?_ | refine fun (KS : KE) hKS => ?_ | refine fun (D : KD) hD => ?_ | refine fun (hg : (_ : Prop)) => ?_ | fail); all_goals (first | (refine Wr.mk ?_; (try clear gx); repeat first | clear hK hE hT K | clear hR hE hT K) | assumption | skip))
  (refine post_a hres (.inl rfl) ?_; simp only [RSB, ENB, seval, tiAll, true_and]; simp only [MAB, seval]; refine ⟨rfl, rfl, ?_, ?_, ?_⟩ <;> (first | rfl | (simp [WKB, Nat.add_comm, true_and]; done) | (simp only [WKB, seval])))

set_option maxHeartbeats 2000000 in
theorem l11Copy_k (x : RunD) (h : (x.Vals).length ≤ 1048576 ∧ (x.EVals).length ≤ 1048576 ∧ (x.Next.Bits).length ≤ 1048576) : FnOK Tryz.prog 103 ⟨3, [(0, some (.ro ((x.Vals).map intK))), (1, some (.ro ((x.EVals).map intK))), (2, some (.ro ((x.Next.Bits).map bytK)))], [.agg [.v (.int .i64 x.Job.Prog), .v (.int .i64 x.Job.Src), .v (.int .i64 x.Iter), .v (.bool x.Done), .sl 0 1 0 (x.Vals).length, .sl 1 1 0 (x.EVals).length, .v (.int .i64 x.Next.N), .sl 2 1 0 (x.Next.Bits).length]], .agg [.v (.int .i64 x.Job.Prog), .v (.int .i64 x.Job.Src), .v (.int .i64 x.Iter), .v (.bool x.Done), .sl 3 1 0 (x.Vals).length, .sl 4 1 0 (x.EVals).length, .v (.int .i64 x.Next.N), .sl 5 1 0 (x.Next.Bits).length], [(3, some (.row 3 ((x.Vals).map intK))), (4, some (.row 3 ((x.EVals).map intK))), (5, some (.row 5 ((x.Next.Bits).map bytK)))], 6⟩ := by
  obtain ⟨h0, h1, h2⟩ := h
  refine fnOK_of true mixed Tryz.func103 rfl (by rfl) (by rfl) ?_
  have hres := congrArg Array.toList Tryz.results103
  simp only [Tryz.ntmps103, BGB, seval]
  (have gx := And.intro @List.length_map.{0,0} @map_take; have q1 := l09Copy_k x.Next h2; refine go ?_; (repeat' first | exact Ef.mk | apply Lf.mk | refine fun (K : KT) hK hE hT => ?_ | refine fun (KS : KE) hKS => ?_ | refine fun (D : KD) hD => ?_ | refine fun (hg : (_ : Prop)) => ?_ | fail); all_goals (first | (refine Wr.mk ?_; (try clear gx q1); repeat first | clear hK hE hT K | clear hR hE hT K) | assumption | skip))
  (refine post_a hres (.inl rfl) ?_; simp only [RSB, ENB, seval, tiAll, true_and]; simp only [MAB, seval]; refine ⟨rfl, rfl, ?_, ?_, ?_⟩ <;> (first | rfl | (simp [WKB, Nat.add_comm, true_and]; done) | (simp only [WKB, seval])))

end Go.Proofs.YtfdhdkljpeohlaaGreatDoor

namespace Go.Proofs.YtfdhdkljpeohlaaGreatDoor
set_option linter.unusedSimpArgs false
set_option linter.unusedVariables false
set_option linter.defProp false
open Go.RowKit

theorem setBit_row (l : List UInt8) (v : Nat) (hv : v / 8 < l.length) : (l.map bytK).set (v / 8) [DC.v (.int .u8 ((UInt8.ofNat (l[v / 8].toNat ||| 2 ^ (v % 8))).toNat : Int))] = (setBit l v).map bytK := by
  unfold setBit
  rw [List.map_set]
  simp [bytK, List.getD, hv]

theorem clrBit_row (l : List UInt8) (v : Nat) (hv : v / 8 < l.length) : (l.map bytK).set (v / 8) [DC.v (.int .u8 ((UInt8.ofNat (l[v / 8].toNat &&& (255 - 2 ^ (v % 8)))).toNat : Int))] = (clrBit l v).map bytK := by
  unfold clrBit
  rw [List.map_set]
  simp [bytK, List.getD, hv]

theorem setBit_len (l : List UInt8) (v : Nat) : (setBit l v).length = l.length := by simp [setBit]
theorem clrBit_len (l : List UInt8) (v : Nat) : (clrBit l v).length = l.length := by simp [clrBit]

def addL (n : Int) (l : List UInt8) (v : Int) : List UInt8 := if 0 ≤ v ∧ v < n then setBit l v.toNat else l
theorem addL_len (n : Int) (l : List UInt8) (v : Int) : (addL n l v).length = l.length := by
  unfold addL; split
  · rw [setBit_len]
  · rfl
theorem addL_in {n : Int} {l : List UInt8} {v : Nat} (h : (v : Int) < n) : addL n l (v : Int) = setBit l v := by
  unfold addL; rw [if_pos ⟨by omega, h⟩]; simp
theorem withL_add {n : Int} {l : List UInt8} (v : Int) (h : setOk n l = true) : withL n l v = addL n l v ∧ turnN n l = n := by
  unfold withL turnN addL; rw [if_pos h, if_pos h]; exact ⟨rfl, rfl⟩

theorem turn_set (l : List UInt8) (k : Nat) (hk : k / 8 < l.length) (h : bitAt l k = false) : IntKind.u8.wrap (bits BinOp.and IntKind.i64 ((l[k / 8].toNat : Int) + bitW k) 255) = ((UInt8.ofNat (l[k / 8].toNat ||| 2 ^ (k % 8))).toNat : Int) := by
  have h1 := l[k / 8].toNat_lt
  have hb : ¬ l[k / 8].toNat / 2 ^ (k % 8) % 2 = 1 := by
    unfold bitAt at h
    rw [decide_eq_false_iff_not] at h
    simpa [List.getD, hk] using h
  obtain ⟨h2, _, h3⟩ := (bits_nat8 l[k / 8].toNat (k % 8) h1 (by omega)).2 hb
  have e : ((l[k / 8].toNat : Int) + bitW k) = ((l[k / 8].toNat + 2 ^ (k % 8) : Nat) : Int) := by unfold bitW; push_cast; rfl
  rw [e, and255 _ (by omega) (by omega), h2, ofNat_toNat _ h3]
  exact IntWalk.u8_in _ ⟨by omega, by omega⟩

theorem turn_clr (l : List UInt8) (k : Nat) (hk : k / 8 < l.length) (h : bitAt l k = true) : IntKind.u8.wrap (bits BinOp.and IntKind.i64 ((l[k / 8].toNat : Int) - bitW k) 255) = ((UInt8.ofNat (l[k / 8].toNat &&& (255 - 2 ^ (k % 8)))).toNat : Int) := by
  have h1 := l[k / 8].toNat_lt
  have hb : l[k / 8].toNat / 2 ^ (k % 8) % 2 = 1 := by
    unfold bitAt at h
    rw [decide_eq_true_eq] at h
    simpa [List.getD, hk] using h
  obtain ⟨_, h2, h3⟩ := (bits_nat8 l[k / 8].toNat (k % 8) h1 (by omega)).1 hb
  rw [h2]
  unfold bitW
  generalize 2 ^ (k % 8) = p at h3
  generalize l[k / 8].toNat = x at h1 h3
  have e : ((x : Int) - (p : Int)) = ((x - p : Nat) : Int) := by omega
  rw [e, and255 _ (by omega) (by omega), ofNat_toNat _ (by omega)]
  exact IntWalk.u8_in _ ⟨by omega, by omega⟩

theorem bitW_in (k : Nat) : 1 ≤ bitW k ∧ bitW k ≤ 128 := bitW_le k

set_option maxHeartbeats 4000000 in
theorem l09Turn_k (n : Int) (l : List UInt8) (hl : l.length ≤ 1048576) (v : Int) (b : Bool) :
    FnOK Tryz.prog 126 ⟨1, [(0, some (.ro (l.map bytK)))], [.agg [.v (.int .i64 n), .sl 0 1 0 l.length], .c (.v (.int .i64 v)), .c (.v (.bool b))], .agg [.v (.int .i64 (turnN n l)), .sl 1 1 0 (turnL n l v b).length], [(1, some (.row 5 ((turnL n l v b).map bytK)))], 2⟩ := by
  have hs := specSetOk_k n l hl
  have hh := specHas_k n l hl v
  cases ho : setOk n l with
  | false =>
    rw [ho] at hs
    obtain ⟨e1, e2⟩ := turnL_no v b ho
    rw [e1, e2]
    refine fnOK_of true mixed Tryz.func126 rfl (by rfl) (by rfl) ?_
    have hres := congrArg Array.toList Tryz.results126
    simp only [Tryz.ntmps126, BGB, seval]
    (have gx := And.intro (@List.length_map.{0,0}) (And.intro @List.getElem_map.{0,0} @bytK.eq_1); have q1 := hs; refine go ?_; (repeat' first | exact Ef.mk | apply Lf.mk | refine fun (K : KT) hK hE hT => ?_ | refine fun (KS : KE) hKS => ?_ | refine fun (D : KD) hD => ?_ | refine fun (hg : (_ : Prop)) => ?_ | fail); all_goals (first | (refine Wr.mk ?_; (try clear gx q1); repeat first | clear hK hE hT K | clear hR hE hT K) | assumption | skip))
    (refine post_a hres (.inl rfl) ?_; simp only [RSB, ENB, seval, tiAll, true_and]; simp only [MAB, seval]; refine ⟨rfl, rfl, ?_, ?_, ?_⟩ <;> (first | rfl | (simp [WKB, Nat.add_comm, true_and]; done) | (simp only [WKB, seval])))
  | true =>
    rw [ho] at hs
    obtain ⟨h1, h2, h3, h4⟩ := setOk_len ho
    by_cases hv : 0 ≤ v ∧ v < n
    · obtain ⟨m, rfl⟩ := Int.eq_ofNat_of_zero_le h1
      obtain ⟨k, rfl⟩ := Int.eq_ofNat_of_zero_le hv.1
      have hk : k / 8 < l.length := by simp only [Int.toNat_natCast] at h3; omega
      have q2 : ((k : Int) / 8).toNat = k / 8 := by omega
      have hx := l[k / 8].toNat_lt
      obtain ⟨hw1, hw2⟩ := bitW_in k
      rw [hasL_ok ho (by omega)] at hh
      have e2 : turnN (m : Int) l = m := (withL_add (k : Int) ho).2
      rw [e2]
      by_cases hb : bitAt l k = b
      · obtain ⟨e1, _⟩ := turnL_same k b ho hv.2 hk hb
        rw [hb] at hh
        rw [e1]
        refine fnOK_of true mixed Tryz.func126 rfl (by rfl) (by rfl) ?_
        have hres := congrArg Array.toList Tryz.results126
        simp only [Tryz.ntmps126, BGB, seval]
        (have gx := And.intro (@List.length_map.{0,0}) (And.intro @List.getElem_map.{0,0} @bytK.eq_1); have q1 := hs; have q2 := l09Copy_k ⟨(m : Int), l⟩ hl; have q3 := hh; refine go ?_; (repeat' first | exact Ef.mk | apply Lf.mk | refine fun (K : KT) hK hE hT => ?_ | refine fun (KS : KE) hKS => ?_ | refine fun (D : KD) hD => ?_ | refine fun (hg : (_ : Prop)) => ?_ | fail); all_goals (first | (refine Wr.mk ?_; (try clear gx q1 q2 q3); repeat first | clear hK hE hT K | clear hR hE hT K) | assumption | skip))
        (refine post_a hres (.inl rfl) ?_; simp only [RSB, ENB, seval, tiAll, true_and]; simp only [MAB, seval]; refine ⟨rfl, rfl, ?_, ?_, ?_⟩ <;> (first | rfl | (simp [WKB, Nat.add_comm, true_and]; done) | (simp only [WKB, seval])))
      · have wk := l09Bit_w k (by omega)
        cases b with
        | true =>
          have hb' : bitAt l k = false := by simpa using hb
          have e1 : turnL (m : Int) l (k : Int) true = setBit l k := by
            unfold turnL withL
            rw [if_pos rfl, if_pos ho, if_pos hv]; simp
          have q3 := setBit_row l k hk
          have q4 := turn_set l k hk hb'
          rw [hb'] at hh
          rw [e1]
          refine fnOK_of true mixed Tryz.func126 rfl (by rfl) (by rfl) ?_
          have hres := congrArg Array.toList Tryz.results126
          simp only [Tryz.ntmps126, BGB, seval]
          (have gx := And.intro (@List.length_map.{0,0}) (And.intro (@List.getElem_map.{0,0}) (And.intro (@bytK.eq_1) (And.intro (@q2) (And.intro @q4 @q3)))); have q1 := hs; have q2 := l09Copy_k ⟨(m : Int), l⟩ hl; have q3 := hh; have q4 := wk; refine go ?_; (repeat' first | exact Ef.mk | apply Lf.mk | refine fun (K : KT) hK hE hT => ?_ | refine fun (KS : KE) hKS => ?_ | refine fun (D : KD) hD => ?_ | refine fun (hg : (_ : Prop)) => ?_ | fail); all_goals (first | (refine Wr.mk ?_; (try clear gx q1 q2 q3 q4); repeat first | clear hK hE hT K | clear hR hE hT K) | assumption | skip))
          (refine post_a hres (.inl rfl) ?_; simp only [RSB, ENB, seval, tiAll, setBit_len]; simp only [MAB, seval]; refine ⟨rfl, rfl, ?_, ?_, ?_⟩ <;> (first | rfl | (simp [WKB, Nat.add_comm, setBit_len]; done) | (simp only [WKB, seval])))
        | false =>
          have hb' : bitAt l k = true := by simpa using hb
          have e1 : turnL (m : Int) l (k : Int) false = clrBit l k := by
            unfold turnL woutL
            rw [if_neg (by decide), if_pos ho, if_pos hv]; simp
          have q3 := clrBit_row l k hk
          have q4 := turn_clr l k hk hb'
          rw [hb'] at hh
          rw [e1]
          refine fnOK_of true mixed Tryz.func126 rfl (by rfl) (by rfl) ?_
          have hres := congrArg Array.toList Tryz.results126
          simp only [Tryz.ntmps126, BGB, seval]
          (have gx := And.intro (@List.length_map.{0,0}) (And.intro (@List.getElem_map.{0,0}) (And.intro (@bytK.eq_1) (And.intro (@q2) (And.intro @q4 @q3)))); have q1 := hs; have q2 := l09Copy_k ⟨(m : Int), l⟩ hl; have q3 := hh; have q4 := wk; refine go ?_; (repeat' first | exact Ef.mk | apply Lf.mk | refine fun (K : KT) hK hE hT => ?_ | refine fun (KS : KE) hKS => ?_ | refine fun (D : KD) hD => ?_ | refine fun (hg : (_ : Prop)) => ?_ | fail); all_goals (first | (refine Wr.mk ?_; (try clear gx q1 q2 q3 q4); repeat first | clear hK hE hT K | clear hR hE hT K) | assumption | skip))
          (refine post_a hres (.inl rfl) ?_; simp only [RSB, ENB, seval, tiAll, clrBit_len]; simp only [MAB, seval]; refine ⟨rfl, rfl, ?_, ?_, ?_⟩ <;> (first | rfl | (simp [WKB, Nat.add_comm, clrBit_len]; done) | (simp only [WKB, seval])))
    · obtain ⟨e1, e2⟩ := turnL_out v b ho hv
      have e3 : hasL n l v = false := by unfold hasL; simp [ho]; intro a b; exact absurd ⟨a, b⟩ hv
      rw [e1, e2]
      refine fnOK_of true mixed Tryz.func126 rfl (by rfl) (by rfl) ?_
      have hres := congrArg Array.toList Tryz.results126
      simp only [Tryz.ntmps126, BGB, seval]
      (have gx := And.intro (@List.length_map.{0,0}) (And.intro @List.getElem_map.{0,0} @bytK.eq_1); have q1 := hs; have q2 := l09Copy_k ⟨n, l⟩ hl; refine go ?_; (repeat' first | exact Ef.mk | apply Lf.mk | refine fun (K : KT) hK hE hT => ?_ | refine fun (KS : KE) hKS => ?_ | refine fun (D : KD) hD => ?_ | refine fun (hg : (_ : Prop)) => ?_ | fail); all_goals (first | (refine Wr.mk ?_; (try clear gx q1 q2); repeat first | clear hK hE hT K | clear hR hE hT K) | assumption | skip))
      all_goals (refine post_a hres (.inl rfl) ?_; simp only [RSB, ENB, seval, tiAll, true_and]; simp only [MAB, seval]; refine ⟨rfl, rfl, ?_, ?_, ?_⟩ <;> (first | rfl | (simp [WKB, Nat.add_comm, true_and]; done) | (simp only [WKB, seval])))

theorem turnL_true (n : Int) (l : List UInt8) (v : Int) : turnL n l v true = withL n l v := by unfold turnL; rw [if_pos rfl]

set_option maxHeartbeats 2000000 in
theorem specWith_k (n : Int) (l : List UInt8) (hl : l.length ≤ 1048576) (v : Int) :
    FnOK Tryz.prog 112 ⟨1, [(0, some (.ro (l.map bytK)))], [.agg [.v (.int .i64 n), .sl 0 1 0 l.length], .c (.v (.int .i64 v))], .agg [.v (.int .i64 (turnN n l)), .sl 1 1 0 (withL n l v).length], [(1, some (.row 5 ((withL n l v).map bytK)))], 2⟩ := by
  have ht := l09Turn_k n l hl v true
  rw [turnL_true] at ht
  refine fnOK_of true mixed Tryz.func112 rfl (by rfl) (by rfl) ?_
  have hres := congrArg Array.toList Tryz.results112
  simp only [Tryz.ntmps112, BGB, seval]
  (have gx := And.intro (@List.length_map.{0,0}) (And.intro @List.getElem_map.{0,0} @bytK.eq_1); have q1 := ht; refine go ?_; (repeat' first | exact Ef.mk | apply Lf.mk | refine fun (K : KT) hK hE hT => ?_ | refine fun (KS : KE) hKS => ?_ | refine fun (D : KD) hD => ?_ | refine fun (hg : (_ : Prop)) => ?_ | fail); all_goals (first | (refine Wr.mk ?_; (try clear gx q1); repeat first | clear hK hE hT K | clear hR hE hT K) | assumption | skip))
  (refine post_a hres (.inl rfl) ?_; simp only [RSB, ENB, seval, tiAll, true_and]; simp only [MAB, seval]; refine ⟨rfl, rfl, ?_, ?_, ?_⟩ <;> (first | rfl | (simp [WKB, Nat.add_comm, true_and]; done) | (simp only [WKB, seval])))

/-! New sets. -/

theorem fullTo_map (n : Nat) : (fullTo n 0).map bytK = List.replicate ((n + 7) / 8) [DC.v (.int .u8 0)] := by
  simp [fullTo, bytK]

theorem newL_out {n : Int} (h : ¬ (0 ≤ n ∧ n ≤ 150)) (b : Bool) : newN n = 0 ∧ newL n b = [] ∧ newOk n = false := new_out h b

theorem fullTo_step (n k : Nat) (hn : n ≤ 150) (hk : k < n) : setBit (fullTo n k) k = fullTo n (k + 1) := by
  obtain ⟨h1, _⟩ := withL_full n k hn hk
  have ho := fullTo_ok n k hn (by omega)
  rw [(withL_add _ ho).1, addL_in (by omega)] at h1
  exact h1

set_option maxHeartbeats 4000000 in
theorem specSetNew_k (n : Int) (b : Bool) : FnOK Tryz.prog 98 ⟨0, [], [.c (.v (.int .i64 n)), .c (.v (.bool b))], .tup [.inr [.v (.int .i64 (newN n)), .sl 0 1 0 (newL n b).length], .inl (.v (.bool (newOk n)))], [(0, some (.row 5 ((newL n b).map bytK)))], 1⟩ := by
  by_cases hn : 0 ≤ n ∧ n ≤ 150
  · obtain ⟨m, rfl⟩ := Int.eq_ofNat_of_zero_le hn.1
    have hm : m ≤ 150 := by omega
    have e0 : (((m : Int) + 7) / 8).toNat = (m + 7) / 8 := by omega
    obtain ⟨e1, e2⟩ := newN_in hm
    rw [newL_in hm b, e1, e2]
    refine fnOK_of true mixed Tryz.func98 rfl (by rfl) (by rfl) ?_
    have hres := congrArg Array.toList Tryz.results98
    simp only [Tryz.ntmps98, BGB, seval]
    (have gx := @e0; refine go ?_; (repeat' first | exact Ef.mk | apply Lf.mk | refine fun (K : KT) hK hE hT => ?_ | refine fun (KS : KE) hKS => ?_ | refine fun (D : KD) hD => ?_ | refine fun (hg : (_ : Prop)) => ?_ | fail); all_goals (first | (refine Wr.mk ?_; (try clear gx); repeat first | clear hK hE hT K | clear hR hE hT K) | assumption | skip))
    refine loop_v (X := {k : Nat // k ≤ m ∧ (b = false → k = 0)}) [19, 20] (fun x => [(7, .c (.v (.int .i64 ((x.1 : Nat) : Int))))]) (fun x => [(0, some (.box 46 [.v (.int .i64 0), .nil])), (1, some (.row 5 ((fullTo m x.1).map bytK))), (2, some (.box 46 [.v (.int .i64 (m : Int)), .sl 1 1 0 ((m + 7) / 8)]))]) 3 (fun x => m - x.1) ⟨0, by omega, fun _ => rfl⟩ ?_
    simp only [KPB, seval]
    refine ⟨?_, ?_⟩
    · (refine wk_a ?_; simp only [MAB, seval]; refine ⟨rfl, rfl, (by decide), ?_, ?_⟩; all_goals (first | (simp only [WKB, seval, fullTo_map]; done) | (simp [WKB, seval, fullTo_map]; done) | simp only [WKB, seval]))
    · rintro ⟨k, hk, hkb⟩ K hR hE hT
      have hlen := fullTo_len m k
      rcases Nat.lt_or_ge k m with hlt | hge
      case inr =>
        obtain rfl : k = m := by omega
        cases b with
        | false =>
          (have gx := true_and True; refine go ?_; (repeat' first | exact Ef.mk | apply Lf.mk | refine fun (K : KT) hK hE hT => ?_ | refine fun (KS : KE) hKS => ?_ | refine fun (D : KD) hD => ?_ | refine fun (hg : (_ : Prop)) => ?_ | fail); all_goals (first | (refine Wr.mk ?_; (try clear gx); repeat first | clear hK hE hT K | clear hR hE hT K) | assumption | skip))
          have := hkb rfl
          subst this
          (refine post_a hres (.inl rfl) ?_; simp only [RSB, ENB, seval, tiAll, hlen]; simp only [MAB, seval]; refine ⟨rfl, rfl, ?_, ?_, ?_⟩ <;> (first | rfl | (simp [WKB, Nat.add_comm, hlen]; done) | (simp only [WKB, seval])))
        | true =>
          (have gx := true_and True; refine go ?_; (repeat' first | exact Ef.mk | apply Lf.mk | refine fun (K : KT) hK hE hT => ?_ | refine fun (KS : KE) hKS => ?_ | refine fun (D : KD) hD => ?_ | refine fun (hg : (_ : Prop)) => ?_ | fail); all_goals (first | (refine Wr.mk ?_; (try clear gx); repeat first | clear hK hE hT K | clear hR hE hT K) | assumption | skip))
          (refine post_a hres (.inl rfl) ?_; simp only [RSB, ENB, seval, tiAll, hlen]; simp only [MAB, seval]; refine ⟨rfl, rfl, ?_, ?_, ?_⟩ <;> (first | rfl | (simp [WKB, Nat.add_comm, hlen]; done) | (simp only [WKB, seval])))
      case inl =>
        cases b with
        | false =>
          have := hkb rfl
          subst this
          (have gx := true_and True; refine go ?_; (repeat' first | exact Ef.mk | apply Lf.mk | refine fun (K : KT) hK hE hT => ?_ | refine fun (KS : KE) hKS => ?_ | refine fun (D : KD) hD => ?_ | refine fun (hg : (_ : Prop)) => ?_ | fail); all_goals (first | (refine Wr.mk ?_; (try clear gx); repeat first | clear hK hE hT K | clear hR hE hT K) | assumption | skip))
          (refine post_a hres (.inl rfl) ?_; simp only [RSB, ENB, seval, tiAll, hlen]; simp only [MAB, seval]; refine ⟨rfl, rfl, ?_, ?_, ?_⟩ <;> (first | rfl | (simp [WKB, Nat.add_comm, hlen]; done) | (simp only [WKB, seval])))
        | true =>
          have hk8 : k / 8 < (fullTo m k).length := by rw [hlen]; omega
          have q2 : ((k : Int) / 8).toNat = k / 8 := by omega
          have e := fullTo_step m k hm hlt
          have q3 : True := trivial
          have cw := specWith_k (m : Int) (fullTo m k) (by rw [hlen]; omega) (k : Int)
          obtain ⟨e3, e4⟩ := withL_full m k hm hlt
          rw [e3, e4, hlen, fullTo_len] at cw
          (have gx := And.intro (@List.length_map.{0,0}) (And.intro (@List.getElem_map.{0,0}) (And.intro (@bytK.eq_1) (And.intro @hlen @q2))); have q1 := cw; refine go ?_; (repeat' first | exact Ef.mk | apply Lf.mk | refine fun (K : KT) hK hE hT => ?_ | refine fun (KS : KE) hKS => ?_ | refine fun (D : KD) hD => ?_ | refine fun (hg : (_ : Prop)) => ?_ | fail); all_goals (first | (refine Wr.mk ?_; (try clear gx q1); repeat first | clear hK hE hT K | clear hR hE hT K) | assumption | skip))
          (refine hR.out ⟨k + 1, by omega, fun h => (by cases h)⟩ _ _ _ (by simp only; omega) ?_; (refine wk_a ?_; simp only [MAB, seval]; refine ⟨rfl, rfl, (by decide), ?_, ?_⟩; all_goals (first | (simp only [WKB, seval, q3, e]; done) | (simp [WKB, seval, q3, e]; done) | simp only [WKB, seval])))
  · obtain ⟨e1, e2, e3⟩ := newL_out hn b
    rw [e1, e2, e3]
    refine fnOK_of true mixed Tryz.func98 rfl (by rfl) (by rfl) ?_
    have hres := congrArg Array.toList Tryz.results98
    simp only [Tryz.ntmps98, BGB, seval]
    (have gx := true_and True; refine go ?_; (repeat' first | exact Ef.mk | apply Lf.mk | refine fun (K : KT) hK hE hT => ?_ | refine fun (KS : KE) hKS => ?_ | refine fun (D : KD) hD => ?_ | refine fun (hg : (_ : Prop)) => ?_ | fail); all_goals (first | (refine Wr.mk ?_; (try clear gx); repeat first | clear hK hE hT K | clear hR hE hT K) | assumption | skip))
    all_goals (refine post_a hres (.inl rfl) ?_; simp only [RSB, ENB, seval, tiAll, true_and]; simp only [MAB, seval]; refine ⟨rfl, rfl, ?_, ?_, ?_⟩ <;> (first | rfl | (simp [WKB, Nat.add_comm, true_and]; done) | (simp only [WKB, seval])))

end Go.Proofs.YtfdhdkljpeohlaaGreatDoor

