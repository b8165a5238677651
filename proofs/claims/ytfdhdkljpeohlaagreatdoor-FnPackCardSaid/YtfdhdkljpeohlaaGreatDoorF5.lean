/-
  Contracts: frames read. No conditions of its own.
-/
import Derived.Test.YtfdhdkljpeohlaaGreatDoorGO
import Derived.Test.YtfdhdkljpeohlaaGreatDoorZz5
import Derived.Test.YtfdhdkljpeohlaaGreatDoorMKA
import Derived.Test.YtfdhdkljpeohlaaGreatDoorZz1
namespace Go.Proofs.YtfdhdkljpeohlaaGreatDoor
set_option linter.unusedSimpArgs false
set_option linter.unusedVariables false
set_option linter.unusedSimpArgs false
set_option linter.unusedVariables false
set_option linter.defProp false
open Go.RowKit

def fkN (b : List UInt8) : Nat := (b.getD 1 0).toNat
def fnN (b : List UInt8) : Nat := gf b 2 6
def fdL (b : List UInt8) : List UInt8 := (b.drop 20).take (fnN b)
def fOk3 (b : List UInt8) : Prop := (b.getD 0 0).toNat = 71 ∧ (1 ≤ fkN b ∧ fkN b ≤ 3) ∧ fnN b ≤ 60000 ∧ gf b 8 6 = crcN (b.take 8)
instance (b : List UInt8) : Decidable (fOk3 b) := by unfold fOk3; exact inferInstance
/-- The code that a reader of a frame at the start of bytes answers. -/
def frC (b : List UInt8) : Int := if b.length < 14 then 2 else if ¬ fOk3 b then 3 else if b.length < 20 + fnN b then 4 else if gf b 14 6 ≠ crcN (fdL b) then 5 else 0
def frK (b : List UInt8) : Int := if frC b = 0 then fkN b else 0
def frP (b : List UInt8) : Int := if frC b = 0 then ((20 + fnN b : Nat) : Int) else 0
def frD (b : List UInt8) : List UInt8 := if frC b = 0 then fdL b else []

theorem fr_none {b : List UInt8} {c : Int} (h : frC b = c) (hc : c ≠ 0) : frK b = 0 ∧ frP b = 0 ∧ frD b = [] ∧ frC b = c := by
  unfold frK frP frD
  rw [h, if_neg hc, if_neg hc, if_neg hc]
  exact ⟨rfl, rfl, rfl, rfl⟩
theorem fr_some {b : List UInt8} (h : frC b = 0) : frK b = fkN b ∧ frP b = ((20 + fnN b : Nat) : Int) ∧ frD b = fdL b := by
  unfold frK frP frD
  rw [if_pos h, if_pos h, if_pos h]
  exact ⟨rfl, rfl, rfl⟩
theorem fr_c0 {b : List UInt8} (h : frC b = 0) : 14 ≤ b.length ∧ fOk3 b ∧ 20 + fnN b ≤ b.length ∧ gf b 14 6 = crcN (fdL b) := by
  unfold frC at h
  split at h
  · cases h
  · split at h
    · cases h
    · split at h
      · cases h
      · split at h
        · cases h
        · rename_i h1 h2 h3 h4
          exact ⟨by omega, Decidable.not_not.1 h2, by omega, Decidable.not_not.1 h4⟩

set_option maxHeartbeats 8000000 in
theorem implFrameRead_k (b : List UInt8) (hb : b.length ≤ 1048576) : FnOK Tryz.prog 66 ⟨1, [(0, some (.ro (b.map bytK)))], [.c (.sl 0 1 0 b.length), .c (.v (.int .i64 0))],
    .tup [.inr [.v (.int .i64 (frK b)), .sl 1 1 0 (frD b).length], .inl (.v (.int .i64 (frP b))), .inl (.v (.int .i64 (frC b)))], [(1, some (.row 5 ((frD b).map bytK)))], 2⟩ := by
  by_cases h14 : b.length < 14
  · have e : frC b = 2 := by unfold frC; rw [if_pos h14]
    obtain ⟨e1, e2, e3, e4⟩ := fr_none e (by decide)
    rw [e1, e2, e3, e4]
    refine fnOK_of true mixed Tryz.func66 rfl (by rfl) (by rfl) ?_
    have hres := congrArg Array.toList Tryz.results66
    simp only [Tryz.ntmps66, BGB, seval]
    (have gx := And.intro (@List.length_map.{0,0}) (And.intro (@List.getElem_map.{0,0}) (And.intro (@bytK.eq_1) (And.intro @lit0 @litI))); refine go ?_; (repeat' first | exact Ef.mk | apply Lf.mk | refine fun (K : KT) hK hE hT => ?_ | refine fun (KS : KE) hKS => ?_ | refine fun (D : KD) hD => ?_ | refine fun (hg : (_ : Prop)) => ?_ | fail); all_goals (first | (refine Wr.mk ?_; (try clear gx); repeat first | clear hK hE hT K | clear hR hE hT K) | assumption | skip))
    (refine post_a hres (.inl rfl) ?_; simp only [RSB, ENB, seval, tiAll, true_and]; simp only [MAB, seval]; refine ⟨rfl, rfl, ?_, ?_, ?_⟩ <;> (first | rfl | (simp [WKB, Nat.add_comm, true_and]; done) | (simp only [WKB, seval])))
  · have c1 := implGetFix_k b 2 (by omega) (by omega) (by omega)
    have c2 := implGetFix_k b 8 (by omega) (by omega) (by omega)
    have c3 := implCrc_k (b.take 8) (by rw [List.length_take]; omega)
    rw [show (b.take 8).length = 8 by rw [List.length_take]; omega] at c3
    have g0 : (b[0]'(by omega)).toNat = (b.getD 0 0).toNat := by rw [List.getD_eq_getElem?_getD, List.getElem?_eq_getElem (by omega), Option.getD_some]
    have g1 : (b[1]'(by omega)).toNat = fkN b := by unfold fkN; rw [List.getD_eq_getElem?_getD, List.getElem?_eq_getElem (by omega), Option.getD_some]
    have hk : fkN b < 256 := (b.getD 1 0).toNat_lt
    have ck := isFrameKind_k (fkN b : Int)
    have hfn : fnN b = gf b 2 6 := rfl
    by_cases h3 : fOk3 b
    case neg =>
      have e : frC b = 3 := by unfold frC; rw [if_neg h14, if_pos h3]
      obtain ⟨e1, e2, e3, e4⟩ := fr_none e (by decide)
      rw [e1, e2, e3, e4]
      refine fnOK_of true mixed Tryz.func66 rfl (by rfl) (by rfl) ?_
      have hres := congrArg Array.toList Tryz.results66
      simp only [Tryz.ntmps66, BGB, seval]
      (have gx := And.intro (@List.length_map.{0,0}) (And.intro (@List.getElem_map.{0,0}) (And.intro (@bytK.eq_1) (And.intro (@lit0) (And.intro (@litI) (And.intro (@g0) (And.intro @g1 @map_take)))))); have q1 := c1; have q2 := c2; have q3 := c3; have q4 := ck; refine go ?_; (repeat' first | exact Ef.mk | apply Lf.mk | refine fun (K : KT) hK hE hT => ?_ | refine fun (KS : KE) hKS => ?_ | refine fun (D : KD) hD => ?_ | refine fun (hg : (_ : Prop)) => ?_ | fail); all_goals (first | (refine Wr.mk ?_; (try clear gx q1 q2 q3 q4); repeat first | clear hK hE hT K | clear hR hE hT K) | assumption | skip))
      all_goals first | exact (h3 ⟨by omega, by omega, by omega, by omega⟩).elim | (refine post_a hres (.inl rfl) ?_; simp only [RSB, ENB, seval, tiAll, true_and]; simp only [MAB, seval]; refine ⟨rfl, rfl, ?_, ?_, ?_⟩ <;> (first | rfl | (simp [WKB, Nat.add_comm, true_and]; done) | (simp only [WKB, seval])))
    case pos =>
      skip
      have h3' := h3
      obtain ⟨a1, a2, a3, a4⟩ := h3'
      have a2' : decide (1 ≤ (fkN b : Int) ∧ (fkN b : Int) ≤ 3) = true := by rw [decide_eq_true_eq]; omega
      rw [a2'] at ck
      by_cases h4 : b.length < 20 + fnN b
      · have e : frC b = 4 := by unfold frC; rw [if_neg h14, if_neg (not_not_intro h3), if_pos h4]
        obtain ⟨e1, e2, e3, e4⟩ := fr_none e (by decide)
        rw [e1, e2, e3, e4]
        refine fnOK_of true mixed Tryz.func66 rfl (by rfl) (by rfl) ?_
        have hres := congrArg Array.toList Tryz.results66
        simp only [Tryz.ntmps66, BGB, seval]
        (have gx := And.intro (@List.length_map.{0,0}) (And.intro (@List.getElem_map.{0,0}) (And.intro (@bytK.eq_1) (And.intro (@lit0) (And.intro (@litI) (And.intro (@g0) (And.intro @g1 @map_take)))))); have q1 := c1; have q2 := c2; have q3 := c3; have q4 := ck; refine go ?_; (repeat' first | exact Ef.mk | apply Lf.mk | refine fun (K : KT) hK hE hT => ?_ | refine fun (KS : KE) hKS => ?_ | refine fun (D : KD) hD => ?_ | refine fun (hg : (_ : Prop)) => ?_ | fail); all_goals (first | (refine Wr.mk ?_; (try clear gx q1 q2 q3 q4); repeat first | clear hK hE hT K | clear hR hE hT K) | assumption | skip))
        all_goals (refine post_a hres (.inl rfl) ?_; simp only [RSB, ENB, seval, tiAll, true_and]; simp only [MAB, seval]; refine ⟨rfl, rfl, ?_, ?_, ?_⟩ <;> (first | rfl | (simp [WKB, Nat.add_comm, true_and]; done) | (simp only [WKB, seval])))
      · have c4 := implGetFix_k b 14 (by omega) (by omega) (by omega)
        have c5 := implCrc_k (fdL b) (by unfold fdL; rw [List.length_take, List.length_drop]; omega)
        have hl : (fdL b).length = fnN b := by unfold fdL; rw [List.length_take, List.length_drop]; omega
        have c6 := copyBytes_k (fdL b) (by omega)
        rw [hl] at c5 c6
        have hd : (fdL b).map bytK = ((b.map bytK).drop 20).take (fnN b) := by unfold fdL; rw [List.map_take, List.map_drop]
        obtain ⟨m, hm⟩ : ∃ m, m = fnN b := ⟨_, rfl⟩
        have hm2 : gf b 2 6 = m := hm.symm
        have n20 : (20 : Int) + (m : Int) = ((20 + m : Nat) : Int) := by omega
        have s20 : 20 + m - 20 = m := by omega
        rw [← hm] at hl hd c5 c6 h4 a3
        by_cases h5 : gf b 14 6 = crcN (fdL b)
        case neg =>
          have e : frC b = 5 := by unfold frC; rw [if_neg h14, if_neg (not_not_intro h3), if_neg (by rw [← hm]; exact h4), if_pos h5]
          obtain ⟨e1, e2, e3, e4⟩ := fr_none e (by decide)
          rw [e1, e2, e3, e4]
          refine fnOK_of true mixed Tryz.func66 rfl (by rfl) (by rfl) ?_
          have hres := congrArg Array.toList Tryz.results66
          simp only [Tryz.ntmps66, BGB, seval]
          (have gx := And.intro (@List.length_map.{0,0}) (And.intro (@List.getElem_map.{0,0}) (And.intro (@bytK.eq_1) (And.intro (@lit0) (And.intro (@litI) (And.intro (@litN) (And.intro (@n20) (And.intro (@s20) (And.intro (@hm2) (And.intro (@hd) (And.intro (@g0) (And.intro @g1 @map_take))))))))))); have q1 := c1; have q2 := c2; have q3 := c3; have q4 := ck; have q5 := c4; have q6 := c5; refine go ?_; (repeat' first | exact Ef.mk | apply Lf.mk | refine fun (K : KT) hK hE hT => ?_ | refine fun (KS : KE) hKS => ?_ | refine fun (D : KD) hD => ?_ | refine fun (hg : (_ : Prop)) => ?_ | fail); all_goals (first | (refine Wr.mk ?_; (try clear gx q1 q2 q3 q4 q5 q6); repeat first | clear hK hE hT K | clear hR hE hT K) | assumption | skip))
          all_goals (refine post_a hres (.inl rfl) ?_; simp only [RSB, ENB, seval, tiAll, true_and]; simp only [MAB, seval]; refine ⟨rfl, rfl, ?_, ?_, ?_⟩ <;> (first | rfl | (simp [WKB, Nat.add_comm, true_and]; done) | (simp only [WKB, seval])))
        case pos =>
          have e : frC b = 0 := by unfold frC; rw [if_neg h14, if_neg (not_not_intro h3), if_neg (by rw [← hm]; exact h4), if_neg (not_not_intro h5)]
          obtain ⟨e1, e2, e3⟩ := fr_some e
          rw [e1, e2, e3, e, ← hm]
          refine fnOK_of true mixed Tryz.func66 rfl (by rfl) (by rfl) ?_
          have hres := congrArg Array.toList Tryz.results66
          simp only [Tryz.ntmps66, BGB, seval]
          (have gx := And.intro (@List.length_map.{0,0}) (And.intro (@List.getElem_map.{0,0}) (And.intro (@bytK.eq_1) (And.intro (@lit0) (And.intro (@litI) (And.intro (@litN) (And.intro (@n20) (And.intro (@s20) (And.intro (@hm2) (And.intro (@hd) (And.intro (@g0) (And.intro @g1 @map_take))))))))))); have q1 := c1; have q2 := c2; have q3 := c3; have q4 := ck; have q5 := c4; have q6 := c5; have q7 := c6; refine go ?_; (repeat' first | exact Ef.mk | apply Lf.mk | refine fun (K : KT) hK hE hT => ?_ | refine fun (KS : KE) hKS => ?_ | refine fun (D : KD) hD => ?_ | refine fun (hg : (_ : Prop)) => ?_ | fail); all_goals (first | (refine Wr.mk ?_; (try clear gx q1 q2 q3 q4 q5 q6 q7); repeat first | clear hK hE hT K | clear hR hE hT K) | assumption | skip))
          all_goals (refine post_a hres (.inl rfl) ?_; simp only [RSB, ENB, seval, tiAll, n20, hl, hd]; simp only [MAB, seval]; refine ⟨rfl, rfl, ?_, ?_, ?_⟩ <;> (first | rfl | (simp [WKB, Nat.add_comm, n20, hl, hd]; done) | (simp only [WKB, seval])))

end Go.Proofs.YtfdhdkljpeohlaaGreatDoor

