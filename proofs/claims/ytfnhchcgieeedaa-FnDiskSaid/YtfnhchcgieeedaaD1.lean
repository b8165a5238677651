/-
  Contracts: the cursor of a draw. No conditions of its own.
-/
import Derived.Test.YtfnhchcgieeedaaGO
import Derived.Test.YtfnhchcgieeedaaS1
namespace Go.Proofs.Ytfnhchcgieeedaa
set_option linter.unusedSimpArgs false
set_option linter.unusedVariables false
set_option linter.unusedSimpArgs false
set_option linter.unusedVariables false
set_option linter.defProp false
open Go.RowKit

/-- A cursor: where it stands and what is mixed in. -/
structure Cu where
  i : Nat
  h : Int

def hN (b : List UInt8) : Nat → Int
  | 0 => IntKind.i64.wrap (774201 + (b.length : Int))
  | k + 1 => bits .and .i64 (IntKind.i64.wrap (IntKind.i64.wrap (IntKind.i64.wrap (hN b k * 157) + ((b.getD k 0).toNat : Int)) + 7)) 1073741823
def newC (b : List UInt8) : Cu := ⟨0, hN b (min b.length 4000)⟩
def byH (h : Int) : Int := IntKind.i64.wrap (IntKind.i64.wrap (h * 6364136223846793005) + 1442695040888963407)
def byX (h : Int) : Int := bits .and .i64 (bits .xor .i64 ((byH h).fdiv (2 ^ 33)) ((byH h).fdiv (2 ^ 45))) 255
def byC (b : List UInt8) (c : Cu) : Cu := ⟨if c.i < b.length then c.i + 1 else c.i, byH c.h⟩
def byV (b : List UInt8) (c : Cu) : Int := if c.i < b.length then bits .and .i64 (IntKind.i64.wrap (byX c.h + ((b.getD c.i 0).toNat : Int))) 255 else byX c.h

theorem and_rng (x : Int) : 0 ≤ bits .and .i64 x 255 ∧ bits .and .i64 x 255 ≤ 255 := by
  have h0 : bits .and .i64 x 255 = IntKind.i64.wrap ((BitVec.ofInt 64 x &&& BitVec.ofInt 64 255).toNat : Int) := rfl
  have h1 : (BitVec.ofInt 64 x &&& BitVec.ofInt 64 255).toNat ≤ 255 := by
    rw [BitVec.toNat_and]
    exact Nat.and_le_right
  rw [h0, IntWalk.i64_in _ (by omega)]
  omega
theorem byV_rng (b : List UInt8) (c : Cu) : 0 ≤ byV b c ∧ byV b c ≤ 255 := by
  unfold byV
  split
  · exact and_rng _
  · exact and_rng _

theorem wr_byte (x : UInt8) : IntKind.i64.wrap (x.toNat : Int) = (x.toNat : Int) := IntWalk.i64_in _ (by have := x.toNat_lt; omega)
theorem min33 : min 33 IntKind.i64.bits = 33 := rfl
theorem min45 : min 45 IntKind.i64.bits = 45 := rfl

set_option maxHeartbeats 2000000 in
theorem l01New_k (b : List UInt8) (hb : b.length ≤ 1048576) : FnOK Try.prog 78 ⟨1, [(0, some (.ro (b.map bytK)))], [.c (.sl 0 1 0 b.length)], .c (.ptr 1 0 0), [(1, some (.box 110 [.sl 0 1 0 b.length, .v (.int .i64 ((newC b).i : Int)), .v (.int .i64 (newC b).h)]))], 2⟩ := by
  refine fnOK_of false mixed Try.func78 rfl (by rfl) (by rfl) ?_
  have hres := congrArg Array.toList Try.results78
  simp only [Try.ntmps78, BGB, seval]
  (have gx := And.intro (@List.length_map.{0,0}) (And.intro @List.getElem_map.{0,0} @bytK.eq_1); refine go ?_; (repeat' first | exact Ef.mk | apply Lf.mk | refine fun (K : KT) hK hE hT => ?_ | refine fun (KS : KE) hKS => ?_ | refine fun (D : KD) hD => ?_ | refine fun (hg : (_ : Prop)) => ?_ | fail); all_goals (first | (refine Wr.mk ?_; (try clear gx); repeat first | clear hK hE hT K | clear hR hE hT K) | assumption | skip))
  refine loop_v (X := {k : Nat // k ≤ min b.length 4000}) [] (fun x => [(3, .c (.v (.int .i64 (hN b x.1)))), (4, .c (.v (.int .i64 ((x.1 : Nat) : Int))))]) (fun x => [(0, some (.ro (b.map bytK)))]) 1 (fun x => 4000 - x.1) ⟨0, by omega⟩ ?_
  simp only [KPB, seval]
  refine ⟨?_, ?_⟩
  · (refine wk_a ?_; simp only [MAB, seval]; refine ⟨rfl, rfl, (by decide), ?_, ?_⟩; all_goals (first | (simp only [WKB, seval, hN]; done) | (simp [WKB, seval, hN]; done) | simp only [WKB, seval]))
  · rintro ⟨k, hk⟩ K hR hE hT
    rcases Nat.lt_or_ge k (min b.length 4000) with hlt | hge
    case inr =>
      obtain rfl : k = min b.length 4000 := by omega
      (have gx := And.intro (@List.length_map.{0,0}) (And.intro @List.getElem_map.{0,0} @bytK.eq_1); refine go ?_; (repeat' first | exact Ef.mk | apply Lf.mk | refine fun (K : KT) hK hE hT => ?_ | refine fun (KS : KE) hKS => ?_ | refine fun (D : KD) hD => ?_ | refine fun (hg : (_ : Prop)) => ?_ | fail); all_goals (first | (refine Wr.mk ?_; (try clear gx); repeat first | clear hK hE hT K | clear hR hE hT K) | assumption | skip))
      all_goals (refine post_a hres (.inl rfl) ?_; simp only [RSB, ENB, seval, tiAll, newC]; simp only [MAB, seval]; refine ⟨rfl, rfl, ?_, ?_, ?_⟩ <;> (first | rfl | (simp [WKB, Nat.add_comm, newC]; done) | (simp only [WKB, seval])))
    case inl =>
      have e1 : IntKind.i64.wrap ((k : Int) + 1) = ((k + 1 : Nat) : Int) := IntWalk.i64_in _ (by omega)
      have e2 : b.getD k 0 = b[k]'(by omega) := by simp [List.getD, show k < b.length by omega]
      have e3 : hN b (k + 1) = bits .and .i64 (IntKind.i64.wrap (IntKind.i64.wrap (IntKind.i64.wrap (hN b k * 157) + ((b[k]'(by omega)).toNat : Int)) + 7)) 1073741823 := by rw [← e2]; rfl
      have e5 := wr_byte (b[k]'(by omega))
      (have gx := And.intro (@List.length_map.{0,0}) (And.intro (@List.getElem_map.{0,0}) (And.intro (@bytK.eq_1) (And.intro @e1 @e5))); refine go ?_; (repeat' first | exact Ef.mk | apply Lf.mk | refine fun (K : KT) hK hE hT => ?_ | refine fun (KS : KE) hKS => ?_ | refine fun (D : KD) hD => ?_ | refine fun (hg : (_ : Prop)) => ?_ | fail); all_goals (first | (refine Wr.mk ?_; (try clear gx); repeat first | clear hK hE hT K | clear hR hE hT K) | assumption | skip))
      (refine hR.out ⟨k + 1, by omega⟩ _ _ _ (by simp only; omega) ?_; (refine wk_a ?_; simp only [MAB, seval]; refine ⟨rfl, rfl, (by decide), ?_, ?_⟩; all_goals (first | (simp only [WKB, seval, e3]; done) | (simp [WKB, seval, e3]; done) | simp only [WKB, seval])))

set_option maxHeartbeats 2000000 in
theorem l01Byte_k (b : List UInt8) (c : Cu) (hb : b.length ≤ 1048576) (hc : c.i ≤ 1048576) : FnOK Try.prog 120 ⟨2, [(0, some (.ro (b.map bytK))), (1, some (.box 110 [.sl 0 1 0 b.length, .v (.int .i64 (c.i : Int)), .v (.int .i64 c.h)]))], [.c (.ptr 1 0 0)], .c (.v (.int .i64 (byV b c))), [(1, some (.box 110 [.sl 0 1 0 b.length, .v (.int .i64 ((byC b c).i : Int)), .v (.int .i64 (byC b c).h)]))], 2⟩ := by
  have e1 : IntKind.i64.wrap ((c.i : Int) + 1) = ((c.i + 1 : Nat) : Int) := IntWalk.i64_in _ (by omega)
  rcases Nat.lt_or_ge c.i b.length with h | h
  · have e2 : b.getD c.i 0 = b[c.i]'h := by simp [List.getD, h]
    have e3 : byC b c = ⟨c.i + 1, byH c.h⟩ := by unfold byC; rw [if_pos h]
    have e4 : byV b c = bits .and .i64 (IntKind.i64.wrap (byX c.h + (b[c.i].toNat : Int))) 255 := by unfold byV; rw [if_pos h, e2]
    rw [e3, e4]
    have e5 := wr_byte b[c.i]
    refine fnOK_of false mixed Try.func120 rfl (by rfl) (by rfl) ?_
    have hres := congrArg Array.toList Try.results120
    simp only [Try.ntmps120, BGB, seval]
    (have gx := And.intro (@List.length_map.{0,0}) (And.intro (@List.getElem_map.{0,0}) (And.intro (@bytK.eq_1) (And.intro (@e1) (And.intro (@e5) (And.intro @min33 @min45))))); refine go ?_; (repeat' first | exact Ef.mk | apply Lf.mk | refine fun (K : KT) hK hE hT => ?_ | refine fun (KS : KE) hKS => ?_ | refine fun (D : KD) hD => ?_ | refine fun (hg : (_ : Prop)) => ?_ | fail); all_goals (first | (refine Wr.mk ?_; (try clear gx); repeat first | clear hK hE hT K | clear hR hE hT K) | assumption | skip))
    all_goals (refine post_a hres (.inl rfl) ?_; simp only [RSB, ENB, seval, tiAll, byX, byH]; simp only [MAB, seval]; refine ⟨rfl, rfl, ?_, ?_, ?_⟩ <;> (first | rfl | (simp [WKB, Nat.add_comm, byX, byH]; done) | (simp only [WKB, seval])))
  · have e3 : byC b c = ⟨c.i, byH c.h⟩ := by unfold byC; rw [if_neg (by omega)]
    have e4 : byV b c = byX c.h := by unfold byV; rw [if_neg (by omega)]
    rw [e3, e4]
    refine fnOK_of false mixed Try.func120 rfl (by rfl) (by rfl) ?_
    have hres := congrArg Array.toList Try.results120
    simp only [Try.ntmps120, BGB, seval]
    (have gx := And.intro (@List.length_map.{0,0}) (And.intro (@List.getElem_map.{0,0}) (And.intro @bytK.eq_1 @e1)); refine go ?_; (repeat' first | exact Ef.mk | apply Lf.mk | refine fun (K : KT) hK hE hT => ?_ | refine fun (KS : KE) hKS => ?_ | refine fun (D : KD) hD => ?_ | refine fun (hg : (_ : Prop)) => ?_ | fail); all_goals (first | (refine Wr.mk ?_; (try clear gx); repeat first | clear hK hE hT K | clear hR hE hT K) | assumption | skip))
    all_goals (refine post_a hres (.inl rfl) ?_; simp only [RSB, ENB, seval, tiAll, byX, byH]; simp only [MAB, seval]; refine ⟨rfl, rfl, ?_, ?_, ?_⟩ <;> (first | rfl | (simp [WKB, Nat.add_comm, byX, byH]; done) | (simp only [WKB, seval])))

/-- A number below n, for a small n. -/
def bwC (b : List UInt8) (c : Cu) (n : Int) : Cu := if n ≤ 0 then c else byC b c
def bwV (b : List UInt8) (c : Cu) (n : Int) : Int := if n ≤ 0 then 0 else byV b c % n
theorem bwV_rng (b : List UInt8) (c : Cu) {n : Int} (h : 0 < n) : 0 ≤ bwV b c n ∧ bwV b c n < n := by
  unfold bwV
  rw [if_neg (by omega)]
  exact ⟨Int.emod_nonneg _ (by omega), Int.emod_lt_of_pos _ h⟩
theorem byC_le {b : List UInt8} {c : Cu} (hb : b.length ≤ 1048576) (h : c.i ≤ 1048576) : (byC b c).i ≤ 1048576 := by
  unfold byC
  dsimp only
  split <;> omega
theorem bwC_le {b : List UInt8} {c : Cu} (hb : b.length ≤ 1048576) (h : c.i ≤ 1048576) (n : Int) : (bwC b c n).i ≤ 1048576 := by
  unfold bwC
  split
  · exact h
  · exact byC_le hb h
theorem newC_le (b : List UInt8) : (newC b).i ≤ 1048576 := Nat.zero_le _

theorem l01Below_k (b : List UInt8) (c : Cu) (n : Int) (hb : b.length ≤ 1048576) (hc : c.i ≤ 1048576) (hn : n ≤ 256) : FnOK Try.prog 80 ⟨2, [(0, some (.ro (b.map bytK))), (1, some (.box 110 [.sl 0 1 0 b.length, .v (.int .i64 (c.i : Int)), .v (.int .i64 c.h)]))], [.c (.ptr 1 0 0), .c (.v (.int .i64 n))], .c (.v (.int .i64 (bwV b c n))), [(1, some (.box 110 [.sl 0 1 0 b.length, .v (.int .i64 ((bwC b c n).i : Int)), .v (.int .i64 (bwC b c n).h)]))], 2⟩ := by
  have cb := l01Byte_k b c hb hc
  have hr := byV_rng b c
  rcases Int.lt_or_le 0 n with h | h
  · have e1 : bwC b c n = byC b c := by unfold bwC; rw [if_neg (by omega)]
    have e2 : bwV b c n = byV b c % n := by unfold bwV; rw [if_neg (by omega)]
    rw [e1, e2]
    refine fnOK_of true mixed Try.func80 rfl (by rfl) (by rfl) ?_
    have hres := congrArg Array.toList Try.results80
    simp only [Try.ntmps80, BGB, seval]
    (have gx := And.intro (@List.length_map.{0,0}) (And.intro @List.getElem_map.{0,0} @bytK.eq_1); have q1 := cb; refine go ?_; (repeat' first | exact Ef.mk | apply Lf.mk | refine fun (K : KT) hK hE hT => ?_ | refine fun (KS : KE) hKS => ?_ | refine fun (D : KD) hD => ?_ | refine fun (hg : (_ : Prop)) => ?_ | fail); all_goals (first | (refine Wr.mk ?_; (try clear gx q1); repeat first | clear hK hE hT K | clear hR hE hT K) | assumption | skip))
    all_goals (refine post_a hres (.inl rfl) ?_; simp only [RSB, ENB, seval, tiAll, true_and]; simp only [MAB, seval]; refine ⟨rfl, rfl, ?_, ?_, ?_⟩ <;> (first | rfl | (simp [WKB, Nat.add_comm, true_and]; done) | (simp only [WKB, seval])))
  · have e1 : bwC b c n = c := by unfold bwC; rw [if_pos h]
    have e2 : bwV b c n = 0 := by unfold bwV; rw [if_pos h]
    rw [e1, e2]
    refine fnOK_of true mixed Try.func80 rfl (by rfl) (by rfl) ?_
    have hres := congrArg Array.toList Try.results80
    simp only [Try.ntmps80, BGB, seval]
    (have gx := And.intro (@List.length_map.{0,0}) (And.intro @List.getElem_map.{0,0} @bytK.eq_1); have q1 := cb; refine go ?_; (repeat' first | exact Ef.mk | apply Lf.mk | refine fun (K : KT) hK hE hT => ?_ | refine fun (KS : KE) hKS => ?_ | refine fun (D : KD) hD => ?_ | refine fun (hg : (_ : Prop)) => ?_ | fail); all_goals (first | (refine Wr.mk ?_; (try clear gx q1); repeat first | clear hK hE hT K | clear hR hE hT K) | assumption | skip))
    all_goals (refine post_a hres (.inl rfl) ?_; simp only [RSB, ENB, seval, tiAll, true_and]; simp only [MAB, seval]; refine ⟨rfl, rfl, ?_, ?_, ?_⟩ <;> (first | rfl | (simp [WKB, Nat.add_comm, true_and]; done) | (simp only [WKB, seval])))

end Go.Proofs.Ytfnhchcgieeedaa
