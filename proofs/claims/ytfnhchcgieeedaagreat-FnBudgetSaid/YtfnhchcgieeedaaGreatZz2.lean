/-
  Texts D1 MDQ MG H1 MGD MGE MH H6 MSB ST2 in one. No conditions of its own.
-/
import Derived.Test.YtfnhchcgieeedaaGreatGO
import Derived.Test.YtfnhchcgieeedaaGreatZz1
import Derived.Laws.StructEq
import Derived.Test.YtfnhchcgieeedaaGreatMSA
import Derived.Test.YtfnhchcgieeedaaGreatSy
import Derived.Deep.QuietTactic
import Derived.Sort.Lot0
namespace Go.Proofs.YtfnhchcgieeedaaGreat
set_option linter.unusedSimpArgs false
set_option linter.unusedVariables false
set_option linter.unusedSimpArgs false
set_option linter.unusedVariables false
set_option linter.defProp false
open Go.RowKit

/-- A cursor: where it stands and what is mixed in. -/
structure Cu where
  i : Nat
  h : Int

def hN (b : List UInt8) : Nat → Int
  | 0 => IntKind.i64.wrap (774201 + (b.length : Int))
  | k + 1 => bits .and .i64 (IntKind.i64.wrap (IntKind.i64.wrap (IntKind.i64.wrap (hN b k * 157) + ((b.getD k 0).toNat : Int)) + 7)) 1073741823
def newC (b : List UInt8) : Cu := ⟨0, hN b (min b.length 4000)⟩
def byH (h : Int) : Int := IntKind.i64.wrap (IntKind.i64.wrap (h * 6364136223846793005) + 1442695040888963407)
def byX (h : Int) : Int := bits .and .i64 (bits .xor .i64 ((byH h).fdiv (2 ^ 33)) ((byH h).fdiv (2 ^ 45))) 255
def byC (b : List UInt8) (c : Cu) : Cu := ⟨if c.i < b.length then c.i + 1 else c.i, byH c.h⟩
def byV (b : List UInt8) (c : Cu) : Int := if c.i < b.length then bits .and .i64 (IntKind.i64.wrap (byX c.h + ((b.getD c.i 0).toNat : Int))) 255 else byX c.h

theorem and_rng (x : Int) : 0 ≤ bits .and .i64 x 255 ∧ bits .and .i64 x 255 ≤ 255 := by
  have h0 : bits .and .i64 x 255 = IntKind.i64.wrap ((BitVec.ofInt 64 x &&& BitVec.ofInt 64 255).toNat : Int) := rfl
  have h1 : (BitVec.ofInt 64 x &&& BitVec.ofInt 64 255).toNat ≤ 255 := by
    rw [BitVec.toNat_and]
    exact Nat.and_le_right
  rw [h0, IntWalk.i64_in _ (by omega)]
  omega
theorem byV_rng (b : List UInt8) (c : Cu) : 0 ≤ byV b c ∧ byV b c ≤ 255 := by
  unfold byV
  split
  · exact and_rng _
  · exact and_rng _

theorem wr_byte (x : UInt8) : IntKind.i64.wrap (x.toNat : Int) = (x.toNat : Int) := IntWalk.i64_in _ (by have := x.toNat_lt; omega)
theorem min33 : min 33 IntKind.i64.bits = 33 := rfl
theorem min45 : min 45 IntKind.i64.bits = 45 := rfl

set_option maxHeartbeats 2000000 in
theorem l01New_k (b : List UInt8) (hb : b.length ≤ 1048576) : FnOK Tryz.prog 14 ⟨1, [(0, some (.ro (b.map bytK)))], [.c (.sl 0 1 0 b.length)], .c (.ptr 1 0 0), [(1, some (.box 56 [.sl 0 1 0 b.length, .v (.int .i64 ((newC b).i : Int)), .v (.int .i64 (newC b).h)]))], 2⟩ := by
  refine fnOK_of false mixed Tryz.func14 rfl (by rfl) (by rfl) ?_
  have hres := congrArg Array.toList Tryz.results14
  simp only [Tryz.ntmps14, BGB, seval]
  (have gx := And.intro (@List.length_map.{0,0}) (And.intro @List.getElem_map.{0,0} @bytK.eq_1); refine go ?_; (repeat' first | exact Ef.mk | apply Lf.mk | refine fun (K : KT) hK hE hT => ?_ | refine fun (KS : KE) hKS => ?_ | refine fun (D : KD) hD => ?_ | refine fun (hg : (_ : Prop)) => ?_ | fail); all_goals (first | (refine Wr.mk ?_; (try clear gx); repeat first | clear hK hE hT K | clear hR hE hT K) | assumption | skip))
  refine loop_v (X := {k : Nat // k ≤ min b.length 4000}) [] (fun x => [(3, .c (.v (.int .i64 (hN b x.1)))), (4, .c (.v (.int .i64 ((x.1 : Nat) : Int))))]) (fun x => [(0, some (.ro (b.map bytK)))]) 1 (fun x => 4000 - x.1) ⟨0, by omega⟩ ?_
  simp only [KPB, seval]
  refine ⟨?_, ?_⟩
  · (refine wk_a ?_; simp only [MAB, seval]; refine ⟨rfl, rfl, (by decide), ?_, ?_⟩; all_goals (first | (simp only [WKB, seval, hN]; done) | (simp [WKB, seval, hN]; done) | simp only [WKB, seval]))
  · rintro ⟨k, hk⟩ K hR hE hT
    rcases Nat.lt_or_ge k (min b.length 4000) with hlt | hge
    case inr =>
      obtain rfl : k = min b.length 4000 := by omega
      (have gx := And.intro (@List.length_map.{0,0}) (And.intro @List.getElem_map.{0,0} @bytK.eq_1); refine go ?_; (repeat' first | exact Ef.mk | apply Lf.mk | refine fun (K : KT) hK hE hT => ?_ | refine fun (KS : KE) hKS => ?_ | refine fun (D : KD) hD => ?_ | refine fun (hg : (_ : Prop)) => ?_ | fail); all_goals (first | (refine Wr.mk ?_; (try clear gx); repeat first | clear hK hE hT K | clear hR hE hT K) | assumption | skip))
      all_goals (refine post_a hres (.inl rfl) ?_; simp only [RSB, ENB, seval, tiAll, newC]; simp only [MAB, seval]; refine ⟨rfl, rfl, ?_, ?_, ?_⟩ <;> (first | rfl | (simp [WKB, Nat.add_comm, newC]; done) | (simp only [WKB, seval])))
    case inl =>
      have e1 : IntKind.i64.wrap ((k : Int) + 1) = ((k + 1 : Nat) : Int) := IntWalk.i64_in _ (by omega)
      have e2 : b.getD k 0 = b[k]'(by omega) := by simp [List.getD, show k < b.length by omega]
      have e3 : hN b (k + 1) = bits .and .i64 (IntKind.i64.wrap (IntKind.i64.wrap (IntKind.i64.wrap (hN b k * 157) + ((b[k]'(by omega)).toNat : Int)) + 7)) 1073741823 := by rw [← e2]; rfl
      have e5 := wr_byte (b[k]'(by omega))
      (have gx := And.intro (@List.length_map.{0,0}) (And.intro (@List.getElem_map.{0,0}) (And.intro (@bytK.eq_1) (And.intro @e1 @e5))); refine go ?_; (repeat' first | exact Ef.mk | apply Lf.mk | refine fun (K : KT) hK hE hT => ?_ | refine fun (KS : KE) hKS => ?_ | refine fun (D : KD) hD => ?_ | refine fun (hg : (_ : Prop)) => ?_ | fail); all_goals (first | (refine Wr.mk ?_; (try clear gx); repeat first | clear hK hE hT K | clear hR hE hT K) | assumption | skip))
      (refine hR.out ⟨k + 1, by omega⟩ _ _ _ (by simp only; omega) ?_; (refine wk_a ?_; simp only [MAB, seval]; refine ⟨rfl, rfl, (by decide), ?_, ?_⟩; all_goals (first | (simp only [WKB, seval, e3]; done) | (simp [WKB, seval, e3]; done) | simp only [WKB, seval])))

set_option maxHeartbeats 2000000 in
theorem l01Byte_k (b : List UInt8) (c : Cu) (hb : b.length ≤ 1048576) (hc : c.i ≤ 1048576) : FnOK Tryz.prog 47 ⟨2, [(0, some (.ro (b.map bytK))), (1, some (.box 56 [.sl 0 1 0 b.length, .v (.int .i64 (c.i : Int)), .v (.int .i64 c.h)]))], [.c (.ptr 1 0 0)], .c (.v (.int .i64 (byV b c))), [(1, some (.box 56 [.sl 0 1 0 b.length, .v (.int .i64 ((byC b c).i : Int)), .v (.int .i64 (byC b c).h)]))], 2⟩ := by
  have e1 : IntKind.i64.wrap ((c.i : Int) + 1) = ((c.i + 1 : Nat) : Int) := IntWalk.i64_in _ (by omega)
  rcases Nat.lt_or_ge c.i b.length with h | h
  · have e2 : b.getD c.i 0 = b[c.i]'h := by simp [List.getD, h]
    have e3 : byC b c = ⟨c.i + 1, byH c.h⟩ := by unfold byC; rw [if_pos h]
    have e4 : byV b c = bits .and .i64 (IntKind.i64.wrap (byX c.h + (b[c.i].toNat : Int))) 255 := by unfold byV; rw [if_pos h, e2]
    rw [e3, e4]
    have e5 := wr_byte b[c.i]
    refine fnOK_of false mixed Tryz.func47 rfl (by rfl) (by rfl) ?_
    have hres := congrArg Array.toList Tryz.results47
    simp only [Tryz.ntmps47, BGB, seval]
    (have gx := And.intro (@List.length_map.{0,0}) (And.intro (@List.getElem_map.{0,0}) (And.intro (@bytK.eq_1) (And.intro (@e1) (And.intro (@e5) (And.intro @min33 @min45))))); refine go ?_; (repeat' first | exact Ef.mk | apply Lf.mk | refine fun (K : KT) hK hE hT => ?_ | refine fun (KS : KE) hKS => ?_ | refine fun (D : KD) hD => ?_ | refine fun (hg : (_ : Prop)) => ?_ | fail); all_goals (first | (refine Wr.mk ?_; (try clear gx); repeat first | clear hK hE hT K | clear hR hE hT K) | assumption | skip))
    all_goals (refine post_a hres (.inl rfl) ?_; simp only [RSB, ENB, seval, tiAll, byX, byH]; simp only [MAB, seval]; refine ⟨rfl, rfl, ?_, ?_, ?_⟩ <;> (first | rfl | (simp [WKB, Nat.add_comm, byX, byH]; done) | (simp only [WKB, seval])))
  · have e3 : byC b c = ⟨c.i, byH c.h⟩ := by unfold byC; rw [if_neg (by omega)]
    have e4 : byV b c = byX c.h := by unfold byV; rw [if_neg (by omega)]
    rw [e3, e4]
    refine fnOK_of false mixed Tryz.func47 rfl (by rfl) (by rfl) ?_
    have hres := congrArg Array.toList Tryz.results47
    simp only [Tryz.ntmps47, BGB, seval]
    (have gx := And.intro (@List.length_map.{0,0}) (And.intro (@List.getElem_map.{0,0}) (And.intro @bytK.eq_1 @e1)); refine go ?_; (repeat' first | exact Ef.mk | apply Lf.mk | refine fun (K : KT) hK hE hT => ?_ | refine fun (KS : KE) hKS => ?_ | refine fun (D : KD) hD => ?_ | refine fun (hg : (_ : Prop)) => ?_ | fail); all_goals (first | (refine Wr.mk ?_; (try clear gx); repeat first | clear hK hE hT K | clear hR hE hT K) | assumption | skip))
    all_goals (refine post_a hres (.inl rfl) ?_; simp only [RSB, ENB, seval, tiAll, byX, byH]; simp only [MAB, seval]; refine ⟨rfl, rfl, ?_, ?_, ?_⟩ <;> (first | rfl | (simp [WKB, Nat.add_comm, byX, byH]; done) | (simp only [WKB, seval])))

/-- A number below n, for a small n. -/
def bwC (b : List UInt8) (c : Cu) (n : Int) : Cu := if n ≤ 0 then c else byC b c
def bwV (b : List UInt8) (c : Cu) (n : Int) : Int := if n ≤ 0 then 0 else byV b c % n
theorem bwV_rng (b : List UInt8) (c : Cu) {n : Int} (h : 0 < n) : 0 ≤ bwV b c n ∧ bwV b c n < n := by
  unfold bwV
  rw [if_neg (by omega)]
  exact ⟨Int.emod_nonneg _ (by omega), Int.emod_lt_of_pos _ h⟩
theorem byC_le {b : List UInt8} {c : Cu} (hb : b.length ≤ 1048576) (h : c.i ≤ 1048576) : (byC b c).i ≤ 1048576 := by
  unfold byC
  dsimp only
  split <;> omega
theorem bwC_le {b : List UInt8} {c : Cu} (hb : b.length ≤ 1048576) (h : c.i ≤ 1048576) (n : Int) : (bwC b c n).i ≤ 1048576 := by
  unfold bwC
  split
  · exact h
  · exact byC_le hb h
theorem newC_le (b : List UInt8) : (newC b).i ≤ 1048576 := Nat.zero_le _

theorem l01Below_k (b : List UInt8) (c : Cu) (n : Int) (hb : b.length ≤ 1048576) (hc : c.i ≤ 1048576) (hn : n ≤ 256) : FnOK Tryz.prog 25 ⟨2, [(0, some (.ro (b.map bytK))), (1, some (.box 56 [.sl 0 1 0 b.length, .v (.int .i64 (c.i : Int)), .v (.int .i64 c.h)]))], [.c (.ptr 1 0 0), .c (.v (.int .i64 n))], .c (.v (.int .i64 (bwV b c n))), [(1, some (.box 56 [.sl 0 1 0 b.length, .v (.int .i64 ((bwC b c n).i : Int)), .v (.int .i64 (bwC b c n).h)]))], 2⟩ := by
  have cb := l01Byte_k b c hb hc
  have hr := byV_rng b c
  rcases Int.lt_or_le 0 n with h | h
  · have e1 : bwC b c n = byC b c := by unfold bwC; rw [if_neg (by omega)]
    have e2 : bwV b c n = byV b c % n := by unfold bwV; rw [if_neg (by omega)]
    rw [e1, e2]
    refine fnOK_of true mixed Tryz.func25 rfl (by rfl) (by rfl) ?_
    have hres := congrArg Array.toList Tryz.results25
    simp only [Tryz.ntmps25, BGB, seval]
    (have gx := And.intro (@List.length_map.{0,0}) (And.intro @List.getElem_map.{0,0} @bytK.eq_1); have q1 := cb; refine go ?_; (repeat' first | exact Ef.mk | apply Lf.mk | refine fun (K : KT) hK hE hT => ?_ | refine fun (KS : KE) hKS => ?_ | refine fun (D : KD) hD => ?_ | refine fun (hg : (_ : Prop)) => ?_ | fail); all_goals (first | (refine Wr.mk ?_; (try clear gx q1); repeat first | clear hK hE hT K | clear hR hE hT K) | assumption | skip))
    all_goals (refine post_a hres (.inl rfl) ?_; simp only [RSB, ENB, seval, tiAll, true_and]; simp only [MAB, seval]; refine ⟨rfl, rfl, ?_, ?_, ?_⟩ <;> (first | rfl | (simp [WKB, Nat.add_comm, true_and]; done) | (simp only [WKB, seval])))
  · have e1 : bwC b c n = c := by unfold bwC; rw [if_pos h]
    have e2 : bwV b c n = 0 := by unfold bwV; rw [if_pos h]
    rw [e1, e2]
    refine fnOK_of true mixed Tryz.func25 rfl (by rfl) (by rfl) ?_
    have hres := congrArg Array.toList Tryz.results25
    simp only [Tryz.ntmps25, BGB, seval]
    (have gx := And.intro (@List.length_map.{0,0}) (And.intro @List.getElem_map.{0,0} @bytK.eq_1); have q1 := cb; refine go ?_; (repeat' first | exact Ef.mk | apply Lf.mk | refine fun (K : KT) hK hE hT => ?_ | refine fun (KS : KE) hKS => ?_ | refine fun (D : KD) hD => ?_ | refine fun (hg : (_ : Prop)) => ?_ | fail); all_goals (first | (refine Wr.mk ?_; (try clear gx q1); repeat first | clear hK hE hT K | clear hR hE hT K) | assumption | skip))
    all_goals (refine post_a hres (.inl rfl) ?_; simp only [RSB, ENB, seval, tiAll, true_and]; simp only [MAB, seval]; refine ⟨rfl, rfl, ?_, ?_, ?_⟩ <;> (first | rfl | (simp [WKB, Nat.add_comm, true_and]; done) | (simp only [WKB, seval])))

end Go.Proofs.YtfnhchcgieeedaaGreat


namespace Go.Proofs.YtfnhchcgieeedaaGreat
set_option linter.unusedSimpArgs false
set_option linter.unusedVariables false
set_option linter.unusedSimpArgs false
set_option linter.unusedVariables false
set_option linter.defProp false
open Go.RowKit

theorem eq_job : eqTwo Tryz.prog 28 := by
  refine ⟨by kernel_rfl, fun a b c d w => ?_⟩
  have u3 := Tryz.underlying3
  have hS : Tryz.prog.underlying 28 = some (.struct (Tryz.prog.fieldsOf 28)) := by kernel_rfl
  have hp : Tryz.prog.stoodInHeld 28 = false := by kernel_rfl
  rw [show (10000 : Nat) = 9999 + 1 from rfl, run_equalIn_agg w 9999 28 _ _ hS hp]
  simp only [Program.fieldsOf, Tryz.underlying28]
  go_simp
  by_cases h1 : a = c <;> by_cases h2 : b = d <;> simp [h1, h2]

end Go.Proofs.YtfnhchcgieeedaaGreat

namespace Go.Proofs.YtfnhchcgieeedaaGreat
set_option linter.unusedSimpArgs false
set_option linter.unusedVariables false
set_option linter.defProp false
open Go.RowKit

set_option maxHeartbeats 2000000 in
theorem sameInts_k (l : List Int) (hl : l.length ≤ 1048576) : FnOK Tryz.prog 32 ⟨2, [(0, some (.ro (l.map intK))), (1, some (.ro (l.map intK)))], [.c (.sl 0 1 0 l.length), .c (.sl 1 1 0 l.length)], .c (.v (.bool true)), [], 2⟩ := by
  refine fnOK_of true mixed Tryz.func32 rfl (by rfl) (by rfl) ?_
  have hres := congrArg Array.toList Tryz.results32
  simp only [Tryz.ntmps32, BGB, seval]
  (have gx := @List.length_map.{0,0}; refine go ?_; (repeat' first | exact Ef.mk | apply Lf.mk | refine fun (K : KT) hK hE hT => ?_ | refine fun (KS : KE) hKS => ?_ | refine fun (D : KD) hD => ?_ | refine fun (hg : (_ : Prop)) => ?_ | fail); all_goals (first | (refine Wr.mk ?_; (try clear gx); repeat first | clear hK hE hT K | clear hR hE hT K) | assumption | skip))
  refine loop_v (X := {k : Nat // k ≤ l.length}) [] (fun x => [(13, .c (.v (.int .i64 ((x.1 : Nat) : Int))))]) (fun x => [(0, some (.ro (l.map intK))), (1, some (.ro (l.map intK)))]) 2 (fun x => l.length - x.1) ⟨0, by omega⟩ ?_
  simp only [KPB, seval]
  refine ⟨?_, ?_⟩
  · (refine wk_a ?_; simp only [MAB, seval]; refine ⟨rfl, rfl, (by decide), ?_, ?_⟩; all_goals (first | (simp only [WKB, seval, true_and]; done) | (simp [WKB, seval, true_and]; done) | simp only [WKB, seval]))
  · rintro ⟨k, hk⟩ K hR hE hT
    (have gx := And.intro (@List.length_map.{0,0}) (And.intro @List.getElem_map.{0,0} @intK.eq_1); refine go ?_; (repeat' first | exact Ef.mk | apply Lf.mk | refine fun (K : KT) hK hE hT => ?_ | refine fun (KS : KE) hKS => ?_ | refine fun (D : KD) hD => ?_ | refine fun (hg : (_ : Prop)) => ?_ | fail); all_goals (first | (refine Wr.mk ?_; (try clear gx); repeat first | clear hK hE hT K | clear hR hE hT K) | assumption | skip))
    all_goals first
      | (refine hR.out ⟨k + 1, by omega⟩ _ _ _ (by simp only; omega) ?_; (refine wk_a ?_; simp only [MAB, seval]; refine ⟨rfl, rfl, (by decide), ?_, ?_⟩; all_goals (first | (simp only [WKB, seval, true_and]; done) | (simp [WKB, seval, true_and]; done) | simp only [WKB, seval])))
      | (refine post_a hres (.inl rfl) ?_; simp only [RSB, ENB, seval, tiAll, true_and]; simp only [MAB, seval]; refine ⟨rfl, rfl, ?_, ?_, ?_⟩ <;> (first | rfl | (simp [WKB, Nat.add_comm, true_and]; done) | (simp only [WKB, seval])))
      | fail

set_option maxHeartbeats 4000000 in
theorem sameRun_k (x : RunD) (hx : (x.Vals).length ≤ 1048576 ∧ (x.EVals).length ≤ 1048576 ∧ (x.Next.Bits).length ≤ 1048576) : FnOK Tryz.prog 10 ⟨6, [(0, some (.ro ((x.Vals).map intK))), (1, some (.ro ((x.EVals).map intK))), (2, some (.ro ((x.Next.Bits).map bytK))), (3, some (.ro ((x.Vals).map intK))), (4, some (.ro ((x.EVals).map intK))), (5, some (.ro ((x.Next.Bits).map bytK)))], [.agg [.v (.int .i64 x.Job.Prog), .v (.int .i64 x.Job.Src), .v (.int .i64 x.Iter), .v (.bool x.Done), .sl 0 1 0 (x.Vals).length, .sl 1 1 0 (x.EVals).length, .v (.int .i64 x.Next.N), .sl 2 1 0 (x.Next.Bits).length], .agg [.v (.int .i64 x.Job.Prog), .v (.int .i64 x.Job.Src), .v (.int .i64 x.Iter), .v (.bool x.Done), .sl 3 1 0 (x.Vals).length, .sl 4 1 0 (x.EVals).length, .v (.int .i64 x.Next.N), .sl 5 1 0 (x.Next.Bits).length]], .c (.v (.bool true)), [], 6⟩ := by
  have hq := eq_job
  have k1 := sameInts_k x.Vals (by omega)
  have k2 := sameInts_k x.EVals (by omega)
  refine fnOK_of true mixed Tryz.func10 rfl (by rfl) (by rfl) ?_
  have hres := congrArg Array.toList Tryz.results10
  simp only [Tryz.ntmps10, BGB, seval]
  (have gx := @List.length_map.{0,0}; have q1 := k1; have q2 := k2; have gs := hq; refine go ?_; (repeat' first | exact Ef.mk | apply Lf.mk | refine fun (K : KT) hK hE hT => ?_ | refine fun (KS : KE) hKS => ?_ | refine fun (D : KD) hD => ?_ | refine fun (hg : (_ : Prop)) => ?_ | fail); all_goals (first | (refine Wr.mk ?_; (try clear gx q1 q2 gs); repeat first | clear hK hE hT K | clear hR hE hT K) | assumption | skip))
  refine ⟨x.Next.Bits, by rw [List.take_of_length_le (by simp)], rfl, ?_⟩
  (have gx := @List.length_map.{0,0}; refine go ?_; (repeat' first | exact Ef.mk | apply Lf.mk | refine fun (K : KT) hK hE hT => ?_ | refine fun (KS : KE) hKS => ?_ | refine fun (D : KD) hD => ?_ | refine fun (hg : (_ : Prop)) => ?_ | fail); all_goals (first | (refine Wr.mk ?_; (try clear gx); repeat first | clear hK hE hT K | clear hR hE hT K) | assumption | skip))
  refine ⟨x.Next.Bits, by rw [List.take_of_length_le (by simp)], rfl, ?_⟩
  (have gx := @List.length_map.{0,0}; refine go ?_; (repeat' first | exact Ef.mk | apply Lf.mk | refine fun (K : KT) hK hE hT => ?_ | refine fun (KS : KE) hKS => ?_ | refine fun (D : KD) hD => ?_ | refine fun (hg : (_ : Prop)) => ?_ | fail); all_goals (first | (refine Wr.mk ?_; (try clear gx); repeat first | clear hK hE hT K | clear hR hE hT K) | assumption | skip))
  all_goals (refine post_a hres (.inl rfl) ?_; simp only [RSB, ENB, seval, tiAll, true_and]; simp only [MAB, seval]; refine ⟨rfl, rfl, ?_, ?_, ?_⟩ <;> (first | rfl | (simp [WKB, Nat.add_comm, true_and]; done) | (simp only [WKB, seval])))

end Go.Proofs.YtfnhchcgieeedaaGreat


namespace Go.Proofs.YtfnhchcgieeedaaGreat
set_option linter.unusedSimpArgs false
set_option linter.unusedVariables false
set_option linter.unusedSimpArgs false
set_option linter.unusedVariables false
set_option linter.defProp false
open Go.RowKit

end Go.Proofs.YtfnhchcgieeedaaGreat
namespace Go.Proofs.YtfnhchcgieeedaaGreat
set_option linter.unusedSimpArgs false
set_option linter.unusedVariables false
set_option linter.defProp false
open Go.RowKit

structure SEdgeD where
  From : Int
  To : Int
  W : Int
  Index : Int
  Val : Int
deriving DecidableEq

def SEdgeD.k (x : SEdgeD) : List DC := [.v (.int .i64 x.From), .v (.int .i64 x.To), .v (.int .i64 x.W), .v (.int .i64 x.Index), .v (.int .i64 x.Val)]
def SEdgeD.s (x : SEdgeD) : List CV := [.v (.int .i64 x.From), .v (.int .i64 x.To), .v (.int .i64 x.W), .v (.int .i64 x.Index), .v (.int .i64 x.Val)]
theorem flat_SEdge (l : List SEdgeD) : ∀ e ∈ l.map SEdgeD.k, ∀ c ∈ e, DC.flat c := flat_map (fun x c hc => by simp only [SEdgeD.k, List.mem_cons, List.not_mem_nil, or_false] at hc; rcases hc with rfl | rfl | rfl | rfl | rfl <;> exact ⟨_, rfl, rfl⟩) l
/-- marked cells -/
def SEdgeD.q (q : Nat) : List DC := [.v (.int .i64 ((q : Int))), .v (.int .i64 ((q : Int) + 1)), .v (.int .i64 ((q : Int) + 1 + 1)), .v (.int .i64 ((q : Int) + 1 + 1 + 1)), .v (.int .i64 ((q : Int) + 1 + 1 + 1 + 1))]
def SEdgeD.g (k i : Nat) : List DC := SEdgeD.q (k + 5 * i)

end Go.Proofs.YtfnhchcgieeedaaGreat
namespace Go.Proofs.YtfnhchcgieeedaaGreat
set_option linter.unusedSimpArgs false
set_option linter.unusedVariables false
set_option linter.defProp false
set_option maxRecDepth 20000
open Go.RowKit

structure LocD where
  Shard : Int
  At : Int
  Edge : SEdgeD
deriving DecidableEq

def LocD.k (x : LocD) : List DC := [.v (.int .i64 x.Shard), .v (.int .i64 x.At), .v (.int .i64 x.Edge.From), .v (.int .i64 x.Edge.To), .v (.int .i64 x.Edge.W), .v (.int .i64 x.Edge.Index), .v (.int .i64 x.Edge.Val)]
def LocD.s (x : LocD) : List CV := [.v (.int .i64 x.Shard), .v (.int .i64 x.At), .v (.int .i64 x.Edge.From), .v (.int .i64 x.Edge.To), .v (.int .i64 x.Edge.W), .v (.int .i64 x.Edge.Index), .v (.int .i64 x.Edge.Val)]
theorem flat_Loc (l : List LocD) : ∀ e ∈ l.map LocD.k, ∀ c ∈ e, DC.flat c := flat_map (fun x c hc => by simp only [LocD.k, List.mem_cons, List.not_mem_nil, or_false] at hc; rcases hc with rfl | rfl | rfl | rfl | rfl | rfl | rfl <;> exact ⟨_, rfl, rfl⟩) l
/-- marked cells -/
def LocD.q (q : Nat) : List DC := [.v (.int .i64 ((q : Int))), .v (.int .i64 ((q : Int) + 1)), .v (.int .i64 ((q : Int) + 1 + 1)), .v (.int .i64 ((q : Int) + 1 + 1 + 1)), .v (.int .i64 ((q : Int) + 1 + 1 + 1 + 1)), .v (.int .i64 ((q : Int) + 1 + 1 + 1 + 1 + 1)), .v (.int .i64 ((q : Int) + 1 + 1 + 1 + 1 + 1 + 1))]
def LocD.g (k i : Nat) : List DC := LocD.q (k + 7 * i)

end Go.Proofs.YtfnhchcgieeedaaGreat

namespace Go.Proofs.YtfnhchcgieeedaaGreat
set_option linter.unusedSimpArgs false
set_option linter.unusedVariables false
set_option linter.unusedSimpArgs false
set_option linter.unusedVariables false
set_option linter.defProp false
set_option maxRecDepth 20000
open Go.RowKit

structure SubD where
  P : Int
  Lo : Int
  Hi : Int
  Locs : List LocD
  Reads : Int
deriving DecidableEq

end Go.Proofs.YtfnhchcgieeedaaGreat

namespace Go.Proofs.YtfnhchcgieeedaaGreat
set_option linter.unusedSimpArgs false
set_option linter.unusedVariables false
set_option linter.unusedSimpArgs false
set_option linter.unusedVariables false
set_option linter.defProp false
open Go.RowKit

end Go.Proofs.YtfnhchcgieeedaaGreat

namespace Go.Proofs.YtfnhchcgieeedaaGreat
set_option linter.unusedSimpArgs false
set_option linter.unusedVariables false
set_option linter.defProp false
open Go.RowKit

end Go.Proofs.YtfnhchcgieeedaaGreat


namespace Go.Proofs.YtfnhchcgieeedaaGreat
set_option linter.unusedSimpArgs false
set_option linter.unusedVariables false
set_option linter.unusedSimpArgs false
set_option linter.unusedVariables false
set_option linter.defProp false
open Go.RowKit

end Go.Proofs.YtfnhchcgieeedaaGreat

namespace Go.Proofs.YtfnhchcgieeedaaGreat
set_option linter.unusedSimpArgs false
set_option linter.unusedVariables false
set_option linter.defProp false
open Go.RowKit

end Go.Proofs.YtfnhchcgieeedaaGreat


namespace Go.Proofs.YtfnhchcgieeedaaGreat
set_option linter.unusedSimpArgs false
set_option linter.unusedVariables false
set_option linter.unusedSimpArgs false
set_option linter.unusedVariables false
set_option linter.defProp false
open Go.RowKit

structure ShardD where
  Lo : Int
  Hi : Int
  Edges : List SEdgeD
deriving DecidableEq

end Go.Proofs.YtfnhchcgieeedaaGreat
namespace Go.Proofs.YtfnhchcgieeedaaGreat
set_option linter.unusedSimpArgs false
set_option linter.unusedVariables false
set_option linter.defProp false
open Go.RowKit

/-- A shard's cells; T: the type of its edges. -/
def ShardD.k (T : Nat) (x : ShardD) : List DC := [.v (.int .i64 x.Lo), .v (.int .i64 x.Hi), .sl T 5 (x.Edges.map SEdgeD.k)]
/-- A marked shard's cells. -/
def ShardD.q (T q n : Nat) : List DC := [.v (.int .i64 (q : Int)), .v (.int .i64 ((q : Int) + 1)), .sl T 5 ((List.range n).map (SEdgeD.g (q + 2)))]
def edSum : List ShardD → Nat
  | [] => 0
  | s :: l => s.Edges.length + edSum l
theorem edSum_snoc : ∀ {l : List ShardD} {k : Nat} (h : k < l.length), edSum (l.take (k + 1)) = edSum (l.take k) + l[k].Edges.length
  | s :: l, 0, h => by simp [edSum]
  | s :: l, k + 1, h => by
    have := edSum_snoc (l := l) (k := k) (by simpa using h)
    simp only [List.take_succ_cons, edSum, List.getElem_cons_succ, this]; omega
theorem edSum_le : ∀ (l : List ShardD) (k : Nat), edSum (l.take k) ≤ edSum l
  | [], k => by simp
  | s :: l, 0 => by simp [edSum]
  | s :: l, k + 1 => by have := edSum_le l k; simp only [List.take_succ_cons, edSum]; omega
theorem set_modify {α : Type} (l : List α) (i : Nat) (a : α) (f : α → α) : (l.set i a).modify i f = l.set i (f a) := by
  apply List.ext_getElem?
  intro j
  rw [List.getElem?_modify, List.getElem?_set, List.getElem?_set]
  by_cases h : i = j
  · subst h; simp
  · simp [h]
theorem modify_set' {α : Type} (l : List α) (i : Nat) (h : i < l.length) (f : α → α) : l.modify i f = l.set i (f l[i]) := by
  apply List.ext_getElem?
  intro j
  rw [List.getElem?_modify, List.getElem?_set]
  by_cases hj : i = j
  · subst hj; simp [h]
  · simp [hj]

end Go.Proofs.YtfnhchcgieeedaaGreat

namespace Go.Proofs.YtfnhchcgieeedaaGreat
set_option linter.unusedSimpArgs false
set_option linter.unusedVariables false
set_option linter.defProp false
open Go.RowKit

structure FarmD where
  N : Int
  Ends : List Int
  Shards : List ShardD
deriving DecidableEq

end Go.Proofs.YtfnhchcgieeedaaGreat

namespace Go.Proofs.YtfnhchcgieeedaaGreat
set_option linter.unusedSimpArgs false
set_option linter.unusedVariables false
set_option linter.unusedSimpArgs false
set_option linter.unusedVariables false
set_option linter.defProp false
set_option maxRecDepth 20000
open Go.RowKit

structure FRunD where
  Job : JobD
  Iter : Int
  Done : Bool
  Vals : List Int
  Next : SetD
  Farm : FarmD
deriving DecidableEq

end Go.Proofs.YtfnhchcgieeedaaGreat

namespace Go.Proofs.YtfnhchcgieeedaaGreat
set_option linter.unusedSimpArgs false
set_option linter.unusedVariables false
set_option linter.unusedSimpArgs false
set_option linter.unusedVariables false
set_option linter.defProp false
open Go.Shelf Go.RowKit Go.Lib

noncomputable def locTi : TypeInfo := (Tryz.prog.info? 114).get (by kernel_rfl)
noncomputable def locEi : TypeInfo := (Tryz.prog.info? 133).get (by kernel_rfl)

theorem locK (n : Nat) (h2 : 2 ≤ n) : swapperK n locEi 25 = 9 := by
  have a : locEi.hasPointers = false := by kernel_rfl
  have b : locEi.bytes = 56 := by kernel_rfl
  have c : (n == 0) = false := by simp; omega
  have d : (n == 1) = false := by simp; omega
  simp [swapperK, a, b, c, d]

theorem locK1 (n : Nat) (h : n ≤ 1) : swapperK n locEi 25 = n + 1 := by
  rcases n with _ | _ | n
  · simp [swapperK]
  · simp [swapperK]
  · omega

theorem srtLoc : Srt Tryz.prog 114 133 7 where
  ti := ⟨locTi, by kernel_rfl, by kernel_rfl⟩
  un := ⟨_, Tryz.underlying114, fun m h => by cases h⟩
  pk := by kernel_rfl
  el := ⟨locEi, 25, 98, false, by kernel_rfl, fun _ => by kernel_rfl, by kernel_rfl, fun n h2 => by rw [locK n h2]; kernel_rfl,
    fun args W => run_callFunc_extern Tryz.func98 (by kernel_rfl) (by kernel_rfl) (by kernel_rfl) (e := Extern.ReflectliteSwapper.swap false) (by kernel_rfl) args W,
    fun n h1 => by
      rcases (show n = 0 ∨ n = 1 by omega) with rfl | rfl
      · exact ⟨90, by rw [locK1 0 (by omega)]; kernel_rfl⟩
      · exact ⟨91, by rw [locK1 1 (by omega)]; kernel_rfl⟩⟩
  agg := fun _ => by kernel_rfl

/-- The index of a place. -/
def lix (e : List DC) : Int := match (e[5]? : Option DC) with
  | some (.v (.int _ z)) => z
  | _ => 0

def lixP (e : List DC) : Prop := ∃ z : Int, e[5]? = some (.v (.int .i64 z))
def lixLt (x y : El 7 lixP) : Bool := decide (lix x.1 < lix y.1)

instance : Inhabited (El 7 lixP) := ⟨⟨List.replicate 7 (.v (.int .i64 0)), ⟨by simp, fun c hc => by rw [List.eq_of_mem_replicate hc]; exact ⟨_, rfl, rfl⟩⟩, 0, rfl⟩⟩

theorem lixSwo : Sort.SWO lixLt where
  irrefl x := by simp [lixLt]
  trans x y z h1 h2 := by simp [lixLt] at *; omega
  ntrans x y z h1 h2 := by simp [lixLt] at *; omega

theorem load_less_enters : ∀ args w, (callFunc 70 args).run Tryz.prog w = .ok (.enter 70 args) w := enters_of Tryz.func70 (by kernel_rfl) rfl

set_option maxHeartbeats 2000000 in
theorem load_less_at (blk c Bs size : Nat) (W : World) (G : Nat → Int) (hs : W.cell? ⟨Bs, 3, none⟩ = some (.slice (some ⟨blk, 0, none⟩) size c))
    (hc : ∀ t, t < size → W.cell? ⟨blk, t * 7 + 5, none⟩ = some (.int .i64 (G t))) (i j : Nat) (hi : i < size) (hj : j < size) (_hsz : size < 4611686018427387904) :
    Calls Tryz.prog 70 #[.int .i64 i, .int .i64 j, .pointer (some ⟨Bs, 0, none⟩)] W fun e w' => e = .returned (.bool (decide (G i < G j))) ∧ ∃ q, w' = W.drewN q := by
  have ci := hc i hi
  have cj := hc j hj
  go_enter Tryz.func70, Tryz.ntmps70
  go_wp2
  go_quiet (fail)
  go_wp2
  go_ret
  exact ⟨rfl, nq, rfl⟩

theorem load_less (blk Bs c n : Nat) (W : World) (dk : Array (El 7 lixP)) (hdk : dk.size = n) (hn : n < 4611686018427387904) (hs : W.cell? ⟨Bs, 3, none⟩ = some (.slice (some ⟨blk, 0, none⟩) n c)) (hH : Sort.HoldsK El.enc 7 W blk 0 dk) (i j : Nat) (hi : i < n) (hj : j < n) :
    Calls Tryz.prog 70 #[.int .i64 i, .int .i64 j, .pointer (some ⟨Bs, 0, none⟩)] W fun ex w' => ex = .returned (.bool (lixLt dk[i]! dk[j]!)) ∧ ∃ q, w' = W.drewN q := by
  refine load_less_at blk c Bs n W (fun t => lix dk[t]!.1) hs (fun t ht => ?_) i j hi hj hn
  have h1 := (hH.cell (i := t) (c := 5) (by omega) (by omega)).1
  rw [Nat.zero_add] at h1
  rw [h1]
  obtain ⟨z, hz⟩ := dk[t]!.2.2
  have h2 : 5 < (dk[t]!).enc.length := by rw [El.enc_len]; omega
  rw [getElem!_pos (dk[t]!).enc 5 h2]
  have h3 : (dk[t]!).enc[5]? = some (.int .i64 z) := by
    unfold El.enc
    rw [List.getElem?_map, hz]; rfl
  rw [List.getElem?_eq_getElem h2] at h3
  rw [Option.some.inj h3]
  simp [lix, hz]

end Go.Proofs.YtfnhchcgieeedaaGreat

namespace Go.Proofs.YtfnhchcgieeedaaGreat
set_option linter.unusedSimpArgs false
set_option linter.unusedVariables false
set_option linter.defProp false
open Go.RowKit

/-- Two lists of places, ascending by index, of which one permutes the other, are one where no index comes twice. -/
theorem locs_one : ∀ {l m : List LocD}, l.Perm m → l.Pairwise (fun a b => a.Edge.Index ≤ b.Edge.Index) → m.Pairwise (fun a b => a.Edge.Index ≤ b.Edge.Index) → (m.map (·.Edge.Index)).Nodup → l = m
  | [], m, h, _, _, _ => h.nil_eq
  | a :: l, [], h, _, _, _ => absurd h.length_eq (by simp)
  | a :: l, b :: m, h, h1, h2, h3 => by
    have ha : a ∈ b :: m := h.subset (.head _)
    have hb : b ∈ a :: l := h.symm.subset (.head _)
    have e : a = b := by
      rcases List.mem_cons.1 ha with rfl | ha
      · rfl
      rcases List.mem_cons.1 hb with rfl | hb
      · rfl
      have q1 := (List.pairwise_cons.1 h1).1 b hb
      have q2 := (List.pairwise_cons.1 h2).1 a ha
      simp only [List.map_cons, List.nodup_cons] at h3
      exact absurd (List.mem_map.2 ⟨a, ha, by omega⟩) h3.1
    subst e
    simp only [List.map_cons, List.nodup_cons] at h3
    rw [locs_one (List.perm_cons _ |>.1 h) (List.pairwise_cons.1 h1).2 (List.pairwise_cons.1 h2).2 h3.2]

def LocD.un (e : List DC) : LocD := match e with
  | [.v (.int _ a), .v (.int _ b), .v (.int _ c), .v (.int _ d), .v (.int _ x), .v (.int _ y), .v (.int _ z)] => ⟨a, b, ⟨c, d, x, y, z⟩⟩
  | _ => ⟨0, 0, ⟨0, 0, 0, 0, 0⟩⟩
theorem LocD.un_k (x : LocD) : LocD.un x.k = x := rfl

theorem perm_of_map {l : List (List DC)} {m : List LocD} (h : l.Perm (m.map LocD.k)) : (l.map LocD.un).Perm m ∧ l = (l.map LocD.un).map LocD.k := by
  constructor
  · have := h.map LocD.un
    rw [List.map_map] at this
    simpa [Function.comp_def, LocD.un_k] using this
  · rw [List.map_map]
    refine (List.map_id' l).symm.trans (List.map_congr_left fun e he => ?_)
    obtain ⟨x, _, rfl⟩ := List.mem_map.1 (h.subset he)
    rfl

theorem lixP_k (x : LocD) : lixP x.k := ⟨_, rfl⟩

/-- What the sort leaves is the sorted list. -/
theorem sorted_locs {d : Array (El 7 lixP)} {L S : List LocD} (h : (rowOf d).Perm (L.map LocD.k)) (hs : Go.Sort.SortedIn lixLt 0 L.length d) (hn : d.size = L.length) (hS : S.Perm L) (hSs : S.Pairwise (fun a b => a.Edge.Index ≤ b.Edge.Index)) (hd : (L.map (·.Edge.Index)).Nodup) :
    rowOf d = S.map LocD.k := by
  obtain ⟨h1, h2⟩ := perm_of_map h
  have hl : ((rowOf d).map LocD.un).length = d.size := by simp [rowOf]
  have hp : ((rowOf d).map LocD.un).Pairwise (fun a b => a.Edge.Index ≤ b.Edge.Index) := by
    rw [List.pairwise_iff_getElem]
    intro i j hi hj hij
    have hj' : j < d.size := by rw [← hl]; exact hj
    have q := hs i j (Nat.zero_le _) hij (by omega)
    have ex : ∀ t (ht : t < d.size) (ht2 : t < ((rowOf d).map LocD.un).length), lix d[t]!.1 = (((rowOf d).map LocD.un)[t]).Edge.Index := fun t ht ht2 => by
      have e0 : (rowOf d)[t]? = some d[t]!.1 := by simp [rowOf, ht]
      have e1 : ((rowOf d).map LocD.un)[t] = LocD.un d[t]!.1 := by
        have := List.getElem?_map (f := LocD.un) (l := rowOf d) (i := t)
        rw [e0, List.getElem?_eq_getElem ht2] at this
        exact Option.some.inj this
      obtain ⟨x, _, hx⟩ := List.mem_map.1 (h.subset (List.mem_of_getElem? e0))
      rw [e1, ← hx]; rfl
    have e1 := ex i (by omega) hi
    have e2 := ex j hj' hj
    simp only [lixLt, decide_eq_false_iff_not] at q
    omega
  rw [h2, locs_one (h1.trans hS.symm) hp hSs ((hS.map _).nodup_iff.2 hd)]

end Go.Proofs.YtfnhchcgieeedaaGreat

namespace Go.Proofs.YtfnhchcgieeedaaGreat
set_option linter.unusedSimpArgs false
set_option linter.unusedVariables false
set_option linter.defProp false
open Go.RowKit

/-- The sort of the places: whatever comes behind it is asked for the one sorted list. -/
theorem locs_tail {X : Ctx} {ops : Array Oper} {Q : Exit → Act → World → Prop} {K : List SV → Heap → Nat → Prop} {ds db d1 d2 gr gb Tb : Nat} {d3 : Option Tmp} {L S : List LocD} {cs : List CV} {sl : List SV} {H : Heap} {nx T : Nat} {a : Act} {w : World}
    {t1 t2 t3 : TypeId} {p1 p2 p3 : String} {a1 a2 a3 : Array Edge} {at3 : Array TypeId}
    (hmax : L.length < 4611686018427387904) (hs : Sat X sl H nx a w) (h1 : sl[ds]? = some (.c (.sl gr 7 0 L.length))) (h2 : hget H gr = some (.row T (L.map LocD.k)))
    (h3 : sl[db]? = some (.c (.ptr gb 0 0))) (h4 : hget H gb = some (.box Tb cs)) (h5 : cs[3]? = some (.sl gr 7 0 L.length)) (hne : gb ≠ gr) (hdd : d1 ≠ d2) (hbd : db ≠ d1) (hl1 : d1 < sl.length) (hl2 : d2 < sl.length)
    (hS : S.Perm L) (hSs : S.Pairwise (fun a b => a.Edge.Index ≤ b.Edge.Index)) (hd : (L.map (·.Edge.Index)).Nodup)
    (hQ : K (putS ((sl.set d1 .any).set d2 .any) d3 (.tup [])) (hput H gr (some (.row T (S.map LocD.k)))) nx)
    (hK : ∀ sl H nx a w, K sl H nx → Sat X sl H nx a w → Q .normal a w) :
    wpList Tryz.prog ops Q [⟨some d1, .makeInterface 114 (.tmp ds), t1, p1, a1, none⟩, ⟨some d2, .makeFunc (.func 70) #[] #[.tmp db], t2, p2, a2, none⟩, ⟨d3, .call ⟨.value (.func 69), #[.tmp d1, .tmp d2], at3⟩, t3, p3, a3, none⟩] a w := by
  refine sort_tail (p := lixP) (lt := lixLt) sortLays srtLoc (by omega) lixSwo rfl ⟨_, Tryz.func69, by kernel_rfl, by kernel_rfl⟩ load_less_enters hmax hs h1 h2 (by simp) (fun x hx => ?_) h3 h4 h5 hne hdd hbd hl1 hl2 (fun blk Bs c W dk hdk hn hs hH i j hi hj => load_less blk Bs c _ W dk hdk hn hs hH i j hi hj) ?_ hK
  · obtain ⟨y, _, rfl⟩ := List.mem_map.1 hx
    exact lixP_k y
  · intro d' hp hso hn
    rw [sorted_locs hp hso hn hS hSs hd]
    exact hQ

end Go.Proofs.YtfnhchcgieeedaaGreat


namespace Go.Proofs.YtfnhchcgieeedaaGreat
set_option linter.unusedSimpArgs false
set_option linter.unusedVariables false
set_option linter.unusedSimpArgs false
set_option linter.unusedVariables false
set_option linter.defProp false
set_option maxRecDepth 20000
open Go.RowKit

theorem tiLS : tiOf Tryz.prog 160 = some ⟨.struct [(0, 1, false), (1, 1, false)], 2, 16, [.v .nilFunc, .v .nilFunc], true⟩ := by kernel_rfl
theorem tiL1 : tiOf Tryz.prog 135 = some ⟨.other, 1, 8, [.v .nilFunc], false⟩ := by kernel_rfl
theorem tiL2 : tiOf Tryz.prog 155 = some ⟨.other, 1, 8, [.v .nilFunc], false⟩ := by kernel_rfl

section
variable {α : Type} [Inhabited α] {lt : α → α → Bool} {S : List Nat} {Φ : Array α → World → Prop} {LF SF : Value} {n : Nat}

structure InsX (lt : α → α → Bool) (d : Array α) (a b n : Nat) where
  i : Nat
  D : Array α
  h : a + 1 ≤ i ∧ i ≤ n + 1 ∧ D.size = n
  e : Rnd (Go.Sort.insOuter lt a b i D = Go.Sort.insertionSort lt d a b)
structure InnX (lt : α → α → Bool) (D : Array α) (a i n : Nat) where
  j : Nat
  E : Array α
  h : a ≤ j ∧ j ≤ i ∧ E.size = n
  e : Rnd (Go.Sort.insInner lt a j E = Go.Sort.insInner lt a i D)

theorem insInner_stop (lt : α → α → Bool) (a : Nat) (E : Array α) : Go.Sort.insInner lt a a E = E := by
  cases a with
  | zero => rfl
  | succ k => simp [Go.Sort.insInner]
theorem insInner_no {lt : α → α → Bool} {a k : Nat} {E : Array α} (h : lt E[k + 1]! E[k]! = false) : Go.Sort.insInner lt a (k + 1) E = E := by simp [Go.Sort.insInner, h]
theorem insInner_yes {lt : α → α → Bool} {a k : Nat} {E : Array α} (ha : a < k + 1) (h : lt E[k + 1]! E[k]! = true) : Go.Sort.insInner lt a (k + 1) E = Go.Sort.insInner lt a k (Go.Sort.swp E (k + 1) k) := by
  rw [Go.Sort.insInner, h]
  simp [ha]
set_option maxHeartbeats 8000000 in
theorem insertion_k (hC : SrtC Tryz.prog lt S Φ LF SF n) (d : Array α) (hd : d.size = n) (a b : Nat) (hab : a ≤ b) (hb : b ≤ n) (hn : n ≤ 1099511627) :
    FnOK Tryz.prog 101 ⟨1, [(0, some (.gh S (Φ d)))], [.agg [.v LF, .v SF], .c (.v (.int .i64 (a : Int))), .c (.v (.int .i64 (b : Int)))], .tup [], [(0, some (.gh S (Φ (Go.Sort.insertionSort lt d a b))))], 1⟩ := by
  have o1 := hC.one1
  have o2 := hC.one2
  refine fnOK_of true mixed Tryz.func101 rfl (by rfl) (by rfl) ?_
  have hres := congrArg Array.toList Tryz.results101
  simp only [Tryz.ntmps101, BGB, seval]
  (have gx := And.intro (@tiLS) (And.intro (@tiL1) (And.intro (@tiL2) (And.intro @o1 @o2))); refine go ?_; (repeat' first | exact Ef.mk | apply Lf.mk | refine fun (K : KT) hK hE hT => ?_ | refine fun (KS : KE) hKS => ?_ | refine fun (D : KD) hD => ?_ | refine fun (hg : (_ : Prop)) => ?_ | fail); all_goals (first | (refine Wr.mk ?_; (try clear gx); repeat first | clear hK hE hT K | clear hR hE hT K) | assumption | skip))
  refine loop_v (X := InsX lt d a b n) [] (fun x => [(6, .c (.v (.int .i64 ((x.i : Nat) : Int))))]) (fun x => [(0, some (.gh S (Φ x.D))), (1, some (.box 160 [.v LF, .v SF]))]) 2 (fun x => n + 1 - x.i) ⟨a + 1, d, by omega, ⟨rfl⟩⟩ ?_
  simp only [KPB, seval]
  refine ⟨?_, ?_⟩
  · (refine wk_a ?_; simp only [MAB, seval]; refine ⟨rfl, rfl, (by decide), ?_, ?_⟩; all_goals (first | (simp only [WKB, seval, true_and]; done) | (simp [WKB, seval, true_and]; done) | simp only [WKB, seval]))
  · rintro ⟨i, D, ⟨h1, h2, h3⟩, e⟩ K hR hE hT
    rcases Nat.lt_or_ge i b with hlt | hge
    case inr =>
      have e1 : Go.Sort.insertionSort lt d a b = D := by rw [← e.out, Go.Sort.insOuter, if_neg (by omega)]
      (have gx := And.intro (@tiLS) (And.intro @tiL1 @tiL2); refine go ?_; (repeat' first | exact Ef.mk | apply Lf.mk | refine fun (K : KT) hK hE hT => ?_ | refine fun (KS : KE) hKS => ?_ | refine fun (D : KD) hD => ?_ | refine fun (hg : (_ : Prop)) => ?_ | fail); all_goals (first | (refine Wr.mk ?_; (try clear gx); repeat first | clear hK hE hT K | clear hR hE hT K) | assumption | skip))
      (refine post_a hres (by first | exact .inl rfl | exact .inr rfl) ?_; simp only [RSB, ENB, seval, tiAll, e1]; simp only [MAB, seval]; refine ⟨rfl, rfl, ?_, ?_, ?_⟩ <;> (first | rfl | (simp [WKB, Nat.add_comm, e1]; done) | (simp only [WKB, seval])))
    case inl =>
      have e1 : Go.Sort.insOuter lt a b (i + 1) (Go.Sort.insInner lt a i D) = Go.Sort.insertionSort lt d a b := by rw [← e.out]; exact (by rw [Go.Sort.insOuter.eq_1 lt a b i D, if_pos hlt] : Go.Sort.insOuter lt a b i D = _).symm
      (have gx := And.intro (@tiLS) (And.intro @tiL1 @tiL2); refine go ?_; (repeat' first | exact Ef.mk | apply Lf.mk | refine fun (K : KT) hK hE hT => ?_ | refine fun (KS : KE) hKS => ?_ | refine fun (D : KD) hD => ?_ | refine fun (hg : (_ : Prop)) => ?_ | fail); all_goals (first | (refine Wr.mk ?_; (try clear gx); repeat first | clear hK hE hT K | clear hR hE hT K) | assumption | skip))
      refine loop_v (X := InnX lt D a i n) [] (fun x => [(7, .c (.v (.int .i64 ((x.j : Nat) : Int))))]) (fun x => [(0, some (.gh S (Φ x.E))), (1, some (.box 160 [.v LF, .v SF]))]) 2 (fun x => x.j) ⟨i, D, by omega, ⟨rfl⟩⟩ ?_
      simp only [KPB, seval]
      refine ⟨?_, ?_⟩
      · (refine wk_a ?_; simp only [MAB, seval]; refine ⟨rfl, rfl, (by decide), ?_, ?_⟩; all_goals (first | (simp only [WKB, seval, true_and]; done) | (simp [WKB, seval, true_and]; done) | simp only [WKB, seval]))
      · rintro ⟨j, E, ⟨g1, g2, g3⟩, f⟩ K hR2 hE hT
        rcases Nat.lt_or_ge a j with hj | hj
        case inr =>
          obtain rfl : j = a := by omega
          have f1 : Go.Sort.insInner lt j i D = E := by rw [← f.out, insInner_stop]
          rw [f1] at e1
          (have gx := And.intro (@tiLS) (And.intro @tiL1 @tiL2); refine go ?_; (repeat' first | exact Ef.mk | apply Lf.mk | refine fun (K : KT) hK hE hT => ?_ | refine fun (KS : KE) hKS => ?_ | refine fun (D : KD) hD => ?_ | refine fun (hg : (_ : Prop)) => ?_ | fail); all_goals (first | (refine Wr.mk ?_; (try clear gx); repeat first | clear hK hE hT K | clear hR hE hT K) | assumption | skip))
          refine hR.out ⟨i + 1, E, by omega, ⟨e1⟩⟩ _ _ _ (by simp only; omega) ?_
          (refine wk_a ?_; simp only [MAB, seval]; refine ⟨rfl, rfl, (by decide), ?_, ?_⟩; all_goals (first | (simp only [WKB, seval, true_and]; done) | (simp [WKB, seval, true_and]; done) | simp only [WKB, seval]))
        case inl =>
          obtain ⟨k, rfl⟩ : ∃ k, j = k + 1 := ⟨j - 1, by omega⟩
          (have gx := And.intro (@tiLS) (And.intro @tiL1 @tiL2); refine go ?_; (repeat' first | exact Ef.mk | apply Lf.mk | refine fun (K : KT) hK hE hT => ?_ | refine fun (KS : KE) hKS => ?_ | refine fun (D : KD) hD => ?_ | refine fun (hg : (_ : Prop)) => ?_ | fail); all_goals (first | (refine Wr.mk ?_; (try clear gx); repeat first | clear hK hE hT K | clear hR hE hT K) | assumption | skip))
          refine less_k hC (d := E) (i := k + 1) (j := k) (f := 0) (by exact g3) (by omega) (by omega) ?_ ?_ rfl rfl rfl rfl (by decide) ?_
          · omega
          · omega
          refine hKS _ _ _ _ ?_
          clear hKS; clear KS; simp only [EVB, seval]
          cases hl : lt E[k + 1]! E[k]! with
          | false =>
            have f1 : Go.Sort.insInner lt a i D = E := by rw [← f.out, insInner_no hl]
            rw [f1] at e1
            (have gx := And.intro (@tiLS) (And.intro (@tiL1) (And.intro @tiL2 @hl)); refine go ?_; (repeat' first | exact Ef.mk | apply Lf.mk | refine fun (K : KT) hK hE hT => ?_ | refine fun (KS : KE) hKS => ?_ | refine fun (D : KD) hD => ?_ | refine fun (hg : (_ : Prop)) => ?_ | fail); all_goals (first | (refine Wr.mk ?_; (try clear gx); repeat first | clear hK hE hT K | clear hR hE hT K) | assumption | skip))
            refine hR.out ⟨i + 1, E, by omega, ⟨e1⟩⟩ _ _ _ (by simp only; omega) ?_
            (refine wk_a ?_; simp only [MAB, seval]; refine ⟨rfl, rfl, (by decide), ?_, ?_⟩; all_goals (first | (simp only [WKB, seval, true_and]; done) | (simp [WKB, seval, true_and]; done) | simp only [WKB, seval]))
          | true =>
            have f1 : Go.Sort.insInner lt a k (Go.Sort.swp E (k + 1) k) = Go.Sort.insInner lt a i D := by rw [← f.out, insInner_yes hj hl]
            (have gx := And.intro (@tiLS) (And.intro (@tiL1) (And.intro @tiL2 @hl)); refine go ?_; (repeat' first | exact Ef.mk | apply Lf.mk | refine fun (K : KT) hK hE hT => ?_ | refine fun (KS : KE) hKS => ?_ | refine fun (D : KD) hD => ?_ | refine fun (hg : (_ : Prop)) => ?_ | fail); all_goals (first | (refine Wr.mk ?_; (try clear gx); repeat first | clear hK hE hT K | clear hR hE hT K) | assumption | skip))
            refine swap_k hC (d := E) (i := k + 1) (j := k) (f := 0) (by exact g3) (by omega) (by omega) ?_ ?_ rfl rfl rfl rfl (by decide) ?_
            · omega
            · omega
            refine hKS _ _ _ _ ?_
            clear hKS; clear KS; simp only [EVB, seval]
            (have gx := And.intro (@tiLS) (And.intro @tiL1 @tiL2); refine go ?_; (repeat' first | exact Ef.mk | apply Lf.mk | refine fun (K : KT) hK hE hT => ?_ | refine fun (KS : KE) hKS => ?_ | refine fun (D : KD) hD => ?_ | refine fun (hg : (_ : Prop)) => ?_ | fail); all_goals (first | (refine Wr.mk ?_; (try clear gx); repeat first | clear hK hE hT K | clear hR hE hT K) | assumption | skip))
            refine hR2.out ⟨k, Go.Sort.swp E (k + 1) k, by rw [Go.Sort.size_swp]; omega, ⟨f1⟩⟩ _ _ _ (by simp only; omega) ?_
            (refine wk_a ?_; simp only [MAB, seval]; refine ⟨rfl, rfl, (by decide), ?_, ?_⟩; all_goals (first | (simp only [WKB, seval, true_and]; done) | (simp [WKB, seval, true_and]; done) | simp only [WKB, seval]))
end

end Go.Proofs.YtfnhchcgieeedaaGreat

