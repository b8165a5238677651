/-
  The engine, texts D1 D2 D6 D7 in one. No conditions of its own.
-/
import Derived.Test.YtfdhdkljpeohlaaGreatDoorGO
import Derived.Test.YtfdhdkljpeohlaaGreatDoorZz1
import Derived.Test.YtfdhdkljpeohlaaGreatDoorMU
import Derived.Test.YtfdhdkljpeohlaaGreatDoorMKA
import Derived.Test.YtfdhdkljpeohlaaGreatDoorZz2
import Derived.Test.YtfdhdkljpeohlaaGreatDoorZz6
namespace Go.Proofs.YtfdhdkljpeohlaaGreatDoor
set_option linter.unusedSimpArgs false
set_option linter.unusedVariables false
set_option linter.unusedSimpArgs false
set_option linter.unusedVariables false
set_option linter.defProp false
open Go.RowKit

/-- A cursor: where it stands and what is mixed in. -/
structure Cu where
  i : Nat
  h : Int

def hN (b : List UInt8) : Nat → Int
  | 0 => IntKind.i64.wrap (774201 + (b.length : Int))
  | k + 1 => bits .and .i64 (IntKind.i64.wrap (IntKind.i64.wrap (IntKind.i64.wrap (hN b k * 157) + ((b.getD k 0).toNat : Int)) + 7)) 1073741823
def newC (b : List UInt8) : Cu := ⟨0, hN b (min b.length 4000)⟩
def byH (h : Int) : Int := IntKind.i64.wrap (IntKind.i64.wrap (h * 6364136223846793005) + 1442695040888963407)
def byX (h : Int) : Int := bits .and .i64 (bits .xor .i64 ((byH h).fdiv (2 ^ 33)) ((byH h).fdiv (2 ^ 45))) 255
def byC (b : List UInt8) (c : Cu) : Cu := ⟨if c.i < b.length then c.i + 1 else c.i, byH c.h⟩
def byV (b : List UInt8) (c : Cu) : Int := if c.i < b.length then bits .and .i64 (IntKind.i64.wrap (byX c.h + ((b.getD c.i 0).toNat : Int))) 255 else byX c.h

theorem and_rng (x : Int) : 0 ≤ bits .and .i64 x 255 ∧ bits .and .i64 x 255 ≤ 255 := by
  have h0 : bits .and .i64 x 255 = IntKind.i64.wrap ((BitVec.ofInt 64 x &&& BitVec.ofInt 64 255).toNat : Int) := rfl
  have h1 : (BitVec.ofInt 64 x &&& BitVec.ofInt 64 255).toNat ≤ 255 := by
    rw [BitVec.toNat_and]
    exact Nat.and_le_right
  rw [h0, IntWalk.i64_in _ (by omega)]
  omega
theorem byV_rng (b : List UInt8) (c : Cu) : 0 ≤ byV b c ∧ byV b c ≤ 255 := by
  unfold byV
  split
  · exact and_rng _
  · exact and_rng _

theorem wr_byte (x : UInt8) : IntKind.i64.wrap (x.toNat : Int) = (x.toNat : Int) := IntWalk.i64_in _ (by have := x.toNat_lt; omega)
theorem min33 : min 33 IntKind.i64.bits = 33 := rfl
theorem min45 : min 45 IntKind.i64.bits = 45 := rfl

set_option maxHeartbeats 2000000 in
theorem l01New_k (b : List UInt8) (hb : b.length ≤ 1048576) : FnOK Tryz.prog 22 ⟨1, [(0, some (.ro (b.map bytK)))], [.c (.sl 0 1 0 b.length)], .c (.ptr 1 0 0), [(1, some (.box 97 [.sl 0 1 0 b.length, .v (.int .i64 ((newC b).i : Int)), .v (.int .i64 (newC b).h)]))], 2⟩ := by
  refine fnOK_of false mixed Tryz.func22 rfl (by rfl) (by rfl) ?_
  have hres := congrArg Array.toList Tryz.results22
  simp only [Tryz.ntmps22, BGB, seval]
  (have gx := And.intro (@List.length_map.{0,0}) (And.intro @List.getElem_map.{0,0} @bytK.eq_1); refine go ?_; (repeat' first | exact Ef.mk | apply Lf.mk | refine fun (K : KT) hK hE hT => ?_ | refine fun (KS : KE) hKS => ?_ | refine fun (D : KD) hD => ?_ | refine fun (hg : (_ : Prop)) => ?_ | fail); all_goals (first | (refine Wr.mk ?_; (try clear gx); repeat first | clear hK hE hT K | clear hR hE hT K) | assumption | skip))
  refine loop_v (X := {k : Nat // k ≤ min b.length 4000}) [] (fun x => [(3, .c (.v (.int .i64 (hN b x.1)))), (4, .c (.v (.int .i64 ((x.1 : Nat) : Int))))]) (fun x => [(0, some (.ro (b.map bytK)))]) 1 (fun x => 4000 - x.1) ⟨0, by omega⟩ ?_
  simp only [KPB, seval]
  refine ⟨?_, ?_⟩
  · (refine wk_a ?_; simp only [MAB, seval]; refine ⟨rfl, rfl, (by decide), ?_, ?_⟩; all_goals (first | (simp only [WKB, seval, hN]; done) | (simp [WKB, seval, hN]; done) | simp only [WKB, seval]))
  · rintro ⟨k, hk⟩ K hR hE hT
    rcases Nat.lt_or_ge k (min b.length 4000) with hlt | hge
    case inr =>
      obtain rfl : k = min b.length 4000 := by omega
      (have gx := And.intro (@List.length_map.{0,0}) (And.intro @List.getElem_map.{0,0} @bytK.eq_1); refine go ?_; (repeat' first | exact Ef.mk | apply Lf.mk | refine fun (K : KT) hK hE hT => ?_ | refine fun (KS : KE) hKS => ?_ | refine fun (D : KD) hD => ?_ | refine fun (hg : (_ : Prop)) => ?_ | fail); all_goals (first | (refine Wr.mk ?_; (try clear gx); repeat first | clear hK hE hT K | clear hR hE hT K) | assumption | skip))
      all_goals (refine post_a hres (.inl rfl) ?_; simp only [RSB, ENB, seval, tiAll, newC]; simp only [MAB, seval]; refine ⟨rfl, rfl, ?_, ?_, ?_⟩ <;> (first | rfl | (simp [WKB, Nat.add_comm, newC]; done) | (simp only [WKB, seval])))
    case inl =>
      have e1 : IntKind.i64.wrap ((k : Int) + 1) = ((k + 1 : Nat) : Int) := IntWalk.i64_in _ (by omega)
      have e2 : b.getD k 0 = b[k]'(by omega) := by simp [List.getD, show k < b.length by omega]
      have e3 : hN b (k + 1) = bits .and .i64 (IntKind.i64.wrap (IntKind.i64.wrap (IntKind.i64.wrap (hN b k * 157) + ((b[k]'(by omega)).toNat : Int)) + 7)) 1073741823 := by rw [← e2]; rfl
      have e5 := wr_byte (b[k]'(by omega))
      (have gx := And.intro (@List.length_map.{0,0}) (And.intro (@List.getElem_map.{0,0}) (And.intro (@bytK.eq_1) (And.intro @e1 @e5))); refine go ?_; (repeat' first | exact Ef.mk | apply Lf.mk | refine fun (K : KT) hK hE hT => ?_ | refine fun (KS : KE) hKS => ?_ | refine fun (D : KD) hD => ?_ | refine fun (hg : (_ : Prop)) => ?_ | fail); all_goals (first | (refine Wr.mk ?_; (try clear gx); repeat first | clear hK hE hT K | clear hR hE hT K) | assumption | skip))
      (refine hR.out ⟨k + 1, by omega⟩ _ _ _ (by simp only; omega) ?_; (refine wk_a ?_; simp only [MAB, seval]; refine ⟨rfl, rfl, (by decide), ?_, ?_⟩; all_goals (first | (simp only [WKB, seval, e3]; done) | (simp [WKB, seval, e3]; done) | simp only [WKB, seval])))

set_option maxHeartbeats 2000000 in
theorem l01Byte_k (b : List UInt8) (c : Cu) (hb : b.length ≤ 1048576) (hc : c.i ≤ 1048576) : FnOK Tryz.prog 84 ⟨2, [(0, some (.ro (b.map bytK))), (1, some (.box 97 [.sl 0 1 0 b.length, .v (.int .i64 (c.i : Int)), .v (.int .i64 c.h)]))], [.c (.ptr 1 0 0)], .c (.v (.int .i64 (byV b c))), [(1, some (.box 97 [.sl 0 1 0 b.length, .v (.int .i64 ((byC b c).i : Int)), .v (.int .i64 (byC b c).h)]))], 2⟩ := by
  have e1 : IntKind.i64.wrap ((c.i : Int) + 1) = ((c.i + 1 : Nat) : Int) := IntWalk.i64_in _ (by omega)
  rcases Nat.lt_or_ge c.i b.length with h | h
  · have e2 : b.getD c.i 0 = b[c.i]'h := by simp [List.getD, h]
    have e3 : byC b c = ⟨c.i + 1, byH c.h⟩ := by unfold byC; rw [if_pos h]
    have e4 : byV b c = bits .and .i64 (IntKind.i64.wrap (byX c.h + (b[c.i].toNat : Int))) 255 := by unfold byV; rw [if_pos h, e2]
    rw [e3, e4]
    have e5 := wr_byte b[c.i]
    refine fnOK_of false mixed Tryz.func84 rfl (by rfl) (by rfl) ?_
    have hres := congrArg Array.toList Tryz.results84
    simp only [Tryz.ntmps84, BGB, seval]
    (have gx := And.intro (@List.length_map.{0,0}) (And.intro (@List.getElem_map.{0,0}) (And.intro (@bytK.eq_1) (And.intro (@e1) (And.intro (@e5) (And.intro @min33 @min45))))); refine go ?_; (repeat' first | exact Ef.mk | apply Lf.mk | refine fun (K : KT) hK hE hT => ?_ | refine fun (KS : KE) hKS => ?_ | refine fun (D : KD) hD => ?_ | refine fun (hg : (_ : Prop)) => ?_ | fail); all_goals (first | (refine Wr.mk ?_; (try clear gx); repeat first | clear hK hE hT K | clear hR hE hT K) | assumption | skip))
    all_goals (refine post_a hres (.inl rfl) ?_; simp only [RSB, ENB, seval, tiAll, byX, byH]; simp only [MAB, seval]; refine ⟨rfl, rfl, ?_, ?_, ?_⟩ <;> (first | rfl | (simp [WKB, Nat.add_comm, byX, byH]; done) | (simp only [WKB, seval])))
  · have e3 : byC b c = ⟨c.i, byH c.h⟩ := by unfold byC; rw [if_neg (by omega)]
    have e4 : byV b c = byX c.h := by unfold byV; rw [if_neg (by omega)]
    rw [e3, e4]
    refine fnOK_of false mixed Tryz.func84 rfl (by rfl) (by rfl) ?_
    have hres := congrArg Array.toList Tryz.results84
    simp only [Tryz.ntmps84, BGB, seval]
    (have gx := And.intro (@List.length_map.{0,0}) (And.intro (@List.getElem_map.{0,0}) (And.intro @bytK.eq_1 @e1)); refine go ?_; (repeat' first | exact Ef.mk | apply Lf.mk | refine fun (K : KT) hK hE hT => ?_ | refine fun (KS : KE) hKS => ?_ | refine fun (D : KD) hD => ?_ | refine fun (hg : (_ : Prop)) => ?_ | fail); all_goals (first | (refine Wr.mk ?_; (try clear gx); repeat first | clear hK hE hT K | clear hR hE hT K) | assumption | skip))
    all_goals (refine post_a hres (.inl rfl) ?_; simp only [RSB, ENB, seval, tiAll, byX, byH]; simp only [MAB, seval]; refine ⟨rfl, rfl, ?_, ?_, ?_⟩ <;> (first | rfl | (simp [WKB, Nat.add_comm, byX, byH]; done) | (simp only [WKB, seval])))

/-- A number below n, for a small n. -/
def bwC (b : List UInt8) (c : Cu) (n : Int) : Cu := if n ≤ 0 then c else byC b c
def bwV (b : List UInt8) (c : Cu) (n : Int) : Int := if n ≤ 0 then 0 else byV b c % n
theorem bwV_rng (b : List UInt8) (c : Cu) {n : Int} (h : 0 < n) : 0 ≤ bwV b c n ∧ bwV b c n < n := by
  unfold bwV
  rw [if_neg (by omega)]
  exact ⟨Int.emod_nonneg _ (by omega), Int.emod_lt_of_pos _ h⟩
theorem byC_le {b : List UInt8} {c : Cu} (hb : b.length ≤ 1048576) (h : c.i ≤ 1048576) : (byC b c).i ≤ 1048576 := by
  unfold byC
  dsimp only
  split <;> omega
theorem bwC_le {b : List UInt8} {c : Cu} (hb : b.length ≤ 1048576) (h : c.i ≤ 1048576) (n : Int) : (bwC b c n).i ≤ 1048576 := by
  unfold bwC
  split
  · exact h
  · exact byC_le hb h
theorem newC_le (b : List UInt8) : (newC b).i ≤ 1048576 := Nat.zero_le _

theorem l01Below_k (b : List UInt8) (c : Cu) (n : Int) (hb : b.length ≤ 1048576) (hc : c.i ≤ 1048576) (hn : n ≤ 256) : FnOK Tryz.prog 58 ⟨2, [(0, some (.ro (b.map bytK))), (1, some (.box 97 [.sl 0 1 0 b.length, .v (.int .i64 (c.i : Int)), .v (.int .i64 c.h)]))], [.c (.ptr 1 0 0), .c (.v (.int .i64 n))], .c (.v (.int .i64 (bwV b c n))), [(1, some (.box 97 [.sl 0 1 0 b.length, .v (.int .i64 ((bwC b c n).i : Int)), .v (.int .i64 (bwC b c n).h)]))], 2⟩ := by
  have cb := l01Byte_k b c hb hc
  have hr := byV_rng b c
  rcases Int.lt_or_le 0 n with h | h
  · have e1 : bwC b c n = byC b c := by unfold bwC; rw [if_neg (by omega)]
    have e2 : bwV b c n = byV b c % n := by unfold bwV; rw [if_neg (by omega)]
    rw [e1, e2]
    refine fnOK_of true mixed Tryz.func58 rfl (by rfl) (by rfl) ?_
    have hres := congrArg Array.toList Tryz.results58
    simp only [Tryz.ntmps58, BGB, seval]
    (have gx := And.intro (@List.length_map.{0,0}) (And.intro @List.getElem_map.{0,0} @bytK.eq_1); have q1 := cb; refine go ?_; (repeat' first | exact Ef.mk | apply Lf.mk | refine fun (K : KT) hK hE hT => ?_ | refine fun (KS : KE) hKS => ?_ | refine fun (D : KD) hD => ?_ | refine fun (hg : (_ : Prop)) => ?_ | fail); all_goals (first | (refine Wr.mk ?_; (try clear gx q1); repeat first | clear hK hE hT K | clear hR hE hT K) | assumption | skip))
    all_goals (refine post_a hres (.inl rfl) ?_; simp only [RSB, ENB, seval, tiAll, true_and]; simp only [MAB, seval]; refine ⟨rfl, rfl, ?_, ?_, ?_⟩ <;> (first | rfl | (simp [WKB, Nat.add_comm, true_and]; done) | (simp only [WKB, seval])))
  · have e1 : bwC b c n = c := by unfold bwC; rw [if_pos h]
    have e2 : bwV b c n = 0 := by unfold bwV; rw [if_pos h]
    rw [e1, e2]
    refine fnOK_of true mixed Tryz.func58 rfl (by rfl) (by rfl) ?_
    have hres := congrArg Array.toList Tryz.results58
    simp only [Tryz.ntmps58, BGB, seval]
    (have gx := And.intro (@List.length_map.{0,0}) (And.intro @List.getElem_map.{0,0} @bytK.eq_1); have q1 := cb; refine go ?_; (repeat' first | exact Ef.mk | apply Lf.mk | refine fun (K : KT) hK hE hT => ?_ | refine fun (KS : KE) hKS => ?_ | refine fun (D : KD) hD => ?_ | refine fun (hg : (_ : Prop)) => ?_ | fail); all_goals (first | (refine Wr.mk ?_; (try clear gx q1); repeat first | clear hK hE hT K | clear hR hE hT K) | assumption | skip))
    all_goals (refine post_a hres (.inl rfl) ?_; simp only [RSB, ENB, seval, tiAll, true_and]; simp only [MAB, seval]; refine ⟨rfl, rfl, ?_, ?_, ?_⟩ <;> (first | rfl | (simp [WKB, Nat.add_comm, true_and]; done) | (simp only [WKB, seval])))

end Go.Proofs.YtfdhdkljpeohlaaGreatDoor

namespace Go.Proofs.YtfdhdkljpeohlaaGreatDoor
set_option linter.unusedSimpArgs false
set_option linter.unusedVariables false
set_option linter.defProp false
open Go.RowKit

def jobV (b : List UInt8) (c : Cu) (n : Int) : JobD := ⟨1 + bwV b c 4, if 1 + bwV b c 4 = 3 ∧ 0 < n then bwV b (bwC b c 4) n else 0⟩
def jobC (b : List UInt8) (c : Cu) (n : Int) : Cu := if 1 + bwV b c 4 = 3 ∧ 0 < n then bwC b (bwC b c 4) n else bwC b c 4
theorem jobV_rng (b : List UInt8) (c : Cu) (n : Int) : 1 ≤ (jobV b c n).Prog ∧ (jobV b c n).Prog ≤ 4 := by
  have := bwV_rng b c (n := 4) (by decide)
  unfold jobV
  dsimp only
  omega
theorem jobV_src (b : List UInt8) (c : Cu) {n : Int} (hn : 0 < n) : 0 ≤ (jobV b c n).Src ∧ (jobV b c n).Src < n ∧ ((jobV b c n).Prog ≠ 3 → (jobV b c n).Src = 0) := by
  have := bwV_rng b (bwC b c 4) hn
  unfold jobV
  dsimp only
  split
  · exact ⟨by omega, by omega, fun h => absurd (by omega) h⟩
  · exact ⟨by omega, by omega, fun _ => rfl⟩
theorem jobC_le {b : List UInt8} {c : Cu} (hb : b.length ≤ 1048576) (h : c.i ≤ 1048576) (n : Int) : (jobC b c n).i ≤ 1048576 := by
  unfold jobC
  split
  · exact bwC_le hb (bwC_le hb h _) _
  · exact bwC_le hb h _

set_option maxHeartbeats 2000000 in
theorem l10Job_k (b : List UInt8) (c : Cu) (n : Int) (hb : b.length ≤ 1048576) (hc : c.i ≤ 1048576) (hn : n ≤ 256) : FnOK Tryz.prog 76 ⟨2, [(0, some (.ro (b.map bytK))), (1, some (.box 97 [.sl 0 1 0 b.length, .v (.int .i64 (c.i : Int)), .v (.int .i64 c.h)]))], [.c (.ptr 1 0 0), .c (.v (.int .i64 n))],
    .agg [.v (.int .i64 (jobV b c n).Prog), .v (.int .i64 (jobV b c n).Src)], [(1, some (.box 97 [.sl 0 1 0 b.length, .v (.int .i64 ((jobC b c n).i : Int)), .v (.int .i64 (jobC b c n).h)]))], 2⟩ := by
  have k1 := l01Below_k b c 4 hb hc (by decide)
  have k2 := l01Below_k b (bwC b c 4) n hb (bwC_le hb hc _) hn
  have r1 := bwV_rng b c (n := 4) (by decide)
  by_cases h : 1 + bwV b c 4 = 3 ∧ 0 < n
  · have e1 : jobV b c n = ⟨1 + bwV b c 4, bwV b (bwC b c 4) n⟩ := by unfold jobV; rw [if_pos h]
    have e2 : jobC b c n = bwC b (bwC b c 4) n := by unfold jobC; rw [if_pos h]
    rw [e1, e2]
    refine fnOK_of true mixed Tryz.func76 rfl (by rfl) (by rfl) ?_
    have hres := congrArg Array.toList Tryz.results76
    simp only [Tryz.ntmps76, BGB, seval]
    (have gx := true_and True; have q1 := k1; have q2 := k2; refine go ?_; (repeat' first | exact Ef.mk | apply Lf.mk | refine fun (K : KT) hK hE hT => ?_ | refine fun (KS : KE) hKS => ?_ | refine fun (D : KD) hD => ?_ | refine fun (hg : (_ : Prop)) => ?_ | fail); all_goals (first | (refine Wr.mk ?_; (try clear gx q1 q2); repeat first | clear hK hE hT K | clear hR hE hT K) | assumption | skip))
    all_goals (refine post_a hres (.inl rfl) ?_; simp only [RSB, ENB, seval, tiAll, true_and]; simp only [MAB, seval]; refine ⟨rfl, rfl, ?_, ?_, ?_⟩ <;> (first | rfl | (simp [WKB, Nat.add_comm, true_and]; done) | (simp only [WKB, seval])))
  · have e1 : jobV b c n = ⟨1 + bwV b c 4, 0⟩ := by unfold jobV; rw [if_neg h]
    have e2 : jobC b c n = bwC b c 4 := by unfold jobC; rw [if_neg h]
    rw [e1, e2]
    refine fnOK_of true mixed Tryz.func76 rfl (by rfl) (by rfl) ?_
    have hres := congrArg Array.toList Tryz.results76
    simp only [Tryz.ntmps76, BGB, seval]
    (have gx := true_and True; have q1 := k1; have q2 := k2; refine go ?_; (repeat' first | exact Ef.mk | apply Lf.mk | refine fun (K : KT) hK hE hT => ?_ | refine fun (KS : KE) hKS => ?_ | refine fun (D : KD) hD => ?_ | refine fun (hg : (_ : Prop)) => ?_ | fail); all_goals (first | (refine Wr.mk ?_; (try clear gx q1 q2); repeat first | clear hK hE hT K | clear hR hE hT K) | assumption | skip))
    all_goals (refine post_a hres (.inl rfl) ?_; simp only [RSB, ENB, seval, tiAll, true_and]; simp only [MAB, seval]; refine ⟨rfl, rfl, ?_, ?_, ?_⟩ <;> (first | rfl | (simp [WKB, Nat.add_comm, true_and]; done) | (simp only [WKB, seval])))

end Go.Proofs.YtfdhdkljpeohlaaGreatDoor

namespace Go.Proofs.YtfdhdkljpeohlaaGreatDoor
set_option linter.unusedSimpArgs false
set_option linter.unusedVariables false
set_option linter.defProp false
set_option maxRecDepth 20000
open Go.RowKit

def edV (b : List UInt8) (n : Int) (c : Cu) : EdgeD := ⟨bwV b c n, bwV b (bwC b c n) n, bwV b (bwC b (bwC b c n) n) 8⟩
def edC (b : List UInt8) (n : Int) (c : Cu) : Cu := bwC b (bwC b (bwC b c n) n) 8
def egTo (b : List UInt8) (n : Int) (c : Cu) : Nat → List EdgeD × Cu
  | 0 => ([], c)
  | k + 1 => ((egTo b n c k).1 ++ [edV b n (egTo b n c k).2], edC b n (egTo b n c k).2)
theorem egTo_len (b : List UInt8) (n : Int) (c : Cu) : ∀ k, (egTo b n c k).1.length = k
  | 0 => rfl
  | k + 1 => by
    show ((egTo b n c k).1 ++ [_]).length = _
    rw [List.length_append, egTo_len b n c k]
    rfl
theorem egTo_le {b : List UInt8} (n : Int) {c : Cu} (hb : b.length ≤ 1048576) (h : c.i ≤ 1048576) : ∀ k, (egTo b n c k).2.i ≤ 1048576
  | 0 => h
  | k + 1 => bwC_le hb (bwC_le hb (bwC_le hb (egTo_le n hb h k) _) _) _
theorem egTo_ok (b : List UInt8) {n : Int} (hn : 0 < n) (c : Cu) : ∀ k, (egTo b n c k).1.all (edgeOk n) = true
  | 0 => rfl
  | k + 1 => by
    show ((egTo b n c k).1 ++ [_]).all (edgeOk n) = true
    rw [List.all_append, egTo_ok b hn c k]
    generalize (egTo b n c k).2 = d
    have h1 := bwV_rng b d hn
    have h2 := bwV_rng b (bwC b d n) hn
    have h3 := bwV_rng b (bwC b (bwC b d n) n) (n := 8) (by decide)
    simp only [List.all_cons, List.all_nil, Bool.and_true, Bool.true_and, edV, edgeOk]
    rw [decide_eq_true_eq]
    omega

def gdM (b : List UInt8) (c : Cu) : Nat := (bwV b (bwC b c 9) 14).toNat
def gdS (b : List UInt8) (c : Cu) : List EdgeD × Cu := egTo b (bwV b c 9) (bwC b (bwC b c 9) 14) (gdM b c)
def gdG (b : List UInt8) (c : Cu) : GraphD := if bwV b c 9 = 0 then ⟨0, []⟩ else ⟨bwV b c 9, (gdS b c).1⟩
def gdC (b : List UInt8) (c : Cu) : Cu := if bwV b c 9 = 0 then bwC b c 9 else (gdS b c).2
theorem gdC_le {b : List UInt8} {c : Cu} (hb : b.length ≤ 1048576) (h : c.i ≤ 1048576) : (gdC b c).i ≤ 1048576 := by
  unfold gdC
  split
  · exact bwC_le hb h _
  · exact egTo_le _ hb (bwC_le hb (bwC_le hb h _) _) _

set_option maxHeartbeats 4000000 in
theorem l04Draw_k (b : List UInt8) (c : Cu) (hb : b.length ≤ 1048576) (hc : c.i ≤ 1048576) : FnOK Tryz.prog 57 ⟨2, [(0, some (.ro (b.map bytK))), (1, some (.box 97 [.sl 0 1 0 b.length, .v (.int .i64 (c.i : Int)), .v (.int .i64 c.h)]))], [.c (.ptr 1 0 0)],
    .agg [.v (.int .i64 (gdG b c).N), .sl 2 3 0 ((gdG b c).Edges).length], [(1, some (.box 97 [.sl 0 1 0 b.length, .v (.int .i64 ((gdC b c).i : Int)), .v (.int .i64 (gdC b c).h)])), (2, some (.row 80 (((gdG b c).Edges).map EdgeD.k)))], 3⟩ := by
  have k0 := l01Below_k b c 9 hb hc (by decide)
  have r0 := bwV_rng b c (n := 9) (by decide)
  by_cases hz : bwV b c 9 = 0
  · have e1 : gdG b c = ⟨0, []⟩ := by unfold gdG; rw [if_pos hz]
    have e2 : gdC b c = bwC b c 9 := by unfold gdC; rw [if_pos hz]
    rw [e1, e2]
    rw [hz] at k0
    refine fnOK_of true mixed Tryz.func57 rfl (by rfl) (by rfl) ?_
    have hres := congrArg Array.toList Tryz.results57
    simp only [Tryz.ntmps57, BGB, seval]
    (have gx := true_and True; have q1 := k0; refine go ?_; (repeat' first | exact Ef.mk | apply Lf.mk | refine fun (K : KT) hK hE hT => ?_ | refine fun (KS : KE) hKS => ?_ | refine fun (D : KD) hD => ?_ | refine fun (hg : (_ : Prop)) => ?_ | fail); all_goals (first | (refine Wr.mk ?_; (try clear gx q1); repeat first | clear hK hE hT K | clear hR hE hT K) | assumption | skip))
    (refine post_a hres (.inl rfl) ?_; simp only [RSB, ENB, seval, tiAll, true_and]; simp only [MAB, seval]; refine ⟨rfl, rfl, ?_, ?_, ?_⟩ <;> (first | rfl | (simp [WKB, Nat.add_comm, true_and]; done) | (simp only [WKB, seval])))
  · have e1 : gdG b c = ⟨bwV b c 9, (gdS b c).1⟩ := by unfold gdG; rw [if_neg hz]
    have e2 : gdC b c = (gdS b c).2 := by unfold gdC; rw [if_neg hz]
    rw [e1, e2]
    have k1 := l01Below_k b (bwC b c 9) 14 hb (bwC_le hb hc _) (by decide)
    have r1 := bwV_rng b (bwC b c 9) (n := 14) (by decide)
    have hm : bwV b (bwC b c 9) 14 = (gdM b c : Int) := by unfold gdM; omega
    rw [hm] at k1 r1
    have eS : gdS b c = egTo b (bwV b c 9) (bwC b (bwC b c 9) 14) (gdM b c) := rfl
    rw [eS]
    obtain ⟨m, hmm⟩ : ∃ m, m = gdM b c := ⟨_, rfl⟩
    obtain ⟨n, hnn⟩ : ∃ n, n = bwV b c 9 := ⟨_, rfl⟩
    rw [← hmm] at k1 r1 ⊢
    rw [← hnn] at k0 r0 hz ⊢
    clear hmm hnn eS e1 e2 hm
    refine fnOK_of true mixed Tryz.func57 rfl (by rfl) (by rfl) ?_
    have hres := congrArg Array.toList Tryz.results57
    simp only [Tryz.ntmps57, BGB, seval]
    (have gx := true_and True; have q1 := k0; have q2 := k1; refine go ?_; (repeat' first | exact Ef.mk | apply Lf.mk | refine fun (K : KT) hK hE hT => ?_ | refine fun (KS : KE) hKS => ?_ | refine fun (D : KD) hD => ?_ | refine fun (hg : (_ : Prop)) => ?_ | fail); all_goals (first | (refine Wr.mk ?_; (try clear gx q1 q2); repeat first | clear hK hE hT K | clear hR hE hT K) | assumption | skip))
    refine loop_v (X := {k : Nat // k ≤ m}) [19, 31, 32] (fun x => [(4, .c (.v (.int .i64 ((m : Int) - ((x.1 : Nat) : Int)))))]) (fun x => [(0, some (.ro (b.map bytK))), (1, some (.box 97 [.sl 0 1 0 b.length, .v (.int .i64 ((egTo b n (bwC b (bwC b c 9) 14) x.1).2.i : Int)), .v (.int .i64 (egTo b n (bwC b (bwC b c 9) 14) x.1).2.h)])), (2, some (.box 35 [.v (.int .i64 0), .nil])), (3, some (.box 35 [.v (.int .i64 n), .sl 4 3 0 (egTo b n (bwC b (bwC b c 9) 14) x.1).1.length])), (4, some (.row 80 ((egTo b n (bwC b (bwC b c 9) 14) x.1).1.map EdgeD.k)))]) 5 (fun x => m - x.1) ⟨0, by omega⟩ ?_
    simp only [KPB, seval]
    refine ⟨?_, ?_⟩
    · (refine wk_a ?_; simp only [MAB, seval]; refine ⟨rfl, rfl, (by decide), ?_, ?_⟩; all_goals (first | (simp only [WKB, seval, egTo]; done) | (simp [WKB, seval, egTo]; done) | simp only [WKB, seval]))
    · rintro ⟨k, hk⟩ K hR hE hT
      have o1 := egTo_len b n (bwC b (bwC b c 9) 14) k
      rcases Nat.lt_or_ge k m with hlt | hge
      case inr =>
        obtain rfl : k = m := by omega
        (have gx := true_and True; refine go ?_; (repeat' first | exact Ef.mk | apply Lf.mk | refine fun (K : KT) hK hE hT => ?_ | refine fun (KS : KE) hKS => ?_ | refine fun (D : KD) hD => ?_ | refine fun (hg : (_ : Prop)) => ?_ | fail); all_goals (first | (refine Wr.mk ?_; (try clear gx); repeat first | clear hK hE hT K | clear hR hE hT K) | assumption | skip))
        (refine post_a hres (.inl rfl) ?_; simp only [RSB, ENB, seval, tiAll, true_and]; simp only [MAB, seval]; refine ⟨rfl, rfl, ?_, ?_, ?_⟩ <;> (first | rfl | (simp [WKB, Nat.add_comm, true_and]; done) | (simp only [WKB, seval])))
      case inl =>
        have hci : (egTo b n (bwC b (bwC b c 9) 14) k).2.i ≤ 1048576 := egTo_le _ hb (bwC_le hb (bwC_le hb hc _) _) k
        have kb := l01Below_k b (egTo b n (bwC b (bwC b c 9) 14) k).2 n hb hci (by omega)
        have kc := l01Below_k b (bwC b (egTo b n (bwC b (bwC b c 9) 14) k).2 n) n hb (bwC_le hb hci _) (by omega)
        have kd := l01Below_k b (bwC b (bwC b (egTo b n (bwC b (bwC b c 9) 14) k).2 n) n) 8 hb (bwC_le hb (bwC_le hb hci _) _) (by decide)
        have e1 : (m : Int) - (k : Int) - 1 = (m : Int) - ((k + 1 : Nat) : Int) := by omega
        (have gx := And.intro @List.length_map.{0,0} @o1; have q1 := kb; have q2 := kc; have q3 := kd; refine go ?_; (repeat' first | exact Ef.mk | apply Lf.mk | refine fun (K : KT) hK hE hT => ?_ | refine fun (KS : KE) hKS => ?_ | refine fun (D : KD) hD => ?_ | refine fun (hg : (_ : Prop)) => ?_ | fail); all_goals (first | (refine Wr.mk ?_; (try clear gx q1 q2 q3); repeat first | clear hK hE hT K | clear hR hE hT K) | assumption | skip))
        (refine hR.out ⟨k + 1, by omega⟩ _ _ _ (by simp only; omega) ?_; (refine wk_a ?_; simp only [MAB, seval]; refine ⟨rfl, rfl, (by decide), ?_, ?_⟩; all_goals (first | (simp only [WKB, seval, egTo, e1, o1, edV, edC, EdgeD.k]; done) | (simp [WKB, seval, egTo, e1, o1, edV, edC, EdgeD.k]; done) | simp only [WKB, seval])))

end Go.Proofs.YtfdhdkljpeohlaaGreatDoor

namespace Go.Proofs.YtfdhdkljpeohlaaGreatDoor
set_option linter.unusedSimpArgs false
set_option linter.unusedVariables false
set_option linter.defProp false
open Go.RowKit

/-! A graph with a vertex, and a run over it. -/

def mrG (b : List UInt8) (c : Cu) : GraphD := if (gdG b c).N = 0 then ⟨1, (gdG b c).Edges⟩ else gdG b c
def mrJ (b : List UInt8) (c : Cu) : JobD := jobV b (gdC b c) (mrG b c).N
def mrC (b : List UInt8) (c : Cu) : Cu := jobC b (gdC b c) (mrG b c).N
def mrK (b : List UInt8) (c : Cu) : Nat := (bwV b (mrC b c) 4).toNat
def mrR (b : List UInt8) (c : Cu) : RunD := raR (mrG b c) (runNew (mrG b c) (mrJ b c)) (mrK b c)

theorem mrG_ok (b : List UInt8) (c : Cu) : graphOk (mrG b c) = true ∧ 0 < (mrG b c).N ∧ (mrG b c).N ≤ 9 := by
  have r0 := bwV_rng b c (n := 9) (by decide)
  have r1 := bwV_rng b (bwC b c 9) (n := 14) (by decide)
  by_cases hz : bwV b c 9 = 0
  · have e1 : gdG b c = ⟨0, []⟩ := by unfold gdG; rw [if_pos hz]
    have e2 : mrG b c = ⟨1, []⟩ := by unfold mrG; rw [e1]; rfl
    rw [e2]
    exact ⟨rfl, by decide, by decide⟩
  · have e1 : gdG b c = ⟨bwV b c 9, (gdS b c).1⟩ := by unfold gdG; rw [if_neg hz]
    have e2 : mrG b c = ⟨bwV b c 9, (gdS b c).1⟩ := by unfold mrG; rw [e1]; exact if_neg hz
    rw [e2]
    have o1 : (gdS b c).1.length = gdM b c := egTo_len b _ _ _
    have o2 : gdM b c < 14 := by unfold gdM; omega
    refine ⟨?_, by show 0 < bwV b c 9; omega, by show bwV b c 9 ≤ 9; omega⟩
    unfold graphOk
    rw [Bool.and_eq_true, decide_eq_true_eq]
    exact ⟨⟨r0.1, by show bwV b c 9 ≤ 150; omega, by show (gdS b c).1.length ≤ 400; omega⟩, egTo_ok b (by omega) _ _⟩
theorem mrJ_ok (b : List UInt8) (c : Cu) : jobOk (mrG b c).N (mrJ b c) = true := by
  have h1 := jobV_rng b (gdC b c) (mrG b c).N
  have h2 := jobV_src b (gdC b c) (mrG_ok b c).2.1
  unfold jobOk
  rw [decide_eq_true_eq]
  exact ⟨h1.1, h1.2, fun _ => ⟨h2.1, h2.2.1⟩, h2.2.2⟩
theorem mrK_rng (b : List UInt8) (c : Cu) : bwV b (mrC b c) 4 = (mrK b c : Int) ∧ mrK b c ≤ 4 := by
  have r0 := bwV_rng b (mrC b c) (n := 4) (by decide)
  unfold mrK
  omega
theorem mr_ok (b : List UInt8) (c : Cu) : runOk (mrG b c) (mrR b c) = true ∧ 0 ≤ (mrR b c).Iter ∧ (mrR b c).Iter ≤ 4 := ran_ok (mrG_ok b c).1 (mrJ_ok b c) _ (mrK_rng b c).2

theorem runOk_small {g : GraphD} {r : RunD} (h : runOk g r = true) : r.Vals.length ≤ 150 ∧ r.EVals.length ≤ 400 ∧ r.Next.Bits.length ≤ 19 := by
  obtain ⟨hin, _⟩ := runOk_in h
  obtain ⟨⟨g1, g2, g3⟩, _⟩ := graphOk_out hin.go
  have := hin.vl
  have := hin.el
  have := (setOk_len hin.so).2.2.2
  omega

set_option maxHeartbeats 4000000 in
theorem l11Draw_k (b : List UInt8) (c : Cu) (hb : b.length ≤ 1048576) (hc : c.i ≤ 1048576) : FnOK Tryz.prog 41 ⟨2, [(0, some (.ro (b.map bytK))), (1, some (.box 97 [.sl 0 1 0 b.length, .v (.int .i64 (c.i : Int)), .v (.int .i64 c.h)]))], [.c (.ptr 1 0 0)],
    .tup [.inr [.v (.int .i64 (mrG b c).N), .sl 2 3 0 ((mrG b c).Edges).length], .inr [.v (.int .i64 (mrR b c).Job.Prog), .v (.int .i64 (mrR b c).Job.Src), .v (.int .i64 (mrR b c).Iter), .v (.bool (mrR b c).Done), .sl 3 1 0 ((mrR b c).Vals).length, .sl 4 1 0 ((mrR b c).EVals).length, .v (.int .i64 (mrR b c).Next.N), .sl 5 1 0 ((mrR b c).Next.Bits).length]], [(1, some (.box 97 [.sl 0 1 0 b.length, .v (.int .i64 ((bwC b (mrC b c) 4).i : Int)), .v (.int .i64 (bwC b (mrC b c) 4).h)])), (2, some (.row 80 (((mrG b c).Edges).map EdgeD.k))), (3, some (.row 3 (((mrR b c).Vals).map intK))), (4, some (.row 3 (((mrR b c).EVals).map intK))), (5, some (.row 5 (((mrR b c).Next.Bits).map bytK)))], 6⟩ := by
  have k0 := l04Draw_k b c hb hc
  have hg := mrG_ok b c
  have k1 := l10Job_k b (gdC b c) (mrG b c).N hb (gdC_le hb hc) (by omega)
  have hgl := (graphOk_out hg.1).1.2.2
  have k2 := specRunNew_k (mrG b c) (mrJ b c) (by omega)
  rw [hg.1, mrJ_ok b c] at k2
  have hro := runNew_ok hg.1 (mrJ_ok b c)
  have hrs := runOk_small hro
  have k3 := l01Below_k b (mrC b c) 4 hb (jobC_le hb (gdC_le hb hc) _) (by decide)
  obtain ⟨m1, m2⟩ := mrK_rng b c
  rw [m1] at k3
  have k4 := specRunAll_k (mrG b c) (runNew (mrG b c) (mrJ b c)) (mrK b c) (by omega) (by omega) (by omega)
  change FnOK _ _ ⟨_, _, _, .agg [.v (.int .i64 (mrJ b c).Prog), .v (.int .i64 (mrJ b c).Src)], [(1, some (.box 97 [.sl 0 1 0 b.length, .v (.int .i64 ((mrC b c).i : Int)), .v (.int .i64 (mrC b c).h)]))], _⟩ at k1
  change FnOK _ _ ⟨_, _, _, .agg [.v (.int .i64 (mrR b c).Job.Prog), .v (.int .i64 (mrR b c).Job.Src), .v (.int .i64 (mrR b c).Iter), .v (.bool (mrR b c).Done), .sl 4 1 0 ((mrR b c).Vals).length, .sl 5 1 0 ((mrR b c).EVals).length, .v (.int .i64 (mrR b c).Next.N), .sl 6 1 0 ((mrR b c).Next.Bits).length], [(4, some (.row 3 (((mrR b c).Vals).map intK))), (5, some (.row 3 (((mrR b c).EVals).map intK))), (6, some (.row 5 (((mrR b c).Next.Bits).map bytK)))], _⟩ at k4
  by_cases hz : (gdG b c).N = 0
  · have e : mrG b c = ⟨1, (gdG b c).Edges⟩ := by unfold mrG; rw [if_pos hz]
    have e' : (mrG b c).N = 1 := by rw [e]
    have e'' : (mrG b c).Edges = (gdG b c).Edges := by rw [e]
    simp only [e', e''] at k1 k2 k4 ⊢
    refine fnOK_of true mixed Tryz.func41 rfl (by rfl) (by rfl) ?_
    have hres := congrArg Array.toList Tryz.results41
    simp only [Tryz.ntmps41, BGB, seval]
    (have gx := true_and True; have q1 := k0; have q2 := k1; have q3 := k2; have q4 := k3; have q5 := k4; refine go ?_; (repeat' first | exact Ef.mk | apply Lf.mk | refine fun (K : KT) hK hE hT => ?_ | refine fun (KS : KE) hKS => ?_ | refine fun (D : KD) hD => ?_ | refine fun (hg : (_ : Prop)) => ?_ | fail); all_goals (first | (refine Wr.mk ?_; (try clear gx q1 q2 q3 q4 q5); repeat first | clear hK hE hT K | clear hR hE hT K) | assumption | skip))
    (refine post_a hres (.inl rfl) ?_; simp only [RSB, ENB, seval, tiAll, true_and]; simp only [MAB, seval]; refine ⟨rfl, rfl, ?_, ?_, ?_⟩ <;> (first | rfl | (simp [WKB, Nat.add_comm, true_and]; done) | (simp only [WKB, seval])))
  · have e : mrG b c = gdG b c := by unfold mrG; rw [if_neg hz]
    simp only [e] at k1 k2 k4 ⊢
    refine fnOK_of true mixed Tryz.func41 rfl (by rfl) (by rfl) ?_
    have hres := congrArg Array.toList Tryz.results41
    simp only [Tryz.ntmps41, BGB, seval]
    (have gx := true_and True; have q1 := k0; have q2 := k1; have q3 := k2; have q4 := k3; have q5 := k4; refine go ?_; (repeat' first | exact Ef.mk | apply Lf.mk | refine fun (K : KT) hK hE hT => ?_ | refine fun (KS : KE) hKS => ?_ | refine fun (D : KD) hD => ?_ | refine fun (hg : (_ : Prop)) => ?_ | fail); all_goals (first | (refine Wr.mk ?_; (try clear gx q1 q2 q3 q4 q5); repeat first | clear hK hE hT K | clear hR hE hT K) | assumption | skip))
    (refine post_a hres (.inl rfl) ?_; simp only [RSB, ENB, seval, tiAll, true_and]; simp only [MAB, seval]; refine ⟨rfl, rfl, ?_, ?_, ?_⟩ <;> (first | rfl | (simp [WKB, Nat.add_comm, true_and]; done) | (simp only [WKB, seval])))

end Go.Proofs.YtfdhdkljpeohlaaGreatDoor

