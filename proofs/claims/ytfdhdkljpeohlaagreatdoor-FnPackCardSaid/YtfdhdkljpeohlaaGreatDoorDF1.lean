/-
  Contracts: numbers of any kind and values, drawn. No conditions of its own.
-/
import Derived.Test.YtfdhdkljpeohlaaGreatDoorGO
import Derived.Test.YtfdhdkljpeohlaaGreatDoorMD
import Derived.Test.YtfdhdkljpeohlaaGreatDoorZz1
namespace Go.Proofs.YtfdhdkljpeohlaaGreatDoor
set_option linter.unusedSimpArgs false
set_option linter.unusedVariables false
set_option linter.unusedSimpArgs false
set_option linter.unusedVariables false
set_option linter.defProp false
set_option maxRecDepth 20000
open Go.RowKit
attribute [local irreducible] lexD

/-- A number below n, for a great n. -/
def bxC (b : List UInt8) (c : Cu) : Cu := byC b (byC b (byC b (byC b c)))
def bxV (b : List UInt8) (c : Cu) (n : Int) : Int := (byV b c * 16777216 + byV b (byC b c) * 65536 + byV b (byC b (byC b c)) * 256 + byV b (byC b (byC b (byC b c)))) % n
theorem bxC_le {b : List UInt8} {c : Cu} (hb : b.length ≤ 1048576) (h : c.i ≤ 1048576) : (bxC b c).i ≤ 1048576 := byC_le hb (byC_le hb (byC_le hb (byC_le hb h)))
theorem bxV_rng (b : List UInt8) (c : Cu) {n : Int} (h : 0 < n) : 0 ≤ bxV b c n ∧ bxV b c n < n := by
  unfold bxV
  exact ⟨Int.emod_nonneg _ (by omega), Int.emod_lt_of_pos _ h⟩

set_option maxHeartbeats 4000000 in
theorem l01Below2_k (b : List UInt8) (c : Cu) (n : Int) (hb : b.length ≤ 1048576) (hc : c.i ≤ 1048576) (hn : 256 < n) (hn2 : n ≤ 1048576) : FnOK Tryz.prog 58 ⟨2, [(0, some (.ro (b.map bytK))), (1, some (.box 97 [.sl 0 1 0 b.length, .v (.int .i64 (c.i : Int)), .v (.int .i64 c.h)]))], [.c (.ptr 1 0 0), .c (.v (.int .i64 n))], .c (.v (.int .i64 (bxV b c n))), [(1, some (.box 97 [.sl 0 1 0 b.length, .v (.int .i64 ((bxC b c).i : Int)), .v (.int .i64 (bxC b c).h)]))], 2⟩ := by
  have h1 := byC_le hb hc
  have h2 := byC_le hb h1
  have h3 := byC_le hb h2
  have c1 := l01Byte_k b c hb hc
  have c2 := l01Byte_k b (byC b c) hb h1
  have c3 := l01Byte_k b (byC b (byC b c)) hb h2
  have c4 := l01Byte_k b (byC b (byC b (byC b c))) hb h3
  have r1 := byV_rng b c
  have r2 := byV_rng b (byC b c)
  have r3 := byV_rng b (byC b (byC b c))
  have r4 := byV_rng b (byC b (byC b (byC b c)))
  unfold bxV bxC
  obtain ⟨d1, hd1⟩ : ∃ d, d = byC b c := ⟨_, rfl⟩
  simp only [← hd1] at c1 c2 c3 c4 r2 r3 r4 h1 h2 h3 ⊢
  obtain ⟨d2, hd2⟩ : ∃ d, d = byC b d1 := ⟨_, rfl⟩
  simp only [← hd2] at c2 c3 c4 r3 r4 h2 h3 ⊢
  obtain ⟨d3, hd3⟩ : ∃ d, d = byC b d2 := ⟨_, rfl⟩
  simp only [← hd3] at c3 c4 r4 h3 ⊢
  refine fnOK_of true mixed Tryz.func58 rfl (by rfl) (by rfl) ?_
  have hres := congrArg Array.toList Tryz.results58
  simp only [Tryz.ntmps58, BGB, seval]
  (have gx := And.intro (@List.length_map.{0,0}) (And.intro @List.getElem_map.{0,0} @bytK.eq_1); have q1 := c1; have q2 := c2; have q3 := c3; have q4 := c4; refine go ?_; (repeat' first | exact Ef.mk | apply Lf.mk | refine fun (K : KT) hK hE hT => ?_ | refine fun (KS : KE) hKS => ?_ | refine fun (D : KD) hD => ?_ | refine fun (hg : (_ : Prop)) => ?_ | fail); all_goals (first | (refine Wr.mk ?_; (try clear gx q1 q2 q3 q4); repeat first | clear hK hE hT K | clear hR hE hT K) | assumption | skip))
  all_goals (refine post_a hres (.inl rfl) ?_; simp only [RSB, ENB, seval, tiAll, true_and]; simp only [MAB, seval]; refine ⟨rfl, rfl, ?_, ?_, ?_⟩ <;> (first | rfl | (simp [WKB, Nat.add_comm, true_and]; done) | (simp only [WKB, seval])))

/-- A number of any kind. -/
def rwL : List Int := [127, 128, 16383, 16384, 140737488355327, 140737488355328, -140737488355328, -140737488355329]
def rwV (b : List UInt8) (c : Cu) : Int :=
  if bwV b c 12 < 5 then bwV b (bwC b c 12) 12
  else if bwV b c 12 = 5 then bwV b (bwC b c 12) 256
  else if bwV b c 12 = 6 then 281474976710655 - bwV b (bwC b c 12) 2 + bwV b (bwC b (bwC b c 12) 2) 3
  else if bwV b c 12 = 7 then -1 - bwV b (bwC b c 12) 3
  else if bwV b c 12 = 8 then 9223372036854775807 - bwV b (bwC b c 12) 2
  else if bwV b c 12 = 9 then -9223372036854775807 - bwV b (bwC b c 12) 2
  else if bwV b c 12 = 10 then rwL.getD (bwV b (bwC b c 12) 8).toNat 0
  else bxV b (bwC b c 12) 65536 * bxV b (bxC b (bwC b c 12)) 65536
def rwC (b : List UInt8) (c : Cu) : Cu :=
  if bwV b c 12 < 5 then bwC b (bwC b c 12) 12
  else if bwV b c 12 = 5 then bwC b (bwC b c 12) 256
  else if bwV b c 12 = 6 then bwC b (bwC b (bwC b c 12) 2) 3
  else if bwV b c 12 = 7 then bwC b (bwC b c 12) 3
  else if bwV b c 12 = 8 then bwC b (bwC b c 12) 2
  else if bwV b c 12 = 9 then bwC b (bwC b c 12) 2
  else if bwV b c 12 = 10 then bwC b (bwC b c 12) 8
  else bxC b (bxC b (bwC b c 12))
set_option maxHeartbeats 16000000 in
theorem l01Raw_k (b : List UInt8) (c : Cu) (hb : b.length ≤ 1048576) (hc : c.i ≤ 1048576) : FnOK Tryz.prog 85 ⟨2, [(0, some (.ro (b.map bytK))), (1, some (.box 97 [.sl 0 1 0 b.length, .v (.int .i64 (c.i : Int)), .v (.int .i64 c.h)]))], [.c (.ptr 1 0 0)], .c (.v (.int .i64 (rwV b c))), [(1, some (.box 97 [.sl 0 1 0 b.length, .v (.int .i64 ((rwC b c).i : Int)), .v (.int .i64 (rwC b c).h)]))], 2⟩ := by
  have k1 := l01Below_k b c 12 hb hc (by decide)
  have h1 := bwC_le hb hc 12
  have r1 := bwV_rng b c (n := 12) (by decide)
  rcases Int.lt_or_le (bwV b c 12) 5 with q | q
  · have k2 := l01Below_k b (bwC b c 12) 12 hb h1 (by decide)
    have e1 : rwV b c = bwV b (bwC b c 12) 12 := by unfold rwV; exact if_pos q
    have e2 : rwC b c = bwC b (bwC b c 12) 12 := by unfold rwC; exact if_pos q
    rw [e1, e2]
    clear e1 e2
    skip
    refine fnOK_of true mixed Tryz.func85 rfl (by rfl) (by rfl) ?_
    have hres := congrArg Array.toList Tryz.results85
    simp only [Tryz.ntmps85, BGB, seval]
    (have gx := And.intro (@List.length_map.{0,0}) (And.intro (@List.getElem_map.{0,0}) (And.intro @bytK.eq_1 @intK.eq_1)); have q1 := k1; have q2 := k2; refine go ?_; (repeat' first | exact Ef.mk | apply Lf.mk | refine fun (K : KT) hK hE hT => ?_ | refine fun (KS : KE) hKS => ?_ | refine fun (D : KD) hD => ?_ | refine fun (hg : (_ : Prop)) => ?_ | fail); all_goals (first | (refine Wr.mk ?_; (try clear gx q1 q2); repeat first | clear hK hE hT K | clear hR hE hT K) | assumption | skip))
    all_goals (refine post_a hres (.inl rfl) ?_; simp only [RSB, ENB, seval, tiAll, true_and]; simp only [MAB, seval]; refine ⟨rfl, rfl, ?_, ?_, ?_⟩ <;> (first | rfl | (simp [WKB, Nat.add_comm, true_and]; done) | (simp only [WKB, seval])))
  rcases (by omega : bwV b c 12 = 5 ∨ bwV b c 12 = 6 ∨ bwV b c 12 = 7 ∨ bwV b c 12 = 8 ∨ bwV b c 12 = 9 ∨ bwV b c 12 = 10 ∨ bwV b c 12 = 11) with z | z | z | z | z | z | z
  · have k2 := l01Below_k b (bwC b c 12) 256 hb h1 (by decide)
    have e1 : rwV b c = bwV b (bwC b c 12) 256 := by unfold rwV; rw [z]; rfl
    have e2 : rwC b c = bwC b (bwC b c 12) 256 := by unfold rwC; rw [z]; rfl
    rw [e1, e2]
    clear e1 e2
    rw [z] at k1
    refine fnOK_of true mixed Tryz.func85 rfl (by rfl) (by rfl) ?_
    have hres := congrArg Array.toList Tryz.results85
    simp only [Tryz.ntmps85, BGB, seval]
    (have gx := And.intro (@List.length_map.{0,0}) (And.intro (@List.getElem_map.{0,0}) (And.intro @bytK.eq_1 @intK.eq_1)); have q1 := k1; have q2 := k2; refine go ?_; (repeat' first | exact Ef.mk | apply Lf.mk | refine fun (K : KT) hK hE hT => ?_ | refine fun (KS : KE) hKS => ?_ | refine fun (D : KD) hD => ?_ | refine fun (hg : (_ : Prop)) => ?_ | fail); all_goals (first | (refine Wr.mk ?_; (try clear gx q1 q2); repeat first | clear hK hE hT K | clear hR hE hT K) | assumption | skip))
    all_goals (refine post_a hres (.inl rfl) ?_; simp only [RSB, ENB, seval, tiAll, true_and]; simp only [MAB, seval]; refine ⟨rfl, rfl, ?_, ?_, ?_⟩ <;> (first | rfl | (simp [WKB, Nat.add_comm, true_and]; done) | (simp only [WKB, seval])))
  · have k2 := l01Below_k b (bwC b c 12) 2 hb h1 (by decide)
    have k3 := l01Below_k b (bwC b (bwC b c 12) 2) 3 hb (bwC_le hb h1 _) (by decide)
    have r2 := bwV_rng b (bwC b c 12) (n := 2) (by decide)
    have r3 := bwV_rng b (bwC b (bwC b c 12) 2) (n := 3) (by decide)
    have e1 : rwV b c = 281474976710655 - bwV b (bwC b c 12) 2 + bwV b (bwC b (bwC b c 12) 2) 3 := by unfold rwV; rw [z]; rfl
    have e2 : rwC b c = bwC b (bwC b (bwC b c 12) 2) 3 := by unfold rwC; rw [z]; rfl
    rw [e1, e2]
    clear e1 e2
    rw [z] at k1
    refine fnOK_of true mixed Tryz.func85 rfl (by rfl) (by rfl) ?_
    have hres := congrArg Array.toList Tryz.results85
    simp only [Tryz.ntmps85, BGB, seval]
    (have gx := And.intro (@List.length_map.{0,0}) (And.intro (@List.getElem_map.{0,0}) (And.intro @bytK.eq_1 @intK.eq_1)); have q1 := k1; have q2 := k2; have q3 := k3; refine go ?_; (repeat' first | exact Ef.mk | apply Lf.mk | refine fun (K : KT) hK hE hT => ?_ | refine fun (KS : KE) hKS => ?_ | refine fun (D : KD) hD => ?_ | refine fun (hg : (_ : Prop)) => ?_ | fail); all_goals (first | (refine Wr.mk ?_; (try clear gx q1 q2 q3); repeat first | clear hK hE hT K | clear hR hE hT K) | assumption | skip))
    all_goals (refine post_a hres (.inl rfl) ?_; simp only [RSB, ENB, seval, tiAll, true_and]; simp only [MAB, seval]; refine ⟨rfl, rfl, ?_, ?_, ?_⟩ <;> (first | rfl | (simp [WKB, Nat.add_comm, true_and]; done) | (simp only [WKB, seval])))
  · have k2 := l01Below_k b (bwC b c 12) 3 hb h1 (by decide)
    have r2 := bwV_rng b (bwC b c 12) (n := 3) (by decide)
    have e1 : rwV b c = -1 - bwV b (bwC b c 12) 3 := by unfold rwV; rw [z]; rfl
    have e2 : rwC b c = bwC b (bwC b c 12) 3 := by unfold rwC; rw [z]; rfl
    rw [e1, e2]
    clear e1 e2
    rw [z] at k1
    refine fnOK_of true mixed Tryz.func85 rfl (by rfl) (by rfl) ?_
    have hres := congrArg Array.toList Tryz.results85
    simp only [Tryz.ntmps85, BGB, seval]
    (have gx := And.intro (@List.length_map.{0,0}) (And.intro (@List.getElem_map.{0,0}) (And.intro @bytK.eq_1 @intK.eq_1)); have q1 := k1; have q2 := k2; refine go ?_; (repeat' first | exact Ef.mk | apply Lf.mk | refine fun (K : KT) hK hE hT => ?_ | refine fun (KS : KE) hKS => ?_ | refine fun (D : KD) hD => ?_ | refine fun (hg : (_ : Prop)) => ?_ | fail); all_goals (first | (refine Wr.mk ?_; (try clear gx q1 q2); repeat first | clear hK hE hT K | clear hR hE hT K) | assumption | skip))
    all_goals (refine post_a hres (.inl rfl) ?_; simp only [RSB, ENB, seval, tiAll, true_and]; simp only [MAB, seval]; refine ⟨rfl, rfl, ?_, ?_, ?_⟩ <;> (first | rfl | (simp [WKB, Nat.add_comm, true_and]; done) | (simp only [WKB, seval])))
  · have k2 := l01Below_k b (bwC b c 12) 2 hb h1 (by decide)
    have r2 := bwV_rng b (bwC b c 12) (n := 2) (by decide)
    have e1 : rwV b c = 9223372036854775807 - bwV b (bwC b c 12) 2 := by unfold rwV; rw [z]; rfl
    have e2 : rwC b c = bwC b (bwC b c 12) 2 := by unfold rwC; rw [z]; rfl
    rw [e1, e2]
    clear e1 e2
    rw [z] at k1
    refine fnOK_of true mixed Tryz.func85 rfl (by rfl) (by rfl) ?_
    have hres := congrArg Array.toList Tryz.results85
    simp only [Tryz.ntmps85, BGB, seval]
    (have gx := And.intro (@List.length_map.{0,0}) (And.intro (@List.getElem_map.{0,0}) (And.intro @bytK.eq_1 @intK.eq_1)); have q1 := k1; have q2 := k2; refine go ?_; (repeat' first | exact Ef.mk | apply Lf.mk | refine fun (K : KT) hK hE hT => ?_ | refine fun (KS : KE) hKS => ?_ | refine fun (D : KD) hD => ?_ | refine fun (hg : (_ : Prop)) => ?_ | fail); all_goals (first | (refine Wr.mk ?_; (try clear gx q1 q2); repeat first | clear hK hE hT K | clear hR hE hT K) | assumption | skip))
    all_goals (refine post_a hres (.inl rfl) ?_; simp only [RSB, ENB, seval, tiAll, true_and]; simp only [MAB, seval]; refine ⟨rfl, rfl, ?_, ?_, ?_⟩ <;> (first | rfl | (simp [WKB, Nat.add_comm, true_and]; done) | (simp only [WKB, seval])))
  · have k2 := l01Below_k b (bwC b c 12) 2 hb h1 (by decide)
    have r2 := bwV_rng b (bwC b c 12) (n := 2) (by decide)
    have e1 : rwV b c = -9223372036854775807 - bwV b (bwC b c 12) 2 := by unfold rwV; rw [z]; rfl
    have e2 : rwC b c = bwC b (bwC b c 12) 2 := by unfold rwC; rw [z]; rfl
    rw [e1, e2]
    clear e1 e2
    rw [z] at k1
    refine fnOK_of true mixed Tryz.func85 rfl (by rfl) (by rfl) ?_
    have hres := congrArg Array.toList Tryz.results85
    simp only [Tryz.ntmps85, BGB, seval]
    (have gx := And.intro (@List.length_map.{0,0}) (And.intro (@List.getElem_map.{0,0}) (And.intro @bytK.eq_1 @intK.eq_1)); have q1 := k1; have q2 := k2; refine go ?_; (repeat' first | exact Ef.mk | apply Lf.mk | refine fun (K : KT) hK hE hT => ?_ | refine fun (KS : KE) hKS => ?_ | refine fun (D : KD) hD => ?_ | refine fun (hg : (_ : Prop)) => ?_ | fail); all_goals (first | (refine Wr.mk ?_; (try clear gx q1 q2); repeat first | clear hK hE hT K | clear hR hE hT K) | assumption | skip))
    all_goals (refine post_a hres (.inl rfl) ?_; simp only [RSB, ENB, seval, tiAll, true_and]; simp only [MAB, seval]; refine ⟨rfl, rfl, ?_, ?_, ?_⟩ <;> (first | rfl | (simp [WKB, Nat.add_comm, true_and]; done) | (simp only [WKB, seval])))
  · have k2 := l01Below_k b (bwC b c 12) 8 hb h1 (by decide)
    have r2 := bwV_rng b (bwC b c 12) (n := 8) (by decide)
    obtain ⟨i, hi⟩ : ∃ i : Nat, bwV b (bwC b c 12) 8 = (i : Int) := ⟨(bwV b (bwC b c 12) 8).toNat, by omega⟩
    have e1 : rwV b c = rwL.getD i 0 := by unfold rwV; rw [z, hi]; rfl
    have e2 : rwC b c = bwC b (bwC b c 12) 8 := by unfold rwC; rw [z]; rfl
    rw [e1, e2]
    rw [z] at k1
    rw [hi] at k2 r2
    clear e1 e2 hi
    have hi8 : i < 8 := by omega
    have gi : ([[.v (.int .i64 127)], [.v (.int .i64 128)], [.v (.int .i64 16383)], [.v (.int .i64 16384)], [.v (.int .i64 140737488355327)], [.v (.int .i64 140737488355328)], [.v (.int .i64 (-140737488355328))], [.v (.int .i64 (-140737488355329))]] : List (List DC))[i]'hi8 = [.v (.int .i64 (rwL.getD i 0))] := by
      rcases (by omega : i = 0 ∨ i = 1 ∨ i = 2 ∨ i = 3 ∨ i = 4 ∨ i = 5 ∨ i = 6 ∨ i = 7) with rfl | rfl | rfl | rfl | rfl | rfl | rfl | rfl <;> rfl
    refine fnOK_of true mixed Tryz.func85 rfl (by rfl) (by rfl) ?_
    have hres := congrArg Array.toList Tryz.results85
    simp only [Tryz.ntmps85, BGB, seval]
    (have gx := And.intro (@List.length_map.{0,0}) (And.intro (@List.getElem_map.{0,0}) (And.intro @bytK.eq_1 @gi)); have q1 := k1; have q2 := k2; refine go ?_; (repeat' first | exact Ef.mk | apply Lf.mk | refine fun (K : KT) hK hE hT => ?_ | refine fun (KS : KE) hKS => ?_ | refine fun (D : KD) hD => ?_ | refine fun (hg : (_ : Prop)) => ?_ | fail); all_goals (first | (refine Wr.mk ?_; (try clear gx q1 q2); repeat first | clear hK hE hT K | clear hR hE hT K) | assumption | skip))
    all_goals (refine post_a hres (.inl rfl) ?_; simp only [RSB, ENB, seval, tiAll, true_and]; simp only [MAB, seval]; refine ⟨rfl, rfl, ?_, ?_, ?_⟩ <;> (first | rfl | (simp [WKB, Nat.add_comm, true_and]; done) | (simp only [WKB, seval])))
  · have k2 := l01Below2_k b (bwC b c 12) 65536 hb h1 (by decide) (by decide)
    have k3 := l01Below2_k b (bxC b (bwC b c 12)) 65536 hb (bxC_le hb h1) (by decide) (by decide)
    have r2 := bxV_rng b (bwC b c 12) (n := 65536) (by decide)
    have r3 := bxV_rng b (bxC b (bwC b c 12)) (n := 65536) (by decide)
    have hmul : 0 ≤ bxV b (bwC b c 12) 65536 * bxV b (bxC b (bwC b c 12)) 65536 ∧ bxV b (bwC b c 12) 65536 * bxV b (bxC b (bwC b c 12)) 65536 ≤ 65536 * 65536 := ⟨Int.mul_nonneg r2.1 r3.1, Int.mul_le_mul (by omega) (by omega) r3.1 (by decide)⟩
    have e1 : rwV b c = bxV b (bwC b c 12) 65536 * bxV b (bxC b (bwC b c 12)) 65536 := by unfold rwV; rw [z]; rfl
    have e2 : rwC b c = bxC b (bxC b (bwC b c 12)) := by unfold rwC; rw [z]; rfl
    rw [e1, e2]
    clear e1 e2
    rw [z] at k1
    refine fnOK_of true mixed Tryz.func85 rfl (by rfl) (by rfl) ?_
    have hres := congrArg Array.toList Tryz.results85
    simp only [Tryz.ntmps85, BGB, seval]
    (have gx := And.intro (@List.length_map.{0,0}) (And.intro (@List.getElem_map.{0,0}) (And.intro @bytK.eq_1 @intK.eq_1)); have q1 := k1; have q2 := k2; have q3 := k3; refine go ?_; (repeat' first | exact Ef.mk | apply Lf.mk | refine fun (K : KT) hK hE hT => ?_ | refine fun (KS : KE) hKS => ?_ | refine fun (D : KD) hD => ?_ | refine fun (hg : (_ : Prop)) => ?_ | fail); all_goals (first | (refine Wr.mk ?_; (try clear gx q1 q2 q3); repeat first | clear hK hE hT K | clear hR hE hT K) | assumption | skip))
    all_goals (refine post_a hres (.inl rfl) ?_; simp only [RSB, ENB, seval, tiAll, true_and]; simp only [MAB, seval]; refine ⟨rfl, rfl, ?_, ?_, ?_⟩ <;> (first | rfl | (simp [WKB, Nat.add_comm, true_and]; done) | (simp only [WKB, seval])))

end Go.Proofs.YtfdhdkljpeohlaaGreatDoor

