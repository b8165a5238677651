/-
  Contracts of the law's helpers for FRun. No conditions of its own.
-/
import Derived.Test.YtcbnfkbnbdbfoaaGreatGO
import Derived.Test.YtcbnfkbnbdbfoaaGreatMGE
import Derived.Test.YtcbnfkbnbdbfoaaGreatMH
namespace Go.Proofs.YtcbnfkbnbdbfoaaGreat
set_option linter.unusedSimpArgs false
set_option linter.unusedVariables false
set_option linter.unusedSimpArgs false
set_option linter.unusedVariables false
set_option linter.defProp false
set_option maxRecDepth 20000
open Go.RowKit

structure FRunD where
  Job : JobD
  Iter : Int
  Done : Bool
  Vals : List Int
  Next : SetD
  Farm : FarmD
deriving DecidableEq

set_option maxHeartbeats 2000000 in
theorem toFRun_k (x : FRunD) (h : (x.Vals).length ≤ 1048576 ∧ (x.Next.Bits).length ≤ 1048576 ∧ (x.Farm.Ends).length ≤ 1048576 ∧ (x.Farm.Shards).length ≤ 1048576 ∧ (∀ s ∈ x.Farm.Shards, s.Edges.length ≤ 1048576)) : FnOK Tryz.prog 12 ⟨4, [(0, some (.ro ((x.Vals).map intK))), (1, some (.ro ((x.Next.Bits).map bytK))), (2, some (.ro ((x.Farm.Ends).map intK))), (3, some (.ro ((x.Farm.Shards).map (ShardD.k 167))))], [.agg [.v (.int .i64 x.Job.Prog), .v (.int .i64 x.Job.Src), .v (.int .i64 x.Iter), .v (.bool x.Done), .sl 0 1 0 (x.Vals).length, .v (.int .i64 x.Next.N), .sl 1 1 0 (x.Next.Bits).length, .v (.int .i64 x.Farm.N), .sl 2 1 0 (x.Farm.Ends).length, .sl 3 3 0 (x.Farm.Shards).length]], .agg [.v (.int .i64 x.Job.Prog), .v (.int .i64 x.Job.Src), .v (.int .i64 x.Iter), .v (.bool x.Done), .sl 4 1 0 (x.Vals).length, .v (.int .i64 x.Next.N), .sl 5 1 0 (x.Next.Bits).length, .v (.int .i64 x.Farm.N), .sl 6 1 0 (x.Farm.Ends).length, .sl 7 3 0 (x.Farm.Shards).length], [(4, some (.row 3 ((x.Vals).map intK))), (5, some (.row 5 ((x.Next.Bits).map bytK))), (6, some (.row 3 ((x.Farm.Ends).map intK))), (7, some (.nst 179 ((x.Farm.Shards).map (ShardD.k 96)) none))], 8⟩ := by
  obtain ⟨⟨xJobProg, xJobSrc⟩, xIter, xDone, xVals, ⟨xNextN, xNextBits⟩, ⟨xFarmN, xFarmEnds, xFarmShards⟩⟩ := x
  dsimp only at h
  obtain ⟨h0, h1, h2, h3, h4⟩ := h
  dsimp only
  refine fnOK_of true mixed Tryz.func12 rfl (by rfl) (by rfl) ?_
  have hres := congrArg Array.toList Tryz.results12
  simp only [Tryz.ntmps12, BGB, seval]
  (have gx := @JobD.s.eq_1; have q1 := toJob_k ⟨xJobProg, xJobSrc⟩; have q2 := toIntS_k xVals; have q3 := toSet_k ⟨xNextN, xNextBits⟩; have q4 := toFarm_k ⟨xFarmN, xFarmEnds, xFarmShards⟩ ⟨by omega, by omega, by assumption⟩; refine go ?_; (repeat' (first | exact Ef.mk | refine Lf.mk ?_ ?_ | refine fun (K : KT) hK hE hT => ?_ | refine fun (KS : Eff → Prop) hKS => ?_ | refine fun (D : List Keys → Prop) hD => ?_ | refine fun (hg : (_ : Prop)) => ?_ | fail)); all_goals (first | (refine Wr.mk ?_; (try clear gx); (try clear q1 q2 q3 q4); repeat (first | (clear hK hE hT; clear K) | (clear hR hE hT; clear K))) | assumption | skip))
  (refine post_a hres (.inl rfl) ?_; simp only [RSB, ENB, seval, tiAll, true_and]; simp only [MAB, seval]; refine ⟨rfl, rfl, ?_, ?_, ?_⟩ <;> (first | rfl | (simp [WKB, Nat.add_comm, true_and]; done) | (simp only [WKB, seval])))

set_option maxHeartbeats 2000000 in
theorem eqFRun_k (x y : FRunD) (h : (x.Vals).length ≤ 1048576 ∧ (x.Next.Bits).length ≤ 1048576 ∧ (x.Farm.Ends).length ≤ 1048576 ∧ (x.Farm.Shards).length ≤ 1048576 ∧ (∀ s ∈ x.Farm.Shards, s.Edges.length ≤ 1048576)) (k : (y.Vals).length ≤ 1048576 ∧ (y.Next.Bits).length ≤ 1048576 ∧ (y.Farm.Ends).length ≤ 1048576 ∧ (y.Farm.Shards).length ≤ 1048576 ∧ (∀ s ∈ y.Farm.Shards, s.Edges.length ≤ 1048576)) : FnOK Tryz.prog 16 ⟨8, [(0, some (.ro ((x.Vals).map intK))), (1, some (.ro ((x.Next.Bits).map bytK))), (2, some (.ro ((x.Farm.Ends).map intK))), (3, some (.ro ((x.Farm.Shards).map (ShardD.k 96)))), (4, some (.ro ((y.Vals).map intK))), (5, some (.ro ((y.Next.Bits).map bytK))), (6, some (.ro ((y.Farm.Ends).map intK))), (7, some (.ro ((y.Farm.Shards).map (ShardD.k 96))))], [.agg [.v (.int .i64 x.Job.Prog), .v (.int .i64 x.Job.Src), .v (.int .i64 x.Iter), .v (.bool x.Done), .sl 0 1 0 (x.Vals).length, .v (.int .i64 x.Next.N), .sl 1 1 0 (x.Next.Bits).length, .v (.int .i64 x.Farm.N), .sl 2 1 0 (x.Farm.Ends).length, .sl 3 3 0 (x.Farm.Shards).length], .agg [.v (.int .i64 y.Job.Prog), .v (.int .i64 y.Job.Src), .v (.int .i64 y.Iter), .v (.bool y.Done), .sl 4 1 0 (y.Vals).length, .v (.int .i64 y.Next.N), .sl 5 1 0 (y.Next.Bits).length, .v (.int .i64 y.Farm.N), .sl 6 1 0 (y.Farm.Ends).length, .sl 7 3 0 (y.Farm.Shards).length]], .c (.v (.bool (decide (x = y)))), [], 8⟩ := by
  obtain ⟨⟨xJobProg, xJobSrc⟩, xIter, xDone, xVals, ⟨xNextN, xNextBits⟩, ⟨xFarmN, xFarmEnds, xFarmShards⟩⟩ := x
  obtain ⟨⟨yJobProg, yJobSrc⟩, yIter, yDone, yVals, ⟨yNextN, yNextBits⟩, ⟨yFarmN, yFarmEnds, yFarmShards⟩⟩ := y
  simp only [FRunD.mk.injEq, JobD.mk.injEq, SetD.mk.injEq, FarmD.mk.injEq]
  dsimp only at h k
  obtain ⟨h0, h1, h2, h3, h4⟩ := h
  obtain ⟨k0, k1, k2, k3, k4⟩ := k
  refine fnOK_of true mixed Tryz.func16 rfl (by rfl) (by rfl) ?_
  have hres := congrArg Array.toList Tryz.results16
  simp only [Tryz.ntmps16, BGB, seval]
  (have gx := @JobD.s.eq_1; have q1 := eqJob_k ⟨xJobProg, xJobSrc⟩ ⟨yJobProg, yJobSrc⟩; have q2 := eqIntS_k xVals yVals; have q3 := eqSet_k ⟨xNextN, xNextBits⟩ ⟨yNextN, yNextBits⟩; have q4 := eqFarm_k ⟨xFarmN, xFarmEnds, xFarmShards⟩ ⟨yFarmN, yFarmEnds, yFarmShards⟩ ⟨by omega, by omega, by assumption⟩ ⟨by omega, by omega, by assumption⟩; refine go ?_; (repeat' (first | exact Ef.mk | refine Lf.mk ?_ ?_ | refine fun (K : KT) hK hE hT => ?_ | refine fun (KS : Eff → Prop) hKS => ?_ | refine fun (D : List Keys → Prop) hD => ?_ | refine fun (hg : (_ : Prop)) => ?_ | fail)); all_goals (first | (refine Wr.mk ?_; (try clear gx); (try clear q1 q2 q3 q4); repeat (first | (clear hK hE hT; clear K) | (clear hR hE hT; clear K))) | assumption | skip))
  all_goals (try simp only [FRunD.mk.injEq, JobD.mk.injEq, SetD.mk.injEq, FarmD.mk.injEq, not_and] at *)
  all_goals (refine post_a hres (.inl rfl) ?_; simp only [RSB, ENB, seval, tiAll, *]; simp only [MAB, seval]; refine ⟨rfl, rfl, ?_, ?_, ?_⟩ <;> (first | rfl | (simp [WKB, Nat.add_comm, *]; done) | (simp only [WKB, seval])))
  all_goals (refine congrArg (fun b => SV.c (CV.v (Value.bool b))) ?_; symm; simp only [decide_eq_false_iff_not, decide_eq_true_eq]; (intro h; simp_all))

set_option maxHeartbeats 2000000 in
theorem markFRun_k (x : FRunD) (k : Nat) (h : ((((k + (x.Vals).length) + (x.Next.Bits).length) + (x.Farm.Ends).length) + shSum (x.Farm.Shards)) ≤ 1099511627776) : FnOK Tryz.prog 19 ⟨4, [(0, some (.row 3 ((x.Vals).map intK))), (1, some (.row 5 ((x.Next.Bits).map bytK))), (2, some (.row 3 ((x.Farm.Ends).map intK))), (3, some (.nst 179 ((x.Farm.Shards).map (ShardD.k 96)) none))], [.agg [.v (.int .i64 x.Job.Prog), .v (.int .i64 x.Job.Src), .v (.int .i64 x.Iter), .v (.bool x.Done), .sl 0 1 0 (x.Vals).length, .v (.int .i64 x.Next.N), .sl 1 1 0 (x.Next.Bits).length, .v (.int .i64 x.Farm.N), .sl 2 1 0 (x.Farm.Ends).length, .sl 3 3 0 (x.Farm.Shards).length], .c (.v (.int .i64 (k : Int)))], .c (.v (.int .i64 ((((((k + (x.Vals).length) + (x.Next.Bits).length) + (x.Farm.Ends).length) + shSum (x.Farm.Shards)) : Nat) : Int))), [(0, some (.row 3 ((List.range (x.Vals).length).map (intQ k)))), (1, some (.row 5 ((List.range (x.Next.Bits).length).map (bytQ (k + (x.Vals).length))))), (2, some (.row 3 ((List.range (x.Farm.Ends).length).map (intQ ((k + (x.Vals).length) + (x.Next.Bits).length))))), (3, some (.nst 179 ((List.range (x.Farm.Shards).length).map (shG 96 (((k + (x.Vals).length) + (x.Next.Bits).length) + (x.Farm.Ends).length) (x.Farm.Shards))) none))], 4⟩ := by
  obtain ⟨⟨xJobProg, xJobSrc⟩, xIter, xDone, xVals, ⟨xNextN, xNextBits⟩, ⟨xFarmN, xFarmEnds, xFarmShards⟩⟩ := x
  dsimp only at h
  dsimp only
  refine fnOK_of true mixed Tryz.func19 rfl (by rfl) (by rfl) ?_
  have hres := congrArg Array.toList Tryz.results19
  simp only [Tryz.ntmps19, BGB, seval]
  (have gx := @range_len; have q1 := markIntS_k xVals k; have q2 := markSet_k ⟨xNextN, xNextBits⟩ (k + (xVals).length) (by dsimp only; omega); have q3 := markFarm_k ⟨xFarmN, xFarmEnds, xFarmShards⟩ ((k + (xVals).length) + ((⟨xNextN, xNextBits⟩ : SetD).Bits).length) (by dsimp only; omega); refine go ?_; (repeat' (first | exact Ef.mk | refine Lf.mk ?_ ?_ | refine fun (K : KT) hK hE hT => ?_ | refine fun (KS : Eff → Prop) hKS => ?_ | refine fun (D : List Keys → Prop) hD => ?_ | refine fun (hg : (_ : Prop)) => ?_ | fail)); all_goals (first | (refine Wr.mk ?_; (try clear gx); (try clear q1 q2 q3); repeat (first | (clear hK hE hT; clear K) | (clear hR hE hT; clear K))) | assumption | skip))
  (refine post_a hres (.inl rfl) ?_; simp only [RSB, ENB, seval, tiAll, true_and]; simp only [MAB, seval]; refine ⟨rfl, rfl, ?_, ?_, ?_⟩ <;> (first | rfl | (simp [WKB, Nat.add_comm, true_and]; done) | (simp only [WKB, seval])))

set_option maxHeartbeats 2000000 in
theorem heldFRun_k (x : FRunD) (k : Nat) (h : ((((k + (x.Vals).length) + (x.Next.Bits).length) + (x.Farm.Ends).length) + shSum (x.Farm.Shards)) ≤ 1099511627776) : FnOK Tryz.prog 22 ⟨4, [(0, some (.ro ((List.range (x.Vals).length).map (intQ k)))), (1, some (.ro ((List.range (x.Next.Bits).length).map (bytQ (k + (x.Vals).length))))), (2, some (.ro ((List.range (x.Farm.Ends).length).map (intQ ((k + (x.Vals).length) + (x.Next.Bits).length))))), (3, some (.ro ((List.range (x.Farm.Shards).length).map (shG 96 (((k + (x.Vals).length) + (x.Next.Bits).length) + (x.Farm.Ends).length) (x.Farm.Shards)))))], [.agg [.v (.int .i64 x.Job.Prog), .v (.int .i64 x.Job.Src), .v (.int .i64 x.Iter), .v (.bool x.Done), .sl 0 1 0 (x.Vals).length, .v (.int .i64 x.Next.N), .sl 1 1 0 (x.Next.Bits).length, .v (.int .i64 x.Farm.N), .sl 2 1 0 (x.Farm.Ends).length, .sl 3 3 0 (x.Farm.Shards).length], .c (.v (.int .i64 (k : Int)))], .c (.v (.int .i64 ((((((k + (x.Vals).length) + (x.Next.Bits).length) + (x.Farm.Ends).length) + shSum (x.Farm.Shards)) : Nat) : Int))), [], 4⟩ := by
  obtain ⟨⟨xJobProg, xJobSrc⟩, xIter, xDone, xVals, ⟨xNextN, xNextBits⟩, ⟨xFarmN, xFarmEnds, xFarmShards⟩⟩ := x
  dsimp only at h
  dsimp only
  refine fnOK_of true mixed Tryz.func22 rfl (by rfl) (by rfl) ?_
  have hres := congrArg Array.toList Tryz.results22
  simp only [Tryz.ntmps22, BGB, seval]
  (have gx := @range_len; have q1 := heldIntS_k (xVals).length k; have q2 := heldSet_k ⟨xNextN, xNextBits⟩ (k + (xVals).length) (by dsimp only; omega); have q3 := heldFarm_k ⟨xFarmN, xFarmEnds, xFarmShards⟩ ((k + (xVals).length) + ((⟨xNextN, xNextBits⟩ : SetD).Bits).length) (by dsimp only; omega); refine go ?_; (repeat' (first | exact Ef.mk | refine Lf.mk ?_ ?_ | refine fun (K : KT) hK hE hT => ?_ | refine fun (KS : Eff → Prop) hKS => ?_ | refine fun (D : List Keys → Prop) hD => ?_ | refine fun (hg : (_ : Prop)) => ?_ | fail)); all_goals (first | (refine Wr.mk ?_; (try clear gx); (try clear q1 q2 q3); repeat (first | (clear hK hE hT; clear K) | (clear hR hE hT; clear K))) | assumption | skip))
  (refine post_a hres (.inl rfl) ?_; simp only [RSB, ENB, seval, tiAll, true_and]; simp only [MAB, seval]; refine ⟨rfl, rfl, ?_, ?_, ?_⟩ <;> (first | rfl | (simp [WKB, Nat.add_comm, true_and]; done) | (simp only [WKB, seval])))

set_option maxHeartbeats 4000000 in
theorem szFRun_k (x : FRunD) (b : Nat) (h : (x.Vals).length ≤ 9223372036854775807 ∧ (x.Next.Bits).length ≤ 9223372036854775807 ∧ (x.Farm.Ends).length ≤ 9223372036854775807 ∧ (x.Farm.Shards).length ≤ 9223372036854775807 ∧ (∀ s ∈ x.Farm.Shards, s.Edges.length ≤ 9223372036854775807)) (hb : b ≤ 1048576) : FnOK Tryz.prog 8 ⟨4, [(0, some (.ro ((x.Vals).map intK))), (1, some (.ro ((x.Next.Bits).map bytK))), (2, some (.ro ((x.Farm.Ends).map intK))), (3, some (.ro ((x.Farm.Shards).map (ShardD.k 167))))], [.agg [.v (.int .i64 x.Job.Prog), .v (.int .i64 x.Job.Src), .v (.int .i64 x.Iter), .v (.bool x.Done), .sl 0 1 0 (x.Vals).length, .v (.int .i64 x.Next.N), .sl 1 1 0 (x.Next.Bits).length, .v (.int .i64 x.Farm.N), .sl 2 1 0 (x.Farm.Ends).length, .sl 3 3 0 (x.Farm.Shards).length], .c (.v (.int .i64 (b : Int)))], .c (.v (.int .i64 (szL b ((x.Vals).length + (x.Next.Bits).length + (x.Farm.Ends).length + ((x.Farm.Shards).length + edSum x.Farm.Shards))))), [], 4⟩ := by
  obtain ⟨⟨xJobProg, xJobSrc⟩, xIter, xDone, xVals, ⟨xNextN, xNextBits⟩, ⟨xFarmN, xFarmEnds, xFarmShards⟩⟩ := x
  dsimp only at h
  obtain ⟨h0, h1, h2, h3, h4⟩ := h
  dsimp only
  refine fnOK_of true mixed Tryz.func8 rfl (by rfl) (by rfl) ?_
  have hres := congrArg Array.toList Tryz.results8
  simp only [Tryz.ntmps8, BGB, seval]
  rcases Nat.lt_or_ge b ((xVals).length) with c0 | c0
  · have e0 : szL b ((xVals).length) = -1 := szL_neg _ _ c0
    have e : szL b ((xVals).length + (xNextBits).length + (xFarmEnds).length + ((xFarmShards).length + edSum xFarmShards)) = -1 := szL_neg _ _ (by omega)
    (have gx := @e0; have q1 := szIntS_k (xVals).length (b) ((xVals).map intK) (by simp); have q2 := szSet_k ⟨xNextN, xNextBits⟩ (b - (xVals).length) (by dsimp only; omega); have q3 := szFarm_k ⟨xFarmN, xFarmEnds, xFarmShards⟩ (b - (xVals).length - (xNextBits).length) ⟨by dsimp only; omega, by dsimp only; omega, by assumption⟩; refine go ?_; (repeat' (first | exact Ef.mk | refine Lf.mk ?_ ?_ | refine fun (K : KT) hK hE hT => ?_ | refine fun (KS : Eff → Prop) hKS => ?_ | refine fun (D : List Keys → Prop) hD => ?_ | refine fun (hg : (_ : Prop)) => ?_ | fail)); all_goals (first | (refine Wr.mk ?_; (try clear gx); (try clear q1 q2 q3); repeat (first | (clear hK hE hT; clear K) | (clear hR hE hT; clear K))) | assumption | skip))
    (refine post_a hres (.inl rfl) ?_; simp only [RSB, ENB, seval, tiAll, e, e0]; simp only [MAB, seval]; refine ⟨rfl, rfl, ?_, ?_, ?_⟩ <;> (first | rfl | (simp [WKB, Nat.add_comm, e, e0]; done) | (simp only [WKB, seval])))
  · have e0 : szL b ((xVals).length) = ((b - ((xVals).length) : Nat) : Int) := szL_sub _ _ c0
    rcases Nat.lt_or_ge (b - (xVals).length) ((xNextBits).length) with c1 | c1
    · have e1 : szL (b - (xVals).length) ((xNextBits).length) = -1 := szL_neg _ _ c1
      have e : szL b ((xVals).length + (xNextBits).length + (xFarmEnds).length + ((xFarmShards).length + edSum xFarmShards)) = -1 := szL_neg _ _ (by omega)
      (have gx := And.intro @e0 @e1; have q1 := szIntS_k (xVals).length (b) ((xVals).map intK) (by simp); have q2 := szSet_k ⟨xNextN, xNextBits⟩ (b - (xVals).length) (by dsimp only; omega); have q3 := szFarm_k ⟨xFarmN, xFarmEnds, xFarmShards⟩ (b - (xVals).length - (xNextBits).length) ⟨by dsimp only; omega, by dsimp only; omega, by assumption⟩; refine go ?_; (repeat' (first | exact Ef.mk | refine Lf.mk ?_ ?_ | refine fun (K : KT) hK hE hT => ?_ | refine fun (KS : Eff → Prop) hKS => ?_ | refine fun (D : List Keys → Prop) hD => ?_ | refine fun (hg : (_ : Prop)) => ?_ | fail)); all_goals (first | (refine Wr.mk ?_; (try clear gx); (try clear q1 q2 q3); repeat (first | (clear hK hE hT; clear K) | (clear hR hE hT; clear K))) | assumption | skip))
      (refine post_a hres (.inl rfl) ?_; simp only [RSB, ENB, seval, tiAll, e, e1]; simp only [MAB, seval]; refine ⟨rfl, rfl, ?_, ?_, ?_⟩ <;> (first | rfl | (simp [WKB, Nat.add_comm, e, e1]; done) | (simp only [WKB, seval])))
    · have e1 : szL (b - (xVals).length) ((xNextBits).length) = (((b - (xVals).length) - ((xNextBits).length) : Nat) : Int) := szL_sub _ _ c1
      rcases Nat.lt_or_ge (b - (xVals).length - (xNextBits).length) ((xFarmEnds).length + ((xFarmShards).length + edSum xFarmShards)) with c2 | c2
      · have e2 : szL (b - (xVals).length - (xNextBits).length) ((xFarmEnds).length + ((xFarmShards).length + edSum xFarmShards)) = -1 := szL_neg _ _ c2
        have e : szL b ((xVals).length + (xNextBits).length + (xFarmEnds).length + ((xFarmShards).length + edSum xFarmShards)) = -1 := szL_neg _ _ (by omega)
        (have gx := And.intro (@e0) (And.intro @e1 @e2); have q1 := szIntS_k (xVals).length (b) ((xVals).map intK) (by simp); have q2 := szSet_k ⟨xNextN, xNextBits⟩ (b - (xVals).length) (by dsimp only; omega); have q3 := szFarm_k ⟨xFarmN, xFarmEnds, xFarmShards⟩ (b - (xVals).length - (xNextBits).length) ⟨by dsimp only; omega, by dsimp only; omega, by assumption⟩; refine go ?_; (repeat' (first | exact Ef.mk | refine Lf.mk ?_ ?_ | refine fun (K : KT) hK hE hT => ?_ | refine fun (KS : Eff → Prop) hKS => ?_ | refine fun (D : List Keys → Prop) hD => ?_ | refine fun (hg : (_ : Prop)) => ?_ | fail)); all_goals (first | (refine Wr.mk ?_; (try clear gx); (try clear q1 q2 q3); repeat (first | (clear hK hE hT; clear K) | (clear hR hE hT; clear K))) | assumption | skip))
        (refine post_a hres (.inl rfl) ?_; simp only [RSB, ENB, seval, tiAll, e, e2]; simp only [MAB, seval]; refine ⟨rfl, rfl, ?_, ?_, ?_⟩ <;> (first | rfl | (simp [WKB, Nat.add_comm, e, e2]; done) | (simp only [WKB, seval])))
      · have e2 : szL (b - (xVals).length - (xNextBits).length) ((xFarmEnds).length + ((xFarmShards).length + edSum xFarmShards)) = (((b - (xVals).length - (xNextBits).length) - ((xFarmEnds).length + ((xFarmShards).length + edSum xFarmShards)) : Nat) : Int) := szL_sub _ _ c2
        simp only [Nat.sub_add_eq] at e2
        (have gx := And.intro (@e0) (And.intro @e1 @e2); have q1 := szIntS_k (xVals).length (b) ((xVals).map intK) (by simp); have q2 := szSet_k ⟨xNextN, xNextBits⟩ (b - (xVals).length) (by dsimp only; omega); have q3 := szFarm_k ⟨xFarmN, xFarmEnds, xFarmShards⟩ (b - (xVals).length - (xNextBits).length) ⟨by dsimp only; omega, by dsimp only; omega, by assumption⟩; refine go ?_; (repeat' (first | exact Ef.mk | refine Lf.mk ?_ ?_ | refine fun (K : KT) hK hE hT => ?_ | refine fun (KS : Eff → Prop) hKS => ?_ | refine fun (D : List Keys → Prop) hD => ?_ | refine fun (hg : (_ : Prop)) => ?_ | fail)); all_goals (first | (refine Wr.mk ?_; (try clear gx); (try clear q1 q2 q3); repeat (first | (clear hK hE hT; clear K) | (clear hR hE hT; clear K))) | assumption | skip))
        (refine post_a hres (.inl rfl) ?_; simp only [RSB, ENB, seval, tiAll, e0, e1, e2, szL_sub b ((xVals).length + (xNextBits).length + (xFarmEnds).length + ((xFarmShards).length + edSum xFarmShards)) (by omega)]; simp only [MAB, seval]; refine ⟨rfl, rfl, ?_, ?_, ?_⟩ <;> (first | rfl | (simp [WKB, Nat.add_comm, e0, e1, e2, szL_sub b ((xVals).length + (xNextBits).length + (xFarmEnds).length + ((xFarmShards).length + edSum xFarmShards)) (by omega)]; done) | (simp only [WKB, seval])))
        all_goals (refine congrArg (fun z => SV.c (CV.v (Value.int .i64 z))) ?_; omega)

end Go.Proofs.YtcbnfkbnbdbfoaaGreat