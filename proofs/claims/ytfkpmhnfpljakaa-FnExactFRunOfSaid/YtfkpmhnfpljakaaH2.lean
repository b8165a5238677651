/-
  Contracts of the law's helpers for Set, Run, Values. No conditions of its own.
-/
import Derived.Test.YtfkpmhnfpljakaaGO
import Derived.Test.YtfkpmhnfpljakaaH2d
import Derived.Test.YtfkpmhnfpljakaaG0
import Derived.Test.YtfkpmhnfpljakaaG5
namespace Go.Proofs.Ytfkpmhnfpljakaa
set_option linter.unusedSimpArgs false
set_option linter.unusedVariables false
set_option linter.unusedSimpArgs false
set_option linter.unusedVariables false
set_option linter.defProp false
open Go.RowKit

set_option maxHeartbeats 2000000 in
theorem toSet_k (x : SetD) (h : (x.Bits).length ≤ 1048576) : FnOK Try.prog 78 ⟨1, [(0, some (.ro ((x.Bits).map bytK)))], [.agg [.v (.int .i64 x.N), .sl 0 1 0 (x.Bits).length]], .agg [.v (.int .i64 x.N), .sl 1 1 0 (x.Bits).length], [(1, some (.row 5 ((x.Bits).map bytK)))], 2⟩ := by
  obtain ⟨xN, xBits⟩ := x
  dsimp only at h
  dsimp only
  refine fnOK_of true mixed Try.func78 rfl (by rfl) (by rfl) ?_
  have hres := congrArg Array.toList Try.results78
  simp only [Try.ntmps78, BGB, seval]
  (have gx := true_and True; have q1 := toByteS_k xBits; refine go ?_; (repeat' (first | exact Ef.mk | refine Lf.mk ?_ ?_ | refine fun (K : KT) hK hE hT => ?_ | refine fun (KS : Eff → Prop) hKS => ?_ | refine fun (D : List Keys → Prop) hD => ?_ | refine fun (hg : (_ : Prop)) => ?_ | fail)); all_goals (first | (refine Wr.mk ?_; (try clear gx); (try clear q1); repeat (first | (clear hK hE hT; clear K) | (clear hR hE hT; clear K))) | assumption | skip))
  (refine post_a hres (.inl rfl) ?_; simp only [RSB, ENB, seval, tiAll, true_and]; simp only [MAB, seval]; refine ⟨rfl, rfl, ?_, ?_, ?_⟩ <;> (first | rfl | (simp [WKB, Nat.add_comm, true_and]; done) | (simp only [WKB, seval])))

set_option maxHeartbeats 2000000 in
theorem eqSet_k (x y : SetD) (h : (x.Bits).length ≤ 1048576) (k : (y.Bits).length ≤ 1048576) : FnOK Try.prog 83 ⟨2, [(0, some (.ro ((x.Bits).map bytK))), (1, some (.ro ((y.Bits).map bytK)))], [.agg [.v (.int .i64 x.N), .sl 0 1 0 (x.Bits).length], .agg [.v (.int .i64 y.N), .sl 1 1 0 (y.Bits).length]], .c (.v (.bool (decide (x = y)))), [], 2⟩ := by
  obtain ⟨xN, xBits⟩ := x
  obtain ⟨yN, yBits⟩ := y
  simp only [SetD.mk.injEq]
  dsimp only at h k
  refine fnOK_of true mixed Try.func83 rfl (by rfl) (by rfl) ?_
  have hres := congrArg Array.toList Try.results83
  simp only [Try.ntmps83, BGB, seval]
  (have gx := true_and True; have q1 := eqByteS_k xBits yBits; refine go ?_; (repeat' (first | exact Ef.mk | refine Lf.mk ?_ ?_ | refine fun (K : KT) hK hE hT => ?_ | refine fun (KS : Eff → Prop) hKS => ?_ | refine fun (D : List Keys → Prop) hD => ?_ | refine fun (hg : (_ : Prop)) => ?_ | fail)); all_goals (first | (refine Wr.mk ?_; (try clear gx); (try clear q1); repeat (first | (clear hK hE hT; clear K) | (clear hR hE hT; clear K))) | assumption | skip))
  all_goals (try simp only [SetD.mk.injEq, not_and] at *)
  all_goals (refine post_a hres (.inl rfl) ?_; simp only [RSB, ENB, seval, tiAll, *]; simp only [MAB, seval]; refine ⟨rfl, rfl, ?_, ?_, ?_⟩ <;> (first | rfl | (simp [WKB, Nat.add_comm, *]; done) | (simp only [WKB, seval])))
  all_goals (refine congrArg (fun b => SV.c (CV.v (Value.bool b))) ?_; symm; simp only [decide_eq_false_iff_not, decide_eq_true_eq]; (intro h; simp_all))

set_option maxHeartbeats 2000000 in
theorem markSet_k (x : SetD) (k : Nat) (h : (k + (x.Bits).length) ≤ 1099511627776) : FnOK Try.prog 85 ⟨1, [(0, some (.row 5 ((x.Bits).map bytK)))], [.agg [.v (.int .i64 x.N), .sl 0 1 0 (x.Bits).length], .c (.v (.int .i64 (k : Int)))], .c (.v (.int .i64 (((k + (x.Bits).length) : Nat) : Int))), [(0, some (.row 5 ((List.range (x.Bits).length).map (bytQ k))))], 1⟩ := by
  obtain ⟨xN, xBits⟩ := x
  dsimp only at h
  dsimp only
  refine fnOK_of true mixed Try.func85 rfl (by rfl) (by rfl) ?_
  have hres := congrArg Array.toList Try.results85
  simp only [Try.ntmps85, BGB, seval]
  (have gx := @range_len; have q1 := markByteS_k xBits k; refine go ?_; (repeat' (first | exact Ef.mk | refine Lf.mk ?_ ?_ | refine fun (K : KT) hK hE hT => ?_ | refine fun (KS : Eff → Prop) hKS => ?_ | refine fun (D : List Keys → Prop) hD => ?_ | refine fun (hg : (_ : Prop)) => ?_ | fail)); all_goals (first | (refine Wr.mk ?_; (try clear gx); (try clear q1); repeat (first | (clear hK hE hT; clear K) | (clear hR hE hT; clear K))) | assumption | skip))
  (refine post_a hres (.inl rfl) ?_; simp only [RSB, ENB, seval, tiAll, true_and]; simp only [MAB, seval]; refine ⟨rfl, rfl, ?_, ?_, ?_⟩ <;> (first | rfl | (simp [WKB, Nat.add_comm, true_and]; done) | (simp only [WKB, seval])))

set_option maxHeartbeats 2000000 in
theorem heldSet_k (x : SetD) (k : Nat) (h : (k + (x.Bits).length) ≤ 1099511627776) : FnOK Try.prog 86 ⟨1, [(0, some (.ro ((List.range (x.Bits).length).map (bytQ k))))], [.agg [.v (.int .i64 x.N), .sl 0 1 0 (x.Bits).length], .c (.v (.int .i64 (k : Int)))], .c (.v (.int .i64 (((k + (x.Bits).length) : Nat) : Int))), [], 1⟩ := by
  obtain ⟨xN, xBits⟩ := x
  dsimp only at h
  dsimp only
  refine fnOK_of true mixed Try.func86 rfl (by rfl) (by rfl) ?_
  have hres := congrArg Array.toList Try.results86
  simp only [Try.ntmps86, BGB, seval]
  (have gx := @range_len; have q1 := heldByteS_k (xBits).length k; refine go ?_; (repeat' (first | exact Ef.mk | refine Lf.mk ?_ ?_ | refine fun (K : KT) hK hE hT => ?_ | refine fun (KS : Eff → Prop) hKS => ?_ | refine fun (D : List Keys → Prop) hD => ?_ | refine fun (hg : (_ : Prop)) => ?_ | fail)); all_goals (first | (refine Wr.mk ?_; (try clear gx); (try clear q1); repeat (first | (clear hK hE hT; clear K) | (clear hR hE hT; clear K))) | assumption | skip))
  (refine post_a hres (.inl rfl) ?_; simp only [RSB, ENB, seval, tiAll, true_and]; simp only [MAB, seval]; refine ⟨rfl, rfl, ?_, ?_, ?_⟩ <;> (first | rfl | (simp [WKB, Nat.add_comm, true_and]; done) | (simp only [WKB, seval])))

set_option maxHeartbeats 4000000 in
theorem szSet_k (x : SetD) (b : Nat) (h : (x.Bits).length ≤ 9223372036854775807) (hb : b ≤ 1048576) : FnOK Try.prog 73 ⟨1, [(0, some (.ro ((x.Bits).map bytK)))], [.agg [.v (.int .i64 x.N), .sl 0 1 0 (x.Bits).length], .c (.v (.int .i64 (b : Int)))], .c (.v (.int .i64 (szL b ((x.Bits).length)))), [], 1⟩ := by
  obtain ⟨xN, xBits⟩ := x
  dsimp only at h
  dsimp only
  refine fnOK_of true mixed Try.func73 rfl (by rfl) (by rfl) ?_
  have hres := congrArg Array.toList Try.results73
  simp only [Try.ntmps73, BGB, seval]
  rcases Nat.lt_or_ge b ((xBits).length) with c0 | c0
  · have e0 : szL b ((xBits).length) = -1 := szL_neg _ _ c0
    have e : szL b ((xBits).length) = -1 := szL_neg _ _ (by omega)
    (have gx := @e0; have q1 := szByteS_k (xBits).length (b) ((xBits).map bytK) (by simp); refine go ?_; (repeat' (first | exact Ef.mk | refine Lf.mk ?_ ?_ | refine fun (K : KT) hK hE hT => ?_ | refine fun (KS : Eff → Prop) hKS => ?_ | refine fun (D : List Keys → Prop) hD => ?_ | refine fun (hg : (_ : Prop)) => ?_ | fail)); all_goals (first | (refine Wr.mk ?_; (try clear gx); (try clear q1); repeat (first | (clear hK hE hT; clear K) | (clear hR hE hT; clear K))) | assumption | skip))
    (refine post_a hres (.inl rfl) ?_; simp only [RSB, ENB, seval, tiAll, e, e0]; simp only [MAB, seval]; refine ⟨rfl, rfl, ?_, ?_, ?_⟩ <;> (first | rfl | (simp [WKB, Nat.add_comm, e, e0]; done) | (simp only [WKB, seval])))
  · have e0 : szL b ((xBits).length) = ((b - ((xBits).length) : Nat) : Int) := szL_sub _ _ c0
    (have gx := @e0; have q1 := szByteS_k (xBits).length (b) ((xBits).map bytK) (by simp); refine go ?_; (repeat' (first | exact Ef.mk | refine Lf.mk ?_ ?_ | refine fun (K : KT) hK hE hT => ?_ | refine fun (KS : Eff → Prop) hKS => ?_ | refine fun (D : List Keys → Prop) hD => ?_ | refine fun (hg : (_ : Prop)) => ?_ | fail)); all_goals (first | (refine Wr.mk ?_; (try clear gx); (try clear q1); repeat (first | (clear hK hE hT; clear K) | (clear hR hE hT; clear K))) | assumption | skip))
    (refine post_a hres (.inl rfl) ?_; simp only [RSB, ENB, seval, tiAll, e0, szL_sub b ((xBits).length) (by omega)]; simp only [MAB, seval]; refine ⟨rfl, rfl, ?_, ?_, ?_⟩ <;> (first | rfl | (simp [WKB, Nat.add_comm, e0, szL_sub b ((xBits).length) (by omega)]; done) | (simp only [WKB, seval])))
    all_goals (refine congrArg (fun z => SV.c (CV.v (Value.int .i64 z))) ?_; omega)

set_option maxHeartbeats 2000000 in
theorem toRun_k (x : RunD) (h : (x.Vals).length ≤ 1048576 ∧ (x.EVals).length ≤ 1048576 ∧ (x.Next.Bits).length ≤ 1048576) : FnOK Try.prog 35 ⟨3, [(0, some (.ro ((x.Vals).map intK))), (1, some (.ro ((x.EVals).map intK))), (2, some (.ro ((x.Next.Bits).map bytK)))], [.agg [.v (.int .i64 x.Job.Prog), .v (.int .i64 x.Job.Src), .v (.int .i64 x.Iter), .v (.bool x.Done), .sl 0 1 0 (x.Vals).length, .sl 1 1 0 (x.EVals).length, .v (.int .i64 x.Next.N), .sl 2 1 0 (x.Next.Bits).length]], .agg [.v (.int .i64 x.Job.Prog), .v (.int .i64 x.Job.Src), .v (.int .i64 x.Iter), .v (.bool x.Done), .sl 3 1 0 (x.Vals).length, .sl 4 1 0 (x.EVals).length, .v (.int .i64 x.Next.N), .sl 5 1 0 (x.Next.Bits).length], [(3, some (.row 3 ((x.Vals).map intK))), (4, some (.row 3 ((x.EVals).map intK))), (5, some (.row 5 ((x.Next.Bits).map bytK)))], 6⟩ := by
  obtain ⟨⟨xJobProg, xJobSrc⟩, xIter, xDone, xVals, xEVals, ⟨xNextN, xNextBits⟩⟩ := x
  dsimp only at h
  obtain ⟨h0, h1, h2⟩ := h
  dsimp only
  refine fnOK_of true mixed Try.func35 rfl (by rfl) (by rfl) ?_
  have hres := congrArg Array.toList Try.results35
  simp only [Try.ntmps35, BGB, seval]
  (have gx := @JobD.s.eq_1; have q1 := toJob_k ⟨xJobProg, xJobSrc⟩; have q2 := toIntS_k xVals; have q3 := toIntS_k xEVals; have q4 := toSet_k ⟨xNextN, xNextBits⟩; refine go ?_; (repeat' (first | exact Ef.mk | refine Lf.mk ?_ ?_ | refine fun (K : KT) hK hE hT => ?_ | refine fun (KS : Eff → Prop) hKS => ?_ | refine fun (D : List Keys → Prop) hD => ?_ | refine fun (hg : (_ : Prop)) => ?_ | fail)); all_goals (first | (refine Wr.mk ?_; (try clear gx); (try clear q1 q2 q3 q4); repeat (first | (clear hK hE hT; clear K) | (clear hR hE hT; clear K))) | assumption | skip))
  (refine post_a hres (.inl rfl) ?_; simp only [RSB, ENB, seval, tiAll, true_and]; simp only [MAB, seval]; refine ⟨rfl, rfl, ?_, ?_, ?_⟩ <;> (first | rfl | (simp [WKB, Nat.add_comm, true_and]; done) | (simp only [WKB, seval])))

set_option maxHeartbeats 2000000 in
theorem eqRun_k (x y : RunD) (h : (x.Vals).length ≤ 1048576 ∧ (x.EVals).length ≤ 1048576 ∧ (x.Next.Bits).length ≤ 1048576) (k : (y.Vals).length ≤ 1048576 ∧ (y.EVals).length ≤ 1048576 ∧ (y.Next.Bits).length ≤ 1048576) : FnOK Try.prog 29 ⟨6, [(0, some (.ro ((x.Vals).map intK))), (1, some (.ro ((x.EVals).map intK))), (2, some (.ro ((x.Next.Bits).map bytK))), (3, some (.ro ((y.Vals).map intK))), (4, some (.ro ((y.EVals).map intK))), (5, some (.ro ((y.Next.Bits).map bytK)))], [.agg [.v (.int .i64 x.Job.Prog), .v (.int .i64 x.Job.Src), .v (.int .i64 x.Iter), .v (.bool x.Done), .sl 0 1 0 (x.Vals).length, .sl 1 1 0 (x.EVals).length, .v (.int .i64 x.Next.N), .sl 2 1 0 (x.Next.Bits).length], .agg [.v (.int .i64 y.Job.Prog), .v (.int .i64 y.Job.Src), .v (.int .i64 y.Iter), .v (.bool y.Done), .sl 3 1 0 (y.Vals).length, .sl 4 1 0 (y.EVals).length, .v (.int .i64 y.Next.N), .sl 5 1 0 (y.Next.Bits).length]], .c (.v (.bool (decide (x = y)))), [], 6⟩ := by
  obtain ⟨⟨xJobProg, xJobSrc⟩, xIter, xDone, xVals, xEVals, ⟨xNextN, xNextBits⟩⟩ := x
  obtain ⟨⟨yJobProg, yJobSrc⟩, yIter, yDone, yVals, yEVals, ⟨yNextN, yNextBits⟩⟩ := y
  simp only [RunD.mk.injEq, JobD.mk.injEq, SetD.mk.injEq]
  dsimp only at h k
  obtain ⟨h0, h1, h2⟩ := h
  obtain ⟨k0, k1, k2⟩ := k
  refine fnOK_of true mixed Try.func29 rfl (by rfl) (by rfl) ?_
  have hres := congrArg Array.toList Try.results29
  simp only [Try.ntmps29, BGB, seval]
  (have gx := @JobD.s.eq_1; have q1 := eqJob_k ⟨xJobProg, xJobSrc⟩ ⟨yJobProg, yJobSrc⟩; have q2 := eqIntS_k xVals yVals; have q3 := eqIntS_k xEVals yEVals; have q4 := eqSet_k ⟨xNextN, xNextBits⟩ ⟨yNextN, yNextBits⟩; refine go ?_; (repeat' (first | exact Ef.mk | refine Lf.mk ?_ ?_ | refine fun (K : KT) hK hE hT => ?_ | refine fun (KS : Eff → Prop) hKS => ?_ | refine fun (D : List Keys → Prop) hD => ?_ | refine fun (hg : (_ : Prop)) => ?_ | fail)); all_goals (first | (refine Wr.mk ?_; (try clear gx); (try clear q1 q2 q3 q4); repeat (first | (clear hK hE hT; clear K) | (clear hR hE hT; clear K))) | assumption | skip))
  all_goals (try simp only [RunD.mk.injEq, JobD.mk.injEq, SetD.mk.injEq, not_and] at *)
  all_goals (refine post_a hres (.inl rfl) ?_; simp only [RSB, ENB, seval, tiAll, *]; simp only [MAB, seval]; refine ⟨rfl, rfl, ?_, ?_, ?_⟩ <;> (first | rfl | (simp [WKB, Nat.add_comm, *]; done) | (simp only [WKB, seval])))
  all_goals (refine congrArg (fun b => SV.c (CV.v (Value.bool b))) ?_; symm; simp only [decide_eq_false_iff_not, decide_eq_true_eq]; (intro h; simp_all))

set_option maxHeartbeats 2000000 in
theorem markRun_k (x : RunD) (k : Nat) (h : (((k + (x.Vals).length) + (x.EVals).length) + (x.Next.Bits).length) ≤ 1099511627776) : FnOK Try.prog 31 ⟨3, [(0, some (.row 3 ((x.Vals).map intK))), (1, some (.row 3 ((x.EVals).map intK))), (2, some (.row 5 ((x.Next.Bits).map bytK)))], [.agg [.v (.int .i64 x.Job.Prog), .v (.int .i64 x.Job.Src), .v (.int .i64 x.Iter), .v (.bool x.Done), .sl 0 1 0 (x.Vals).length, .sl 1 1 0 (x.EVals).length, .v (.int .i64 x.Next.N), .sl 2 1 0 (x.Next.Bits).length], .c (.v (.int .i64 (k : Int)))], .c (.v (.int .i64 (((((k + (x.Vals).length) + (x.EVals).length) + (x.Next.Bits).length) : Nat) : Int))), [(0, some (.row 3 ((List.range (x.Vals).length).map (intQ k)))), (1, some (.row 3 ((List.range (x.EVals).length).map (intQ (k + (x.Vals).length))))), (2, some (.row 5 ((List.range (x.Next.Bits).length).map (bytQ ((k + (x.Vals).length) + (x.EVals).length)))))], 3⟩ := by
  obtain ⟨⟨xJobProg, xJobSrc⟩, xIter, xDone, xVals, xEVals, ⟨xNextN, xNextBits⟩⟩ := x
  dsimp only at h
  dsimp only
  refine fnOK_of true mixed Try.func31 rfl (by rfl) (by rfl) ?_
  have hres := congrArg Array.toList Try.results31
  simp only [Try.ntmps31, BGB, seval]
  (have gx := @range_len; have q1 := markIntS_k xVals k; have q2 := markIntS_k xEVals (k + (xVals).length); have q3 := markSet_k ⟨xNextN, xNextBits⟩ ((k + (xVals).length) + (xEVals).length) (by dsimp only; omega); refine go ?_; (repeat' (first | exact Ef.mk | refine Lf.mk ?_ ?_ | refine fun (K : KT) hK hE hT => ?_ | refine fun (KS : Eff → Prop) hKS => ?_ | refine fun (D : List Keys → Prop) hD => ?_ | refine fun (hg : (_ : Prop)) => ?_ | fail)); all_goals (first | (refine Wr.mk ?_; (try clear gx); (try clear q1 q2 q3); repeat (first | (clear hK hE hT; clear K) | (clear hR hE hT; clear K))) | assumption | skip))
  (refine post_a hres (.inl rfl) ?_; simp only [RSB, ENB, seval, tiAll, true_and]; simp only [MAB, seval]; refine ⟨rfl, rfl, ?_, ?_, ?_⟩ <;> (first | rfl | (simp [WKB, Nat.add_comm, true_and]; done) | (simp only [WKB, seval])))

set_option maxHeartbeats 2000000 in
theorem heldRun_k (x : RunD) (k : Nat) (h : (((k + (x.Vals).length) + (x.EVals).length) + (x.Next.Bits).length) ≤ 1099511627776) : FnOK Try.prog 32 ⟨3, [(0, some (.ro ((List.range (x.Vals).length).map (intQ k)))), (1, some (.ro ((List.range (x.EVals).length).map (intQ (k + (x.Vals).length))))), (2, some (.ro ((List.range (x.Next.Bits).length).map (bytQ ((k + (x.Vals).length) + (x.EVals).length)))))], [.agg [.v (.int .i64 x.Job.Prog), .v (.int .i64 x.Job.Src), .v (.int .i64 x.Iter), .v (.bool x.Done), .sl 0 1 0 (x.Vals).length, .sl 1 1 0 (x.EVals).length, .v (.int .i64 x.Next.N), .sl 2 1 0 (x.Next.Bits).length], .c (.v (.int .i64 (k : Int)))], .c (.v (.int .i64 (((((k + (x.Vals).length) + (x.EVals).length) + (x.Next.Bits).length) : Nat) : Int))), [], 3⟩ := by
  obtain ⟨⟨xJobProg, xJobSrc⟩, xIter, xDone, xVals, xEVals, ⟨xNextN, xNextBits⟩⟩ := x
  dsimp only at h
  dsimp only
  refine fnOK_of true mixed Try.func32 rfl (by rfl) (by rfl) ?_
  have hres := congrArg Array.toList Try.results32
  simp only [Try.ntmps32, BGB, seval]
  (have gx := @range_len; have q1 := heldIntS_k (xVals).length k; have q2 := heldIntS_k (xEVals).length (k + (xVals).length); have q3 := heldSet_k ⟨xNextN, xNextBits⟩ ((k + (xVals).length) + (xEVals).length) (by dsimp only; omega); refine go ?_; (repeat' (first | exact Ef.mk | refine Lf.mk ?_ ?_ | refine fun (K : KT) hK hE hT => ?_ | refine fun (KS : Eff → Prop) hKS => ?_ | refine fun (D : List Keys → Prop) hD => ?_ | refine fun (hg : (_ : Prop)) => ?_ | fail)); all_goals (first | (refine Wr.mk ?_; (try clear gx); (try clear q1 q2 q3); repeat (first | (clear hK hE hT; clear K) | (clear hR hE hT; clear K))) | assumption | skip))
  (refine post_a hres (.inl rfl) ?_; simp only [RSB, ENB, seval, tiAll, true_and]; simp only [MAB, seval]; refine ⟨rfl, rfl, ?_, ?_, ?_⟩ <;> (first | rfl | (simp [WKB, Nat.add_comm, true_and]; done) | (simp only [WKB, seval])))

set_option maxHeartbeats 4000000 in
theorem szRun_k (x : RunD) (b : Nat) (h : (x.Vals).length ≤ 9223372036854775807 ∧ (x.EVals).length ≤ 9223372036854775807 ∧ (x.Next.Bits).length ≤ 9223372036854775807) (hb : b ≤ 1048576) : FnOK Try.prog 33 ⟨3, [(0, some (.ro ((x.Vals).map intK))), (1, some (.ro ((x.EVals).map intK))), (2, some (.ro ((x.Next.Bits).map bytK)))], [.agg [.v (.int .i64 x.Job.Prog), .v (.int .i64 x.Job.Src), .v (.int .i64 x.Iter), .v (.bool x.Done), .sl 0 1 0 (x.Vals).length, .sl 1 1 0 (x.EVals).length, .v (.int .i64 x.Next.N), .sl 2 1 0 (x.Next.Bits).length], .c (.v (.int .i64 (b : Int)))], .c (.v (.int .i64 (szL b ((x.Vals).length + (x.EVals).length + (x.Next.Bits).length)))), [], 3⟩ := by
  obtain ⟨⟨xJobProg, xJobSrc⟩, xIter, xDone, xVals, xEVals, ⟨xNextN, xNextBits⟩⟩ := x
  dsimp only at h
  obtain ⟨h0, h1, h2⟩ := h
  dsimp only
  refine fnOK_of true mixed Try.func33 rfl (by rfl) (by rfl) ?_
  have hres := congrArg Array.toList Try.results33
  simp only [Try.ntmps33, BGB, seval]
  rcases Nat.lt_or_ge b ((xVals).length) with c0 | c0
  · have e0 : szL b ((xVals).length) = -1 := szL_neg _ _ c0
    have e : szL b ((xVals).length + (xEVals).length + (xNextBits).length) = -1 := szL_neg _ _ (by omega)
    (have gx := @e0; have q1 := szIntS_k (xVals).length (b) ((xVals).map intK) (by simp); have q2 := szIntS_k (xEVals).length (b - (xVals).length) ((xEVals).map intK) (by simp); have q3 := szSet_k ⟨xNextN, xNextBits⟩ (b - (xVals).length - (xEVals).length) (by dsimp only; omega); refine go ?_; (repeat' (first | exact Ef.mk | refine Lf.mk ?_ ?_ | refine fun (K : KT) hK hE hT => ?_ | refine fun (KS : Eff → Prop) hKS => ?_ | refine fun (D : List Keys → Prop) hD => ?_ | refine fun (hg : (_ : Prop)) => ?_ | fail)); all_goals (first | (refine Wr.mk ?_; (try clear gx); (try clear q1 q2 q3); repeat (first | (clear hK hE hT; clear K) | (clear hR hE hT; clear K))) | assumption | skip))
    (refine post_a hres (.inl rfl) ?_; simp only [RSB, ENB, seval, tiAll, e, e0]; simp only [MAB, seval]; refine ⟨rfl, rfl, ?_, ?_, ?_⟩ <;> (first | rfl | (simp [WKB, Nat.add_comm, e, e0]; done) | (simp only [WKB, seval])))
  · have e0 : szL b ((xVals).length) = ((b - ((xVals).length) : Nat) : Int) := szL_sub _ _ c0
    rcases Nat.lt_or_ge (b - (xVals).length) ((xEVals).length) with c1 | c1
    · have e1 : szL (b - (xVals).length) ((xEVals).length) = -1 := szL_neg _ _ c1
      have e : szL b ((xVals).length + (xEVals).length + (xNextBits).length) = -1 := szL_neg _ _ (by omega)
      (have gx := And.intro @e0 @e1; have q1 := szIntS_k (xVals).length (b) ((xVals).map intK) (by simp); have q2 := szIntS_k (xEVals).length (b - (xVals).length) ((xEVals).map intK) (by simp); have q3 := szSet_k ⟨xNextN, xNextBits⟩ (b - (xVals).length - (xEVals).length) (by dsimp only; omega); refine go ?_; (repeat' (first | exact Ef.mk | refine Lf.mk ?_ ?_ | refine fun (K : KT) hK hE hT => ?_ | refine fun (KS : Eff → Prop) hKS => ?_ | refine fun (D : List Keys → Prop) hD => ?_ | refine fun (hg : (_ : Prop)) => ?_ | fail)); all_goals (first | (refine Wr.mk ?_; (try clear gx); (try clear q1 q2 q3); repeat (first | (clear hK hE hT; clear K) | (clear hR hE hT; clear K))) | assumption | skip))
      (refine post_a hres (.inl rfl) ?_; simp only [RSB, ENB, seval, tiAll, e, e1]; simp only [MAB, seval]; refine ⟨rfl, rfl, ?_, ?_, ?_⟩ <;> (first | rfl | (simp [WKB, Nat.add_comm, e, e1]; done) | (simp only [WKB, seval])))
    · have e1 : szL (b - (xVals).length) ((xEVals).length) = (((b - (xVals).length) - ((xEVals).length) : Nat) : Int) := szL_sub _ _ c1
      rcases Nat.lt_or_ge (b - (xVals).length - (xEVals).length) ((xNextBits).length) with c2 | c2
      · have e2 : szL (b - (xVals).length - (xEVals).length) ((xNextBits).length) = -1 := szL_neg _ _ c2
        have e : szL b ((xVals).length + (xEVals).length + (xNextBits).length) = -1 := szL_neg _ _ (by omega)
        (have gx := And.intro (@e0) (And.intro @e1 @e2); have q1 := szIntS_k (xVals).length (b) ((xVals).map intK) (by simp); have q2 := szIntS_k (xEVals).length (b - (xVals).length) ((xEVals).map intK) (by simp); have q3 := szSet_k ⟨xNextN, xNextBits⟩ (b - (xVals).length - (xEVals).length) (by dsimp only; omega); refine go ?_; (repeat' (first | exact Ef.mk | refine Lf.mk ?_ ?_ | refine fun (K : KT) hK hE hT => ?_ | refine fun (KS : Eff → Prop) hKS => ?_ | refine fun (D : List Keys → Prop) hD => ?_ | refine fun (hg : (_ : Prop)) => ?_ | fail)); all_goals (first | (refine Wr.mk ?_; (try clear gx); (try clear q1 q2 q3); repeat (first | (clear hK hE hT; clear K) | (clear hR hE hT; clear K))) | assumption | skip))
        (refine post_a hres (.inl rfl) ?_; simp only [RSB, ENB, seval, tiAll, e, e2]; simp only [MAB, seval]; refine ⟨rfl, rfl, ?_, ?_, ?_⟩ <;> (first | rfl | (simp [WKB, Nat.add_comm, e, e2]; done) | (simp only [WKB, seval])))
      · have e2 : szL (b - (xVals).length - (xEVals).length) ((xNextBits).length) = (((b - (xVals).length - (xEVals).length) - ((xNextBits).length) : Nat) : Int) := szL_sub _ _ c2
        (have gx := And.intro (@e0) (And.intro @e1 @e2); have q1 := szIntS_k (xVals).length (b) ((xVals).map intK) (by simp); have q2 := szIntS_k (xEVals).length (b - (xVals).length) ((xEVals).map intK) (by simp); have q3 := szSet_k ⟨xNextN, xNextBits⟩ (b - (xVals).length - (xEVals).length) (by dsimp only; omega); refine go ?_; (repeat' (first | exact Ef.mk | refine Lf.mk ?_ ?_ | refine fun (K : KT) hK hE hT => ?_ | refine fun (KS : Eff → Prop) hKS => ?_ | refine fun (D : List Keys → Prop) hD => ?_ | refine fun (hg : (_ : Prop)) => ?_ | fail)); all_goals (first | (refine Wr.mk ?_; (try clear gx); (try clear q1 q2 q3); repeat (first | (clear hK hE hT; clear K) | (clear hR hE hT; clear K))) | assumption | skip))
        (refine post_a hres (.inl rfl) ?_; simp only [RSB, ENB, seval, tiAll, e0, e1, e2, szL_sub b ((xVals).length + (xEVals).length + (xNextBits).length) (by omega)]; simp only [MAB, seval]; refine ⟨rfl, rfl, ?_, ?_, ?_⟩ <;> (first | rfl | (simp [WKB, Nat.add_comm, e0, e1, e2, szL_sub b ((xVals).length + (xEVals).length + (xNextBits).length) (by omega)]; done) | (simp only [WKB, seval])))
        all_goals (refine congrArg (fun z => SV.c (CV.v (Value.int .i64 z))) ?_; omega)

end Go.Proofs.Ytfkpmhnfpljakaa
