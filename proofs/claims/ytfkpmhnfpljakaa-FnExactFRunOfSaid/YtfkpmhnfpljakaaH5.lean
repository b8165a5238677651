/-
  Contracts of the law's helpers for Farm. No conditions of its own.
-/
import Derived.Test.YtfkpmhnfpljakaaGO
import Derived.Test.YtfkpmhnfpljakaaN1
namespace Go.Proofs.Ytfkpmhnfpljakaa
set_option linter.unusedSimpArgs false
set_option linter.unusedVariables false
set_option linter.unusedSimpArgs false
set_option linter.unusedVariables false
set_option linter.defProp false
open Go.RowKit

structure FarmD where
  N : Int
  Ends : List Int
  Shards : List ShardD
deriving DecidableEq

set_option maxHeartbeats 2000000 in
theorem toFarm_k (x : FarmD) (h : (x.Ends).length ≤ 1048576 ∧ (x.Shards).length ≤ 1048576 ∧ (∀ s ∈ x.Shards, s.Edges.length ≤ 1048576)) : FnOK Try.prog 14 ⟨2, [(0, some (.ro ((x.Ends).map intK))), (1, some (.ro ((x.Shards).map (ShardD.k 159))))], [.agg [.v (.int .i64 x.N), .sl 0 1 0 (x.Ends).length, .sl 1 3 0 (x.Shards).length]], .agg [.v (.int .i64 x.N), .sl 2 1 0 (x.Ends).length, .sl 3 3 0 (x.Shards).length], [(2, some (.row 3 ((x.Ends).map intK))), (3, some (.nst 107 ((x.Shards).map (ShardD.k 98)) none))], 4⟩ := by
  obtain ⟨xN, xEnds, xShards⟩ := x
  dsimp only at h
  obtain ⟨h0, h1, h2⟩ := h
  dsimp only
  refine fnOK_of true mixed Try.func14 rfl (by rfl) (by rfl) ?_
  have hres := congrArg Array.toList Try.results14
  simp only [Try.ntmps14, BGB, seval]
  (have gx := true_and True; have q1 := toIntS_k xEnds; have q2 := toShardS_k xShards (by omega) (by assumption); refine go ?_; (repeat' (first | exact Ef.mk | refine Lf.mk ?_ ?_ | refine fun (K : KT) hK hE hT => ?_ | refine fun (KS : Eff → Prop) hKS => ?_ | refine fun (D : List Keys → Prop) hD => ?_ | refine fun (hg : (_ : Prop)) => ?_ | fail)); all_goals (first | (refine Wr.mk ?_; (try clear gx); (try clear q1 q2); repeat (first | (clear hK hE hT; clear K) | (clear hR hE hT; clear K))) | assumption | skip))
  (refine post_a hres (.inl rfl) ?_; simp only [RSB, ENB, seval, tiAll, true_and]; simp only [MAB, seval]; refine ⟨rfl, rfl, ?_, ?_, ?_⟩ <;> (first | rfl | (simp [WKB, Nat.add_comm, true_and]; done) | (simp only [WKB, seval])))

set_option maxHeartbeats 2000000 in
theorem eqFarm_k (x y : FarmD) (h : (x.Ends).length ≤ 1048576 ∧ (x.Shards).length ≤ 1048576 ∧ (∀ s ∈ x.Shards, s.Edges.length ≤ 1048576)) (k : (y.Ends).length ≤ 1048576 ∧ (y.Shards).length ≤ 1048576 ∧ (∀ s ∈ y.Shards, s.Edges.length ≤ 1048576)) : FnOK Try.prog 17 ⟨4, [(0, some (.ro ((x.Ends).map intK))), (1, some (.ro ((x.Shards).map (ShardD.k 98)))), (2, some (.ro ((y.Ends).map intK))), (3, some (.ro ((y.Shards).map (ShardD.k 98))))], [.agg [.v (.int .i64 x.N), .sl 0 1 0 (x.Ends).length, .sl 1 3 0 (x.Shards).length], .agg [.v (.int .i64 y.N), .sl 2 1 0 (y.Ends).length, .sl 3 3 0 (y.Shards).length]], .c (.v (.bool (decide (x = y)))), [], 4⟩ := by
  obtain ⟨xN, xEnds, xShards⟩ := x
  obtain ⟨yN, yEnds, yShards⟩ := y
  simp only [FarmD.mk.injEq]
  dsimp only at h k
  obtain ⟨h0, h1, h2⟩ := h
  obtain ⟨k0, k1, k2⟩ := k
  refine fnOK_of true mixed Try.func17 rfl (by rfl) (by rfl) ?_
  have hres := congrArg Array.toList Try.results17
  simp only [Try.ntmps17, BGB, seval]
  (have gx := true_and True; have q1 := eqIntS_k xEnds yEnds; have q2 := eqShardS_k xShards yShards (by omega) (by omega) (by assumption) (by assumption); refine go ?_; (repeat' (first | exact Ef.mk | refine Lf.mk ?_ ?_ | refine fun (K : KT) hK hE hT => ?_ | refine fun (KS : Eff → Prop) hKS => ?_ | refine fun (D : List Keys → Prop) hD => ?_ | refine fun (hg : (_ : Prop)) => ?_ | fail)); all_goals (first | (refine Wr.mk ?_; (try clear gx); (try clear q1 q2); repeat (first | (clear hK hE hT; clear K) | (clear hR hE hT; clear K))) | assumption | skip))
  all_goals (try simp only [FarmD.mk.injEq, not_and] at *)
  all_goals (refine post_a hres (.inl rfl) ?_; simp only [RSB, ENB, seval, tiAll, *]; simp only [MAB, seval]; refine ⟨rfl, rfl, ?_, ?_, ?_⟩ <;> (first | rfl | (simp [WKB, Nat.add_comm, *]; done) | (simp only [WKB, seval])))
  all_goals (refine congrArg (fun b => SV.c (CV.v (Value.bool b))) ?_; symm; simp only [decide_eq_false_iff_not, decide_eq_true_eq]; (intro h; simp_all))

set_option maxHeartbeats 2000000 in
theorem markFarm_k (x : FarmD) (k : Nat) (h : ((k + (x.Ends).length) + shSum (x.Shards)) ≤ 1099511627776) : FnOK Try.prog 19 ⟨2, [(0, some (.row 3 ((x.Ends).map intK))), (1, some (.nst 107 ((x.Shards).map (ShardD.k 98)) none))], [.agg [.v (.int .i64 x.N), .sl 0 1 0 (x.Ends).length, .sl 1 3 0 (x.Shards).length], .c (.v (.int .i64 (k : Int)))], .c (.v (.int .i64 ((((k + (x.Ends).length) + shSum (x.Shards)) : Nat) : Int))), [(0, some (.row 3 ((List.range (x.Ends).length).map (intQ k)))), (1, some (.nst 107 ((List.range (x.Shards).length).map (shG 98 (k + (x.Ends).length) (x.Shards))) none))], 2⟩ := by
  obtain ⟨xN, xEnds, xShards⟩ := x
  dsimp only at h
  dsimp only
  refine fnOK_of true mixed Try.func19 rfl (by rfl) (by rfl) ?_
  have hres := congrArg Array.toList Try.results19
  simp only [Try.ntmps19, BGB, seval]
  (have gx := @range_len; have q1 := markIntS_k xEnds k; have q2 := markShardS_k xShards (k + (xEnds).length); refine go ?_; (repeat' (first | exact Ef.mk | refine Lf.mk ?_ ?_ | refine fun (K : KT) hK hE hT => ?_ | refine fun (KS : Eff → Prop) hKS => ?_ | refine fun (D : List Keys → Prop) hD => ?_ | refine fun (hg : (_ : Prop)) => ?_ | fail)); all_goals (first | (refine Wr.mk ?_; (try clear gx); (try clear q1 q2); repeat (first | (clear hK hE hT; clear K) | (clear hR hE hT; clear K))) | assumption | skip))
  (refine post_a hres (.inl rfl) ?_; simp only [RSB, ENB, seval, tiAll, true_and]; simp only [MAB, seval]; refine ⟨rfl, rfl, ?_, ?_, ?_⟩ <;> (first | rfl | (simp [WKB, Nat.add_comm, true_and]; done) | (simp only [WKB, seval])))

set_option maxHeartbeats 2000000 in
theorem heldFarm_k (x : FarmD) (k : Nat) (h : ((k + (x.Ends).length) + shSum (x.Shards)) ≤ 1099511627776) : FnOK Try.prog 21 ⟨2, [(0, some (.ro ((List.range (x.Ends).length).map (intQ k)))), (1, some (.ro ((List.range (x.Shards).length).map (shG 98 (k + (x.Ends).length) (x.Shards)))))], [.agg [.v (.int .i64 x.N), .sl 0 1 0 (x.Ends).length, .sl 1 3 0 (x.Shards).length], .c (.v (.int .i64 (k : Int)))], .c (.v (.int .i64 ((((k + (x.Ends).length) + shSum (x.Shards)) : Nat) : Int))), [], 2⟩ := by
  obtain ⟨xN, xEnds, xShards⟩ := x
  dsimp only at h
  dsimp only
  refine fnOK_of true mixed Try.func21 rfl (by rfl) (by rfl) ?_
  have hres := congrArg Array.toList Try.results21
  simp only [Try.ntmps21, BGB, seval]
  (have gx := @range_len; have q1 := heldIntS_k (xEnds).length k; have q2 := heldShardS_k xShards (k + (xEnds).length); refine go ?_; (repeat' (first | exact Ef.mk | refine Lf.mk ?_ ?_ | refine fun (K : KT) hK hE hT => ?_ | refine fun (KS : Eff → Prop) hKS => ?_ | refine fun (D : List Keys → Prop) hD => ?_ | refine fun (hg : (_ : Prop)) => ?_ | fail)); all_goals (first | (refine Wr.mk ?_; (try clear gx); (try clear q1 q2); repeat (first | (clear hK hE hT; clear K) | (clear hR hE hT; clear K))) | assumption | skip))
  (refine post_a hres (.inl rfl) ?_; simp only [RSB, ENB, seval, tiAll, true_and]; simp only [MAB, seval]; refine ⟨rfl, rfl, ?_, ?_, ?_⟩ <;> (first | rfl | (simp [WKB, Nat.add_comm, true_and]; done) | (simp only [WKB, seval])))

set_option maxHeartbeats 4000000 in
theorem szFarm_k (x : FarmD) (b : Nat) (h : (x.Ends).length ≤ 9223372036854775807 ∧ (x.Shards).length ≤ 9223372036854775807 ∧ (∀ s ∈ x.Shards, s.Edges.length ≤ 9223372036854775807)) (hb : b ≤ 1048576) : FnOK Try.prog 11 ⟨2, [(0, some (.ro ((x.Ends).map intK))), (1, some (.ro ((x.Shards).map (ShardD.k 159))))], [.agg [.v (.int .i64 x.N), .sl 0 1 0 (x.Ends).length, .sl 1 3 0 (x.Shards).length], .c (.v (.int .i64 (b : Int)))], .c (.v (.int .i64 (szL b ((x.Ends).length + ((x.Shards).length + edSum x.Shards))))), [], 2⟩ := by
  obtain ⟨xN, xEnds, xShards⟩ := x
  dsimp only at h
  obtain ⟨h0, h1, h2⟩ := h
  dsimp only
  refine fnOK_of true mixed Try.func11 rfl (by rfl) (by rfl) ?_
  have hres := congrArg Array.toList Try.results11
  simp only [Try.ntmps11, BGB, seval]
  rcases Nat.lt_or_ge b ((xEnds).length) with c0 | c0
  · have e0 : szL b ((xEnds).length) = -1 := szL_neg _ _ c0
    have e : szL b ((xEnds).length + ((xShards).length + edSum xShards)) = -1 := szL_neg _ _ (by omega)
    (have gx := @e0; have q1 := szIntS_k (xEnds).length (b) ((xEnds).map intK) (by simp); have q2 := szShardS_k xShards (b - (xEnds).length) 159 (by omega) (by assumption); refine go ?_; (repeat' (first | exact Ef.mk | refine Lf.mk ?_ ?_ | refine fun (K : KT) hK hE hT => ?_ | refine fun (KS : Eff → Prop) hKS => ?_ | refine fun (D : List Keys → Prop) hD => ?_ | refine fun (hg : (_ : Prop)) => ?_ | fail)); all_goals (first | (refine Wr.mk ?_; (try clear gx); (try clear q1 q2); repeat (first | (clear hK hE hT; clear K) | (clear hR hE hT; clear K))) | assumption | skip))
    (refine post_a hres (.inl rfl) ?_; simp only [RSB, ENB, seval, tiAll, e, e0]; simp only [MAB, seval]; refine ⟨rfl, rfl, ?_, ?_, ?_⟩ <;> (first | rfl | (simp [WKB, Nat.add_comm, e, e0]; done) | (simp only [WKB, seval])))
  · have e0 : szL b ((xEnds).length) = ((b - ((xEnds).length) : Nat) : Int) := szL_sub _ _ c0
    rcases Nat.lt_or_ge (b - (xEnds).length) (((xShards).length + edSum xShards)) with c1 | c1
    · have e1 : szL (b - (xEnds).length) (((xShards).length + edSum xShards)) = -1 := szL_neg _ _ c1
      have e : szL b ((xEnds).length + ((xShards).length + edSum xShards)) = -1 := szL_neg _ _ (by omega)
      (have gx := And.intro @e0 @e1; have q1 := szIntS_k (xEnds).length (b) ((xEnds).map intK) (by simp); have q2 := szShardS_k xShards (b - (xEnds).length) 159 (by omega) (by assumption); refine go ?_; (repeat' (first | exact Ef.mk | refine Lf.mk ?_ ?_ | refine fun (K : KT) hK hE hT => ?_ | refine fun (KS : Eff → Prop) hKS => ?_ | refine fun (D : List Keys → Prop) hD => ?_ | refine fun (hg : (_ : Prop)) => ?_ | fail)); all_goals (first | (refine Wr.mk ?_; (try clear gx); (try clear q1 q2); repeat (first | (clear hK hE hT; clear K) | (clear hR hE hT; clear K))) | assumption | skip))
      (refine post_a hres (.inl rfl) ?_; simp only [RSB, ENB, seval, tiAll, e, e1]; simp only [MAB, seval]; refine ⟨rfl, rfl, ?_, ?_, ?_⟩ <;> (first | rfl | (simp [WKB, Nat.add_comm, e, e1]; done) | (simp only [WKB, seval])))
    · have e1 : szL (b - (xEnds).length) (((xShards).length + edSum xShards)) = (((b - (xEnds).length) - (((xShards).length + edSum xShards)) : Nat) : Int) := szL_sub _ _ c1
      (have gx := And.intro @e0 @e1; have q1 := szIntS_k (xEnds).length (b) ((xEnds).map intK) (by simp); have q2 := szShardS_k xShards (b - (xEnds).length) 159 (by omega) (by assumption); refine go ?_; (repeat' (first | exact Ef.mk | refine Lf.mk ?_ ?_ | refine fun (K : KT) hK hE hT => ?_ | refine fun (KS : Eff → Prop) hKS => ?_ | refine fun (D : List Keys → Prop) hD => ?_ | refine fun (hg : (_ : Prop)) => ?_ | fail)); all_goals (first | (refine Wr.mk ?_; (try clear gx); (try clear q1 q2); repeat (first | (clear hK hE hT; clear K) | (clear hR hE hT; clear K))) | assumption | skip))
      (refine post_a hres (.inl rfl) ?_; simp only [RSB, ENB, seval, tiAll, e0, e1, szL_sub b ((xEnds).length + ((xShards).length + edSum xShards)) (by omega)]; simp only [MAB, seval]; refine ⟨rfl, rfl, ?_, ?_, ?_⟩ <;> (first | rfl | (simp [WKB, Nat.add_comm, e0, e1, szL_sub b ((xEnds).length + ((xShards).length + edSum xShards)) (by omega)]; done) | (simp only [WKB, seval])))
      all_goals (refine congrArg (fun z => SV.c (CV.v (Value.int .i64 z))) ?_; omega)

end Go.Proofs.Ytfkpmhnfpljakaa