/-
  Contracts of the law's helpers for Shard. No conditions of its own.
-/
import Derived.Test.YtfkpmhnfpljakaaGO
import Derived.Test.YtfkpmhnfpljakaaG0
import Derived.Test.YtfkpmhnfpljakaaG1
namespace Go.Proofs.Ytfkpmhnfpljakaa
set_option linter.unusedSimpArgs false
set_option linter.unusedVariables false
set_option linter.unusedSimpArgs false
set_option linter.unusedVariables false
set_option linter.defProp false
open Go.RowKit

structure ShardD where
  Lo : Int
  Hi : Int
  Edges : List SEdgeD
deriving DecidableEq

set_option maxHeartbeats 2000000 in
theorem toShard_k (x : ShardD) (h : (x.Edges).length ≤ 1048576) : FnOK Try.prog 120 ⟨1, [(0, some (.ro ((x.Edges).map SEdgeD.k)))], [.agg [.v (.int .i64 x.Lo), .v (.int .i64 x.Hi), .sl 0 5 0 (x.Edges).length]], .agg [.v (.int .i64 x.Lo), .v (.int .i64 x.Hi), .sl 1 5 0 (x.Edges).length], [(1, some (.row 98 ((x.Edges).map SEdgeD.k)))], 2⟩ := by
  obtain ⟨xLo, xHi, xEdges⟩ := x
  dsimp only at h
  dsimp only
  refine fnOK_of true mixed Try.func120 rfl (by rfl) (by rfl) ?_
  have hres := congrArg Array.toList Try.results120
  simp only [Try.ntmps120, BGB, seval]
  (have gx := true_and True; have q1 := toSEdgeS_k xEdges; refine go ?_; (repeat' (first | exact Ef.mk | refine Lf.mk ?_ ?_ | refine fun (K : KT) hK hE hT => ?_ | refine fun (KS : Eff → Prop) hKS => ?_ | refine fun (D : List Keys → Prop) hD => ?_ | refine fun (hg : (_ : Prop)) => ?_ | fail)); all_goals (first | (refine Wr.mk ?_; (try clear gx); (try clear q1); repeat (first | (clear hK hE hT; clear K) | (clear hR hE hT; clear K))) | assumption | skip))
  (refine post_a hres (.inl rfl) ?_; simp only [RSB, ENB, seval, tiAll, true_and]; simp only [MAB, seval]; refine ⟨rfl, rfl, ?_, ?_, ?_⟩ <;> (first | rfl | (simp [WKB, Nat.add_comm, true_and]; done) | (simp only [WKB, seval])))

set_option maxHeartbeats 2000000 in
theorem eqShard_k (x y : ShardD) (h : (x.Edges).length ≤ 1048576) (k : (y.Edges).length ≤ 1048576) : FnOK Try.prog 123 ⟨2, [(0, some (.ro ((x.Edges).map SEdgeD.k))), (1, some (.ro ((y.Edges).map SEdgeD.k)))], [.agg [.v (.int .i64 x.Lo), .v (.int .i64 x.Hi), .sl 0 5 0 (x.Edges).length], .agg [.v (.int .i64 y.Lo), .v (.int .i64 y.Hi), .sl 1 5 0 (y.Edges).length]], .c (.v (.bool (decide (x = y)))), [], 2⟩ := by
  obtain ⟨xLo, xHi, xEdges⟩ := x
  obtain ⟨yLo, yHi, yEdges⟩ := y
  simp only [ShardD.mk.injEq]
  dsimp only at h k
  refine fnOK_of true mixed Try.func123 rfl (by rfl) (by rfl) ?_
  have hres := congrArg Array.toList Try.results123
  simp only [Try.ntmps123, BGB, seval]
  (have gx := true_and True; have q1 := eqSEdgeS_k xEdges yEdges; refine go ?_; (repeat' (first | exact Ef.mk | refine Lf.mk ?_ ?_ | refine fun (K : KT) hK hE hT => ?_ | refine fun (KS : Eff → Prop) hKS => ?_ | refine fun (D : List Keys → Prop) hD => ?_ | refine fun (hg : (_ : Prop)) => ?_ | fail)); all_goals (first | (refine Wr.mk ?_; (try clear gx); (try clear q1); repeat (first | (clear hK hE hT; clear K) | (clear hR hE hT; clear K))) | assumption | skip))
  all_goals (try simp only [ShardD.mk.injEq, not_and] at *)
  all_goals (refine post_a hres (.inl rfl) ?_; simp only [RSB, ENB, seval, tiAll, *]; simp only [MAB, seval]; refine ⟨rfl, rfl, ?_, ?_, ?_⟩ <;> (first | rfl | (simp [WKB, Nat.add_comm, *]; done) | (simp only [WKB, seval])))
  all_goals (refine congrArg (fun b => SV.c (CV.v (Value.bool b))) ?_; symm; simp only [decide_eq_false_iff_not, decide_eq_true_eq]; (intro h; simp_all))

set_option maxHeartbeats 4000000 in
theorem szShard_k (x : ShardD) (b : Nat) (h : (x.Edges).length ≤ 9223372036854775807) (hb : b ≤ 1048576) : FnOK Try.prog 116 ⟨1, [(0, some (.ro ((x.Edges).map SEdgeD.k)))], [.agg [.v (.int .i64 x.Lo), .v (.int .i64 x.Hi), .sl 0 5 0 (x.Edges).length], .c (.v (.int .i64 (b : Int)))], .c (.v (.int .i64 (szL b ((x.Edges).length)))), [], 1⟩ := by
  obtain ⟨xLo, xHi, xEdges⟩ := x
  dsimp only at h
  dsimp only
  refine fnOK_of true mixed Try.func116 rfl (by rfl) (by rfl) ?_
  have hres := congrArg Array.toList Try.results116
  simp only [Try.ntmps116, BGB, seval]
  rcases Nat.lt_or_ge b ((xEdges).length) with c0 | c0
  · have e0 : szL b ((xEdges).length) = -1 := szL_neg _ _ c0
    have e : szL b ((xEdges).length) = -1 := szL_neg _ _ (by omega)
    (have gx := @e0; have q1 := szSEdgeS_k (xEdges).length (b) ((xEdges).map SEdgeD.k) (by simp); refine go ?_; (repeat' (first | exact Ef.mk | refine Lf.mk ?_ ?_ | refine fun (K : KT) hK hE hT => ?_ | refine fun (KS : Eff → Prop) hKS => ?_ | refine fun (D : List Keys → Prop) hD => ?_ | refine fun (hg : (_ : Prop)) => ?_ | fail)); all_goals (first | (refine Wr.mk ?_; (try clear gx); (try clear q1); repeat (first | (clear hK hE hT; clear K) | (clear hR hE hT; clear K))) | assumption | skip))
    (refine post_a hres (.inl rfl) ?_; simp only [RSB, ENB, seval, tiAll, e, e0]; simp only [MAB, seval]; refine ⟨rfl, rfl, ?_, ?_, ?_⟩ <;> (first | rfl | (simp [WKB, Nat.add_comm, e, e0]; done) | (simp only [WKB, seval])))
  · have e0 : szL b ((xEdges).length) = ((b - ((xEdges).length) : Nat) : Int) := szL_sub _ _ c0
    (have gx := @e0; have q1 := szSEdgeS_k (xEdges).length (b) ((xEdges).map SEdgeD.k) (by simp); refine go ?_; (repeat' (first | exact Ef.mk | refine Lf.mk ?_ ?_ | refine fun (K : KT) hK hE hT => ?_ | refine fun (KS : Eff → Prop) hKS => ?_ | refine fun (D : List Keys → Prop) hD => ?_ | refine fun (hg : (_ : Prop)) => ?_ | fail)); all_goals (first | (refine Wr.mk ?_; (try clear gx); (try clear q1); repeat (first | (clear hK hE hT; clear K) | (clear hR hE hT; clear K))) | assumption | skip))
    (refine post_a hres (.inl rfl) ?_; simp only [RSB, ENB, seval, tiAll, e0, szL_sub b ((xEdges).length) (by omega)]; simp only [MAB, seval]; refine ⟨rfl, rfl, ?_, ?_, ?_⟩ <;> (first | rfl | (simp [WKB, Nat.add_comm, e0, szL_sub b ((xEdges).length) (by omega)]; done) | (simp only [WKB, seval])))
    all_goals (refine congrArg (fun z => SV.c (CV.v (Value.int .i64 z))) ?_; omega)

end Go.Proofs.Ytfkpmhnfpljakaa