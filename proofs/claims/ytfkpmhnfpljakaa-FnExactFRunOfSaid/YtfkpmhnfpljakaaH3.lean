/-
  Contracts of the law's helpers for Graph. No conditions of its own.
-/
import Derived.Test.YtfkpmhnfpljakaaGO
import Derived.Test.YtfkpmhnfpljakaaH3d
import Derived.Test.YtfkpmhnfpljakaaG0
import Derived.Test.YtfkpmhnfpljakaaG4
namespace Go.Proofs.Ytfkpmhnfpljakaa
set_option linter.unusedSimpArgs false
set_option linter.unusedVariables false
set_option linter.unusedSimpArgs false
set_option linter.unusedVariables false
set_option linter.defProp false
open Go.RowKit

set_option maxHeartbeats 2000000 in
theorem toGraph_k (x : GraphD) (h : (x.Edges).length ≤ 1048576) : FnOK Try.prog 48 ⟨1, [(0, some (.ro ((x.Edges).map EdgeD.k)))], [.agg [.v (.int .i64 x.N), .sl 0 3 0 (x.Edges).length]], .agg [.v (.int .i64 x.N), .sl 1 3 0 (x.Edges).length], [(1, some (.row 175 ((x.Edges).map EdgeD.k)))], 2⟩ := by
  obtain ⟨xN, xEdges⟩ := x
  dsimp only at h
  dsimp only
  refine fnOK_of true mixed Try.func48 rfl (by rfl) (by rfl) ?_
  have hres := congrArg Array.toList Try.results48
  simp only [Try.ntmps48, BGB, seval]
  (have gx := true_and True; have q1 := toEdgeS_k xEdges; refine go ?_; (repeat' (first | exact Ef.mk | refine Lf.mk ?_ ?_ | refine fun (K : KT) hK hE hT => ?_ | refine fun (KS : Eff → Prop) hKS => ?_ | refine fun (D : List Keys → Prop) hD => ?_ | refine fun (hg : (_ : Prop)) => ?_ | fail)); all_goals (first | (refine Wr.mk ?_; (try clear gx); (try clear q1); repeat (first | (clear hK hE hT; clear K) | (clear hR hE hT; clear K))) | assumption | skip))
  (refine post_a hres (.inl rfl) ?_; simp only [RSB, ENB, seval, tiAll, true_and]; simp only [MAB, seval]; refine ⟨rfl, rfl, ?_, ?_, ?_⟩ <;> (first | rfl | (simp [WKB, Nat.add_comm, true_and]; done) | (simp only [WKB, seval])))

set_option maxHeartbeats 2000000 in
theorem eqGraph_k (x y : GraphD) (h : (x.Edges).length ≤ 1048576) (k : (y.Edges).length ≤ 1048576) : FnOK Try.prog 50 ⟨2, [(0, some (.ro ((x.Edges).map EdgeD.k))), (1, some (.ro ((y.Edges).map EdgeD.k)))], [.agg [.v (.int .i64 x.N), .sl 0 3 0 (x.Edges).length], .agg [.v (.int .i64 y.N), .sl 1 3 0 (y.Edges).length]], .c (.v (.bool (decide (x = y)))), [], 2⟩ := by
  obtain ⟨xN, xEdges⟩ := x
  obtain ⟨yN, yEdges⟩ := y
  simp only [GraphD.mk.injEq]
  dsimp only at h k
  refine fnOK_of true mixed Try.func50 rfl (by rfl) (by rfl) ?_
  have hres := congrArg Array.toList Try.results50
  simp only [Try.ntmps50, BGB, seval]
  (have gx := true_and True; have q1 := eqEdgeS_k xEdges yEdges; refine go ?_; (repeat' (first | exact Ef.mk | refine Lf.mk ?_ ?_ | refine fun (K : KT) hK hE hT => ?_ | refine fun (KS : Eff → Prop) hKS => ?_ | refine fun (D : List Keys → Prop) hD => ?_ | refine fun (hg : (_ : Prop)) => ?_ | fail)); all_goals (first | (refine Wr.mk ?_; (try clear gx); (try clear q1); repeat (first | (clear hK hE hT; clear K) | (clear hR hE hT; clear K))) | assumption | skip))
  all_goals (try simp only [GraphD.mk.injEq, not_and] at *)
  all_goals (refine post_a hres (.inl rfl) ?_; simp only [RSB, ENB, seval, tiAll, *]; simp only [MAB, seval]; refine ⟨rfl, rfl, ?_, ?_, ?_⟩ <;> (first | rfl | (simp [WKB, Nat.add_comm, *]; done) | (simp only [WKB, seval])))
  all_goals (refine congrArg (fun b => SV.c (CV.v (Value.bool b))) ?_; symm; simp only [decide_eq_false_iff_not, decide_eq_true_eq]; (intro h; simp_all))

set_option maxHeartbeats 2000000 in
theorem markGraph_k (x : GraphD) (k : Nat) (h : (k + 3 * (x.Edges).length) ≤ 1099511627776) : FnOK Try.prog 51 ⟨1, [(0, some (.row 175 ((x.Edges).map EdgeD.k)))], [.agg [.v (.int .i64 x.N), .sl 0 3 0 (x.Edges).length], .c (.v (.int .i64 (k : Int)))], .c (.v (.int .i64 (((k + 3 * (x.Edges).length) : Nat) : Int))), [(0, some (.row 175 ((List.range (x.Edges).length).map (EdgeD.g k))))], 1⟩ := by
  obtain ⟨xN, xEdges⟩ := x
  dsimp only at h
  dsimp only
  refine fnOK_of true mixed Try.func51 rfl (by rfl) (by rfl) ?_
  have hres := congrArg Array.toList Try.results51
  simp only [Try.ntmps51, BGB, seval]
  (have gx := @range_len; have q1 := markEdgeS_k xEdges k; refine go ?_; (repeat' (first | exact Ef.mk | refine Lf.mk ?_ ?_ | refine fun (K : KT) hK hE hT => ?_ | refine fun (KS : Eff → Prop) hKS => ?_ | refine fun (D : List Keys → Prop) hD => ?_ | refine fun (hg : (_ : Prop)) => ?_ | fail)); all_goals (first | (refine Wr.mk ?_; (try clear gx); (try clear q1); repeat (first | (clear hK hE hT; clear K) | (clear hR hE hT; clear K))) | assumption | skip))
  (refine post_a hres (.inl rfl) ?_; simp only [RSB, ENB, seval, tiAll, true_and]; simp only [MAB, seval]; refine ⟨rfl, rfl, ?_, ?_, ?_⟩ <;> (first | rfl | (simp [WKB, Nat.add_comm, true_and]; done) | (simp only [WKB, seval])))

set_option maxHeartbeats 4000000 in
theorem szGraph_k (x : GraphD) (b : Nat) (h : (x.Edges).length ≤ 9223372036854775807) (hb : b ≤ 1048576) : FnOK Try.prog 46 ⟨1, [(0, some (.ro ((x.Edges).map EdgeD.k)))], [.agg [.v (.int .i64 x.N), .sl 0 3 0 (x.Edges).length], .c (.v (.int .i64 (b : Int)))], .c (.v (.int .i64 (szL b ((x.Edges).length)))), [], 1⟩ := by
  obtain ⟨xN, xEdges⟩ := x
  dsimp only at h
  dsimp only
  refine fnOK_of true mixed Try.func46 rfl (by rfl) (by rfl) ?_
  have hres := congrArg Array.toList Try.results46
  simp only [Try.ntmps46, BGB, seval]
  rcases Nat.lt_or_ge b ((xEdges).length) with c0 | c0
  · have e0 : szL b ((xEdges).length) = -1 := szL_neg _ _ c0
    have e : szL b ((xEdges).length) = -1 := szL_neg _ _ (by omega)
    (have gx := @e0; have q1 := szEdgeS_k (xEdges).length (b) ((xEdges).map EdgeD.k) (by simp); refine go ?_; (repeat' (first | exact Ef.mk | refine Lf.mk ?_ ?_ | refine fun (K : KT) hK hE hT => ?_ | refine fun (KS : Eff → Prop) hKS => ?_ | refine fun (D : List Keys → Prop) hD => ?_ | refine fun (hg : (_ : Prop)) => ?_ | fail)); all_goals (first | (refine Wr.mk ?_; (try clear gx); (try clear q1); repeat (first | (clear hK hE hT; clear K) | (clear hR hE hT; clear K))) | assumption | skip))
    (refine post_a hres (.inl rfl) ?_; simp only [RSB, ENB, seval, tiAll, e, e0]; simp only [MAB, seval]; refine ⟨rfl, rfl, ?_, ?_, ?_⟩ <;> (first | rfl | (simp [WKB, Nat.add_comm, e, e0]; done) | (simp only [WKB, seval])))
  · have e0 : szL b ((xEdges).length) = ((b - ((xEdges).length) : Nat) : Int) := szL_sub _ _ c0
    (have gx := @e0; have q1 := szEdgeS_k (xEdges).length (b) ((xEdges).map EdgeD.k) (by simp); refine go ?_; (repeat' (first | exact Ef.mk | refine Lf.mk ?_ ?_ | refine fun (K : KT) hK hE hT => ?_ | refine fun (KS : Eff → Prop) hKS => ?_ | refine fun (D : List Keys → Prop) hD => ?_ | refine fun (hg : (_ : Prop)) => ?_ | fail)); all_goals (first | (refine Wr.mk ?_; (try clear gx); (try clear q1); repeat (first | (clear hK hE hT; clear K) | (clear hR hE hT; clear K))) | assumption | skip))
    (refine post_a hres (.inl rfl) ?_; simp only [RSB, ENB, seval, tiAll, e0, szL_sub b ((xEdges).length) (by omega)]; simp only [MAB, seval]; refine ⟨rfl, rfl, ?_, ?_, ?_⟩ <;> (first | rfl | (simp [WKB, Nat.add_comm, e0, szL_sub b ((xEdges).length) (by omega)]; done) | (simp only [WKB, seval])))
    all_goals (refine congrArg (fun z => SV.c (CV.v (Value.int .i64 z))) ?_; omega)

end Go.Proofs.Ytfkpmhnfpljakaa
