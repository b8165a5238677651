/-
  The engine, texts Q1 Q2 in one. No conditions of its own.
-/
import Derived.Test.YtcbnfkbnbdbfoaaGreatGO
import Derived.Test.YtcbnfkbnbdbfoaaGreatMNB
import Derived.Test.YtcbnfkbnbdbfoaaGreatMKA
import Derived.Test.YtcbnfkbnbdbfoaaGreatMNC
namespace Go.Proofs.YtcbnfkbnbdbfoaaGreat
set_option linter.unusedSimpArgs false
set_option linter.unusedVariables false
set_option linter.unusedSimpArgs false
set_option linter.unusedVariables false
set_option linter.defProp false
set_option maxRecDepth 20000
open Go.RowKit
attribute [local irreducible] lexD

/-- All edges of a shard find their values. -/
structure WvOk (s : ShardD) (vals : List Int) : Prop where
  o : ShOk s
  i : ∀ e : SEdgeD, e ∈ s.Edges → 0 ≤ e.Index ∧ e.Index < vals.length
  v : ∀ v ∈ vals, 0 ≤ v ∧ v ≤ 281474976710655
set_option maxHeartbeats 4000000 in
theorem copyShard_k (s : ShardD) (h : s.Edges.length ≤ 1048576) : FnOK Tryz.prog 172 ⟨1, [(0, some (.ro (s.Edges.map SEdgeD.k)))], [.agg [.v (.int .i64 s.Lo), .v (.int .i64 s.Hi), .sl 0 5 0 s.Edges.length]],
    .agg [.v (.int .i64 s.Lo), .v (.int .i64 s.Hi), .sl 1 5 0 s.Edges.length], [(1, some (.row 96 (s.Edges.map SEdgeD.k)))], 2⟩ := by
  have t1 : (s.Edges.map SEdgeD.k).take s.Edges.length = s.Edges.map SEdgeD.k := List.take_of_length_le (by simp)
  refine fnOK_of true mixed Tryz.func172 rfl (by rfl) (by rfl) ?_
  have hres := congrArg Array.toList Tryz.results172
  simp only [Tryz.ntmps172, BGB, seval]
  (have gx := And.intro @List.length_map.{0,0} @t1; refine go ?_; (repeat' (first | exact Ef.mk | refine Lf.mk ?_ ?_ | refine fun (K : KT) hK hE hT => ?_ | refine fun (KS : Eff → Prop) hKS => ?_ | refine fun (D : List Keys → Prop) hD => ?_ | refine fun (hg : (_ : Prop)) => ?_ | fail)); all_goals (first | (refine Wr.mk ?_; (try clear gx); repeat (first | (clear hK hE hT; clear K) | (clear hR hE hT; clear K))) | assumption | skip))
  (refine post_a hres (.inl rfl) ?_; simp only [RSB, ENB, seval, tiAll, true_and]; simp only [MAB, seval]; refine ⟨rfl, rfl, ?_, ?_, ?_⟩ <;> (first | rfl | (simp [WKB, Nat.add_comm, true_and]; done) | (simp only [WKB, seval])))

set_option maxHeartbeats 4000000 in
theorem l08Copy_k (s : ShardD) (h : s.Edges.length ≤ 1048576) : FnOK Tryz.prog 169 ⟨1, [(0, some (.ro (s.Edges.map SEdgeD.k)))], [.agg [.v (.int .i64 s.Lo), .v (.int .i64 s.Hi), .sl 0 5 0 s.Edges.length]],
    .agg [.v (.int .i64 s.Lo), .v (.int .i64 s.Hi), .sl 1 5 0 s.Edges.length], [(1, some (.row 96 (s.Edges.map SEdgeD.k)))], 2⟩ := by
  have t1 : (s.Edges.map SEdgeD.k).take s.Edges.length = s.Edges.map SEdgeD.k := List.take_of_length_le (by simp)
  refine fnOK_of true mixed Tryz.func169 rfl (by rfl) (by rfl) ?_
  have hres := congrArg Array.toList Tryz.results169
  simp only [Tryz.ntmps169, BGB, seval]
  (have gx := And.intro @List.length_map.{0,0} @t1; refine go ?_; (repeat' (first | exact Ef.mk | refine Lf.mk ?_ ?_ | refine fun (K : KT) hK hE hT => ?_ | refine fun (KS : Eff → Prop) hKS => ?_ | refine fun (D : List Keys → Prop) hD => ?_ | refine fun (hg : (_ : Prop)) => ?_ | fail)); all_goals (first | (refine Wr.mk ?_; (try clear gx); repeat (first | (clear hK hE hT; clear K) | (clear hR hE hT; clear K))) | assumption | skip))
  (refine post_a hres (.inl rfl) ?_; simp only [RSB, ENB, seval, tiAll, true_and]; simp only [MAB, seval]; refine ⟨rfl, rfl, ?_, ?_, ?_⟩ <;> (first | rfl | (simp [WKB, Nat.add_comm, true_and]; done) | (simp only [WKB, seval])))

set_option maxHeartbeats 8000000 in
theorem copyFarm_k (f : FarmD) (h : (f.Ends).length ≤ 1048576 ∧ (f.Shards).length ≤ 1048576 ∧ (∀ s ∈ f.Shards, s.Edges.length ≤ 1048576)) : FnOK Tryz.prog 126 ⟨2, [(0, some (.ro ((f.Ends).map intK))), (1, some (.ro ((f.Shards).map (ShardD.k 96))))], [.agg [.v (.int .i64 f.N), .sl 0 1 0 (f.Ends).length, .sl 1 3 0 (f.Shards).length]], .agg [.v (.int .i64 f.N), .sl 2 1 0 (f.Ends).length, .sl 3 3 0 (f.Shards).length], [(2, some (.row 3 ((f.Ends).map intK))), (3, some (.nst 179 ((f.Shards).map (ShardD.k 96)) none))], 4⟩ := by
  obtain ⟨h0, h1, h2⟩ := h
  have c1 := copyInts_k f.Ends h0
  refine fnOK_of true mixed Tryz.func126 rfl (by rfl) (by rfl) ?_
  have hres := congrArg Array.toList Tryz.results126
  simp only [Tryz.ntmps126, BGB, seval]
  (have gx := @List.length_map.{0,0}; have q1 := c1; refine go ?_; (repeat' (first | exact Ef.mk | refine Lf.mk ?_ ?_ | refine fun (K : KT) hK hE hT => ?_ | refine fun (KS : Eff → Prop) hKS => ?_ | refine fun (D : List Keys → Prop) hD => ?_ | refine fun (hg : (_ : Prop)) => ?_ | fail)); all_goals (first | (refine Wr.mk ?_; (try clear gx); (try clear q1); repeat (first | (clear hK hE hT; clear K) | (clear hR hE hT; clear K))) | assumption | skip))
  refine loop_v (X := {k : Nat // k ≤ f.Shards.length}) [] (fun x => [(15, .c (.v (.int .i64 ((x.1 : Nat) : Int))))]) (fun x => [(0, some (.ro ((f.Ends).map intK))), (1, some (.ro ((f.Shards).map (ShardD.k 96)))), (2, some (.box 43 [.v (.int .i64 f.N), .sl 0 1 0 (f.Ends).length, .sl 1 3 0 (f.Shards).length])), (3, some (.box 43 [.v (.int .i64 0), .nil, .nil])), (4, some (.row 3 (f.Ends.map intK))), (6, some (.nst 179 ((f.Shards.take x.1).map (ShardD.k 96)) none)), (5, some (.box 43 [.v (.int .i64 f.N), .sl 4 1 0 f.Ends.length, .sl 6 3 0 x.1]))]) 7 (fun x => f.Shards.length - x.1) ⟨0, by omega⟩ ?_
  simp only [KPB, seval]
  refine ⟨?_, ?_⟩
  · (refine wk_a ?_; simp only [MAB, seval]; refine ⟨rfl, rfl, (by decide), ?_, ?_⟩; all_goals (first | (simp only [WKB, seval, List.take_zero, List.map_nil, Nat.reduceLT, Nat.zero_lt_succ]; done) | (simp [WKB, seval, List.take_zero, List.map_nil]; done) | simp only [WKB, seval]))
  · rintro ⟨k, hk⟩ K hR hE hT
    have tl : (f.Shards.take k).length = k := by rw [List.length_take]; omega
    rcases Nat.lt_or_ge k f.Shards.length with hlt | hge
    case inr =>
      obtain rfl : k = f.Shards.length := by omega
      (have gx := @List.length_map.{0,0}; refine go ?_; (repeat' (first | exact Ef.mk | refine Lf.mk ?_ ?_ | refine fun (K : KT) hK hE hT => ?_ | refine fun (KS : Eff → Prop) hKS => ?_ | refine fun (D : List Keys → Prop) hD => ?_ | refine fun (hg : (_ : Prop)) => ?_ | fail)); all_goals (first | (refine Wr.mk ?_; (try clear gx); repeat (first | (clear hK hE hT; clear K) | (clear hR hE hT; clear K))) | assumption | skip))
      (refine post_a hres (.inl rfl) ?_; simp only [RSB, ENB, seval, tiAll, List.take_length]; simp only [MAB, seval]; refine ⟨rfl, rfl, ?_, ?_, ?_⟩ <;> (first | rfl | (simp [WKB, Nat.add_comm, List.take_length]; done) | (simp only [WKB, seval])))
    case inl =>
      have cc := copyShard_k f.Shards[k] (h2 _ (List.getElem_mem hlt))
      have e : (f.Shards.take k).map (ShardD.k 96) ++ [ShardD.k 96 f.Shards[k]] = (f.Shards.take (k + 1)).map (ShardD.k 96) := by rw [List.take_succ_eq_append_getElem hlt, List.map_append]; rfl
      simp only [ShardD.k] at e
      (have gx := And.intro (@List.length_map.{0,0}) (And.intro (@List.getElem_map.{0,0}) (And.intro @ShardD.k.eq_1 @tl)); have q1 := cc; refine go ?_; (repeat' (first | exact Ef.mk | refine Lf.mk ?_ ?_ | refine fun (K : KT) hK hE hT => ?_ | refine fun (KS : Eff → Prop) hKS => ?_ | refine fun (D : List Keys → Prop) hD => ?_ | refine fun (hg : (_ : Prop)) => ?_ | fail)); all_goals (first | (refine Wr.mk ?_; (try clear gx); (try clear q1); repeat (first | (clear hK hE hT; clear K) | (clear hR hE hT; clear K))) | assumption | skip))
      (refine hR.out ⟨k + 1, by omega⟩ _ _ _ (by simp only; omega) ?_; (refine wk_a ?_; simp only [MAB, seval]; refine ⟨rfl, rfl, (by decide), ?_, ?_⟩; all_goals (first | (simp only [WKB, seval, e, ShardD.k, Nat.reduceLT, Nat.zero_lt_succ]; done) | (simp [WKB, seval, e, ShardD.k]; done) | simp only [WKB, seval])))

end Go.Proofs.YtcbnfkbnbdbfoaaGreat

namespace Go.Proofs.YtcbnfkbnbdbfoaaGreat
set_option linter.unusedSimpArgs false
set_option linter.unusedVariables false
set_option linter.defProp false
set_option maxRecDepth 20000
open Go.RowKit
attribute [local irreducible] lexD

set_option maxHeartbeats 8000000 in
theorem l12Copy_k (f : FarmD) (h : (f.Ends).length ≤ 1048576 ∧ (f.Shards).length ≤ 1048576 ∧ (∀ s ∈ f.Shards, s.Edges.length ≤ 1048576)) : FnOK Tryz.prog 123 ⟨2, [(0, some (.ro ((f.Ends).map intK))), (1, some (.ro ((f.Shards).map (ShardD.k 96))))], [.agg [.v (.int .i64 f.N), .sl 0 1 0 (f.Ends).length, .sl 1 3 0 (f.Shards).length]], .agg [.v (.int .i64 f.N), .sl 2 1 0 (f.Ends).length, .sl 3 3 0 (f.Shards).length], [(2, some (.row 3 ((f.Ends).map intK))), (3, some (.nst 179 ((f.Shards).map (ShardD.k 96)) none))], 4⟩ := by
  obtain ⟨h0, h1, h2⟩ := h
  have t1 : (f.Ends.map intK).take f.Ends.length = f.Ends.map intK := List.take_of_length_le (by simp)
  refine fnOK_of true mixed Tryz.func123 rfl (by rfl) (by rfl) ?_
  have hres := congrArg Array.toList Tryz.results123
  simp only [Tryz.ntmps123, BGB, seval]
  (have gx := And.intro @List.length_map.{0,0} @t1; refine go ?_; (repeat' (first | exact Ef.mk | refine Lf.mk ?_ ?_ | refine fun (K : KT) hK hE hT => ?_ | refine fun (KS : Eff → Prop) hKS => ?_ | refine fun (D : List Keys → Prop) hD => ?_ | refine fun (hg : (_ : Prop)) => ?_ | fail)); all_goals (first | (refine Wr.mk ?_; (try clear gx); repeat (first | (clear hK hE hT; clear K) | (clear hR hE hT; clear K))) | assumption | skip))
  refine loop_v (X := {k : Nat // k ≤ f.Shards.length}) [11] (fun x => [(15, .c (.v (.int .i64 ((x.1 : Nat) : Int)))), (3, .c (.sl 6 3 0 x.1))]) (fun x => [(0, some (.ro ((f.Ends).map intK))), (1, some (.ro ((f.Shards).map (ShardD.k 96)))), (2, some (.box 43 [.v (.int .i64 f.N), .sl 5 1 0 f.Ends.length, .sl 1 3 0 f.Shards.length])), (3, some (.box 43 [.v (.int .i64 0), .nil, .nil])), (5, some (.row 3 (f.Ends.map intK))), (6, some (.nst 179 ((f.Shards.take x.1).map (ShardD.k 96)) none))]) 7 (fun x => f.Shards.length - x.1) ⟨0, by omega⟩ ?_
  simp only [KPB, seval]
  refine ⟨?_, ?_⟩
  · (refine wk_a ?_; simp only [MAB, seval]; refine ⟨rfl, rfl, (by decide), ?_, ?_⟩; all_goals (first | (simp only [WKB, seval, List.take_zero, List.map_nil, Nat.reduceLT, Nat.zero_lt_succ]; done) | (simp [WKB, seval, List.take_zero, List.map_nil]; done) | simp only [WKB, seval]))
  · rintro ⟨k, hk⟩ K hR hE hT
    have tl : (f.Shards.take k).length = k := by rw [List.length_take]; omega
    rcases Nat.lt_or_ge k f.Shards.length with hlt | hge
    case inr =>
      obtain rfl : k = f.Shards.length := by omega
      (have gx := @List.length_map.{0,0}; refine go ?_; (repeat' (first | exact Ef.mk | refine Lf.mk ?_ ?_ | refine fun (K : KT) hK hE hT => ?_ | refine fun (KS : Eff → Prop) hKS => ?_ | refine fun (D : List Keys → Prop) hD => ?_ | refine fun (hg : (_ : Prop)) => ?_ | fail)); all_goals (first | (refine Wr.mk ?_; (try clear gx); repeat (first | (clear hK hE hT; clear K) | (clear hR hE hT; clear K))) | assumption | skip))
      (refine post_a hres (.inl rfl) ?_; simp only [RSB, ENB, seval, tiAll, List.take_length]; simp only [MAB, seval]; refine ⟨rfl, rfl, ?_, ?_, ?_⟩ <;> (first | rfl | (simp [WKB, Nat.add_comm, List.take_length]; done) | (simp only [WKB, seval])))
    case inl =>
      have cc := l08Copy_k f.Shards[k] (h2 _ (List.getElem_mem hlt))
      have e : (f.Shards.take k).map (ShardD.k 96) ++ [ShardD.k 96 f.Shards[k]] = (f.Shards.take (k + 1)).map (ShardD.k 96) := by rw [List.take_succ_eq_append_getElem hlt, List.map_append]; rfl
      simp only [ShardD.k] at e
      (have gx := And.intro (@List.length_map.{0,0}) (And.intro (@List.getElem_map.{0,0}) (And.intro @ShardD.k.eq_1 @tl)); have q1 := cc; refine go ?_; (repeat' (first | exact Ef.mk | refine Lf.mk ?_ ?_ | refine fun (K : KT) hK hE hT => ?_ | refine fun (KS : Eff → Prop) hKS => ?_ | refine fun (D : List Keys → Prop) hD => ?_ | refine fun (hg : (_ : Prop)) => ?_ | fail)); all_goals (first | (refine Wr.mk ?_; (try clear gx); (try clear q1); repeat (first | (clear hK hE hT; clear K) | (clear hR hE hT; clear K))) | assumption | skip))
      (refine hR.out ⟨k + 1, by omega⟩ _ _ _ (by simp only; omega) ?_; (refine wk_a ?_; simp only [MAB, seval]; refine ⟨rfl, rfl, (by decide), ?_, ?_⟩; all_goals (first | (simp only [WKB, seval, e, ShardD.k, Nat.reduceLT, Nat.zero_lt_succ]; done) | (simp [WKB, seval, e, ShardD.k]; done) | simp only [WKB, seval])))

end Go.Proofs.YtcbnfkbnbdbfoaaGreat

