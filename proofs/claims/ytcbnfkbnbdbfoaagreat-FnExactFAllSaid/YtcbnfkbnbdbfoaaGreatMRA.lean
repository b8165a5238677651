/-
  The engine, texts R8 R9 R10 in one. No conditions of its own.
-/
import Derived.Test.YtcbnfkbnbdbfoaaGreatGO
import Derived.Test.YtcbnfkbnbdbfoaaGreatH6
import Derived.Test.YtcbnfkbnbdbfoaaGreatN11
import Derived.Test.YtcbnfkbnbdbfoaaGreatMKA
import Derived.Test.YtcbnfkbnbdbfoaaGreatMQA
namespace Go.Proofs.YtcbnfkbnbdbfoaaGreat
set_option linter.unusedSimpArgs false
set_option linter.unusedVariables false
set_option linter.unusedSimpArgs false
set_option linter.unusedVariables false
set_option linter.defProp false
set_option maxRecDepth 20000
open Go.RowKit
attribute [local irreducible] lexD

/-- The run of a valid farm's run. -/
noncomputable def frunR (f : FRunD) : RunD := ⟨f.Job, f.Iter, f.Done, f.Vals, fvL f.Farm, f.Next⟩
def FrOk (f : FRunD) : Prop := FarmOk f.Farm ∧ runOk (fgR f.Farm) (frunR f) = true
theorem fv_yes {f : FarmD} (h : FarmOk f) : fvL f = valsL (edSum f.Shards) (allE f.Shards) ∧ (fvL f).length = edSum f.Shards ∧ edSum f.Shards ≤ 400 := by
  have e : fvL f = valsL (edSum f.Shards) (allE f.Shards) := by unfold fvL; rw [pB_t h, if_pos rfl]
  exact ⟨e, by rw [e, valsL_len], h.2.2.2.2.2.2.2.1⟩

set_option maxHeartbeats 8000000 in
theorem frun_k (f : FRunD) (h : (f.Vals).length ≤ 1048576 ∧ (f.Next.Bits).length ≤ 1048576 ∧ (f.Farm.Ends).length ≤ 1048576 ∧ (f.Farm.Shards).length ≤ 1048576 ∧ (∀ s ∈ f.Farm.Shards, s.Edges.length ≤ 1048576)) (hf : FarmOk f.Farm) : FnOK Tryz.prog 110 ⟨4, [(0, some (.ro ((f.Vals).map intK))), (1, some (.ro ((f.Next.Bits).map bytK))), (2, some (.ro ((f.Farm.Ends).map intK))), (3, some (.ro ((f.Farm.Shards).map (ShardD.k 96))))], [.agg [.v (.int .i64 f.Job.Prog), .v (.int .i64 f.Job.Src), .v (.int .i64 f.Iter), .v (.bool f.Done), .sl 0 1 0 (f.Vals).length, .v (.int .i64 f.Next.N), .sl 1 1 0 (f.Next.Bits).length, .v (.int .i64 f.Farm.N), .sl 2 1 0 (f.Farm.Ends).length, .sl 3 3 0 (f.Farm.Shards).length]], .agg [.v (.int .i64 f.Job.Prog), .v (.int .i64 f.Job.Src), .v (.int .i64 f.Iter), .v (.bool f.Done), .sl 0 1 0 f.Vals.length, .sl 4 1 0 (fvL f.Farm).length, .v (.int .i64 f.Next.N), .sl 1 1 0 f.Next.Bits.length], [(4, some (.row 3 ((fvL f.Farm).map intK)))], 5⟩ := by
  obtain ⟨e, e2, e3⟩ := fv_yes hf
  obtain ⟨h0, h1, h2, h3, h4⟩ := h
  have c := vals_k f.Farm ⟨h2, h3, h4⟩ _ rfl (by omega) hf.2.2.2.2.2.2.2.2
  rw [← e, ← e2] at c
  refine fnOK_of true mixed Tryz.func110 rfl (by rfl) (by rfl) ?_
  have hres := congrArg Array.toList Tryz.results110
  simp only [Tryz.ntmps110, BGB, seval]
  (have gx := @List.length_map.{0,0}; have q1 := c; refine go ?_; (repeat' (first | exact Ef.mk | refine Lf.mk ?_ ?_ | refine fun (K : KT) hK hE hT => ?_ | refine fun (KS : Eff → Prop) hKS => ?_ | refine fun (D : List Keys → Prop) hD => ?_ | refine fun (hg : (_ : Prop)) => ?_ | fail)); all_goals (first | (refine Wr.mk ?_; (try clear gx); (try clear q1); repeat (first | (clear hK hE hT; clear K) | (clear hR hE hT; clear K))) | assumption | skip))
  (refine post_a hres (.inl rfl) ?_; simp only [RSB, ENB, seval, tiAll, true_and]; simp only [MAB, seval]; refine ⟨rfl, rfl, ?_, ?_, ?_⟩ <;> (first | rfl | (simp [WKB, Nat.add_comm, true_and]; done) | (simp only [WKB, seval])))

set_option maxHeartbeats 8000000 in
theorem implFRunOk_k (f : FRunD) (h : (f.Vals).length ≤ 1048576 ∧ (f.Next.Bits).length ≤ 1048576 ∧ (f.Farm.Ends).length ≤ 1048576 ∧ (f.Farm.Shards).length ≤ 1048576 ∧ (∀ s ∈ f.Farm.Shards, s.Edges.length ≤ 1048576)) : FnOK Tryz.prog 43 ⟨4, [(0, some (.ro ((f.Vals).map intK))), (1, some (.ro ((f.Next.Bits).map bytK))), (2, some (.ro ((f.Farm.Ends).map intK))), (3, some (.ro ((f.Farm.Shards).map (ShardD.k 96))))], [.agg [.v (.int .i64 f.Job.Prog), .v (.int .i64 f.Job.Src), .v (.int .i64 f.Iter), .v (.bool f.Done), .sl 0 1 0 (f.Vals).length, .v (.int .i64 f.Next.N), .sl 1 1 0 (f.Next.Bits).length, .v (.int .i64 f.Farm.N), .sl 2 1 0 (f.Farm.Ends).length, .sl 3 3 0 (f.Farm.Shards).length]], .c (.v (.bool (pB (FrOk f)))), [], 4⟩ := by
  obtain ⟨h0, h1, h2, h3, h4⟩ := h
  have co := implFarmOk_k f.Farm ⟨h2, h3, h4⟩
  by_cases hf : FarmOk f.Farm
  case neg =>
    rw [pB_f (fun h : FrOk f => hf h.1)]
    rw [pB_f hf] at co
    refine fnOK_of true mixed Tryz.func43 rfl (by rfl) (by rfl) ?_
    have hres := congrArg Array.toList Tryz.results43
    simp only [Tryz.ntmps43, BGB, seval]
    (have gx := @List.length_map.{0,0}; have q1 := co; refine go ?_; (repeat' (first | exact Ef.mk | refine Lf.mk ?_ ?_ | refine fun (K : KT) hK hE hT => ?_ | refine fun (KS : Eff → Prop) hKS => ?_ | refine fun (D : List Keys → Prop) hD => ?_ | refine fun (hg : (_ : Prop)) => ?_ | fail)); all_goals (first | (refine Wr.mk ?_; (try clear gx); (try clear q1); repeat (first | (clear hK hE hT; clear K) | (clear hR hE hT; clear K))) | assumption | skip))
    all_goals (refine post_a hres (.inl rfl) ?_; simp only [RSB, ENB, seval, tiAll, true_and]; simp only [MAB, seval]; refine ⟨rfl, rfl, ?_, ?_, ?_⟩ <;> (first | rfl | (simp [WKB, Nat.add_comm, true_and]; done) | (simp only [WKB, seval])))
  case pos =>
    have hl := fvL_len f.Farm
    have hg := fgR_len f.Farm
    have cg := implFarmGraph_k f.Farm ⟨h2, h3, h4⟩
    have cr := frun_k f ⟨h0, h1, h2, h3, h4⟩ hf
    have ck := implRunOk_k (fgR f.Farm) (frunR f) (by omega) ⟨h0, by show (fvL f.Farm).length ≤ _; omega, h1⟩
    have e : pB (FrOk f) = runOk (fgR f.Farm) (frunR f) := by
      cases hr : runOk (fgR f.Farm) (frunR f) with
      | true => exact pB_t ⟨hf, hr⟩
      | false => exact pB_f fun h => by have h5 := h.2; rw [hr] at h5; cases h5
    rw [e]
    rw [pB_t hf] at co
    obtain ⟨q, hq⟩ : ∃ q, q = runOk (fgR f.Farm) (frunR f) := ⟨_, rfl⟩
    rw [← hq] at ck ⊢
    unfold frunR at ck
    dsimp only at ck
    refine fnOK_of true mixed Tryz.func43 rfl (by rfl) (by rfl) ?_
    have hres := congrArg Array.toList Tryz.results43
    simp only [Tryz.ntmps43, BGB, seval]
    (have gx := @List.length_map.{0,0}; have q1 := co; have q2 := cg; have q3 := cr; have q4 := ck; refine go ?_; (repeat' (first | exact Ef.mk | refine Lf.mk ?_ ?_ | refine fun (K : KT) hK hE hT => ?_ | refine fun (KS : Eff → Prop) hKS => ?_ | refine fun (D : List Keys → Prop) hD => ?_ | refine fun (hg : (_ : Prop)) => ?_ | fail)); all_goals (first | (refine Wr.mk ?_; (try clear gx); (try clear q1 q2 q3 q4); repeat (first | (clear hK hE hT; clear K) | (clear hR hE hT; clear K))) | assumption | skip))
    all_goals (refine post_a hres (.inl rfl) ?_; simp only [RSB, ENB, seval, tiAll, true_and]; simp only [MAB, seval]; refine ⟨rfl, rfl, ?_, ?_, ?_⟩ <;> (first | rfl | (simp [WKB, Nat.add_comm, true_and]; done) | (simp only [WKB, seval])))

end Go.Proofs.YtcbnfkbnbdbfoaaGreat

namespace Go.Proofs.YtcbnfkbnbdbfoaaGreat
set_option linter.unusedSimpArgs false
set_option linter.unusedVariables false
set_option linter.defProp false
set_option maxRecDepth 20000
open Go.RowKit
attribute [local irreducible] lexD

set_option maxHeartbeats 8000000 in
theorem l13Run_k (f : FRunD) (h : (f.Vals).length ≤ 1048576 ∧ (f.Next.Bits).length ≤ 1048576 ∧ (f.Farm.Ends).length ≤ 1048576 ∧ (f.Farm.Shards).length ≤ 1048576 ∧ (∀ s ∈ f.Farm.Shards, s.Edges.length ≤ 1048576)) : FnOK Tryz.prog 115 ⟨4, [(0, some (.ro ((f.Vals).map intK))), (1, some (.ro ((f.Next.Bits).map bytK))), (2, some (.ro ((f.Farm.Ends).map intK))), (3, some (.ro ((f.Farm.Shards).map (ShardD.k 96))))], [.agg [.v (.int .i64 f.Job.Prog), .v (.int .i64 f.Job.Src), .v (.int .i64 f.Iter), .v (.bool f.Done), .sl 0 1 0 (f.Vals).length, .v (.int .i64 f.Next.N), .sl 1 1 0 (f.Next.Bits).length, .v (.int .i64 f.Farm.N), .sl 2 1 0 (f.Farm.Ends).length, .sl 3 3 0 (f.Farm.Shards).length]], .agg [.v (.int .i64 (frunR f).Job.Prog), .v (.int .i64 (frunR f).Job.Src), .v (.int .i64 (frunR f).Iter), .v (.bool (frunR f).Done), .sl 4 1 0 ((frunR f).Vals).length, .sl 5 1 0 ((frunR f).EVals).length, .v (.int .i64 (frunR f).Next.N), .sl 6 1 0 ((frunR f).Next.Bits).length], [(4, some (.row 3 (((frunR f).Vals).map intK))), (5, some (.row 3 (((frunR f).EVals).map intK))), (6, some (.row 5 (((frunR f).Next.Bits).map bytK)))], 7⟩ := by
  obtain ⟨h0, h1, h2, h3, h4⟩ := h
  have cv := specFarmVals_k f.Farm ⟨h2, h3, h4⟩
  have cc := l09Copy_k f.Next (by omega)
  have t1 : (f.Vals.map intK).take f.Vals.length = f.Vals.map intK := List.take_of_length_le (by simp)
  unfold frunR
  dsimp only
  refine fnOK_of true mixed Tryz.func115 rfl (by rfl) (by rfl) ?_
  have hres := congrArg Array.toList Tryz.results115
  simp only [Tryz.ntmps115, BGB, seval]
  (have gx := And.intro @List.length_map.{0,0} @t1; have q1 := cv; have q2 := cc; refine go ?_; (repeat' (first | exact Ef.mk | refine Lf.mk ?_ ?_ | refine fun (K : KT) hK hE hT => ?_ | refine fun (KS : Eff → Prop) hKS => ?_ | refine fun (D : List Keys → Prop) hD => ?_ | refine fun (hg : (_ : Prop)) => ?_ | fail)); all_goals (first | (refine Wr.mk ?_; (try clear gx); (try clear q1 q2); repeat (first | (clear hK hE hT; clear K) | (clear hR hE hT; clear K))) | assumption | skip))
  (refine post_a hres (.inl rfl) ?_; simp only [RSB, ENB, seval, tiAll, true_and]; simp only [MAB, seval]; refine ⟨rfl, rfl, ?_, ?_, ?_⟩ <;> (first | rfl | (simp [WKB, Nat.add_comm, true_and]; done) | (simp only [WKB, seval])))

set_option maxHeartbeats 8000000 in
theorem specFRunOk_k (f : FRunD) (h : (f.Vals).length ≤ 1048576 ∧ (f.Next.Bits).length ≤ 1048576 ∧ (f.Farm.Ends).length ≤ 1048576 ∧ (f.Farm.Shards).length ≤ 1048576 ∧ (∀ s ∈ f.Farm.Shards, s.Edges.length ≤ 1048576)) : FnOK Tryz.prog 48 ⟨4, [(0, some (.ro ((f.Vals).map intK))), (1, some (.ro ((f.Next.Bits).map bytK))), (2, some (.ro ((f.Farm.Ends).map intK))), (3, some (.ro ((f.Farm.Shards).map (ShardD.k 96))))], [.agg [.v (.int .i64 f.Job.Prog), .v (.int .i64 f.Job.Src), .v (.int .i64 f.Iter), .v (.bool f.Done), .sl 0 1 0 (f.Vals).length, .v (.int .i64 f.Next.N), .sl 1 1 0 (f.Next.Bits).length, .v (.int .i64 f.Farm.N), .sl 2 1 0 (f.Farm.Ends).length, .sl 3 3 0 (f.Farm.Shards).length]], .c (.v (.bool (pB (FrOk f)))), [], 4⟩ := by
  have cr := l13Run_k f h
  obtain ⟨h0, h1, h2, h3, h4⟩ := h
  have co := specFarmOk_k f.Farm ⟨h2, h3, h4⟩
  by_cases hf : FarmOk f.Farm
  case neg =>
    rw [pB_f (fun h : FrOk f => hf h.1)]
    rw [pB_f hf] at co
    refine fnOK_of true mixed Tryz.func48 rfl (by rfl) (by rfl) ?_
    have hres := congrArg Array.toList Tryz.results48
    simp only [Tryz.ntmps48, BGB, seval]
    (have gx := @List.length_map.{0,0}; have q1 := co; refine go ?_; (repeat' (first | exact Ef.mk | refine Lf.mk ?_ ?_ | refine fun (K : KT) hK hE hT => ?_ | refine fun (KS : Eff → Prop) hKS => ?_ | refine fun (D : List Keys → Prop) hD => ?_ | refine fun (hg : (_ : Prop)) => ?_ | fail)); all_goals (first | (refine Wr.mk ?_; (try clear gx); (try clear q1); repeat (first | (clear hK hE hT; clear K) | (clear hR hE hT; clear K))) | assumption | skip))
    all_goals (refine post_a hres (.inl rfl) ?_; simp only [RSB, ENB, seval, tiAll, true_and]; simp only [MAB, seval]; refine ⟨rfl, rfl, ?_, ?_, ?_⟩ <;> (first | rfl | (simp [WKB, Nat.add_comm, true_and]; done) | (simp only [WKB, seval])))
  case pos =>
    have hl := fvL_len f.Farm
    have hg := fgR_len f.Farm
    have cg := specFarmGraph_k f.Farm ⟨h2, h3, h4⟩
    have ck := specRunOk_k (fgR f.Farm) (frunR f) (by omega) ⟨h0, by show (fvL f.Farm).length ≤ _; omega, h1⟩
    have e : pB (FrOk f) = runOk (fgR f.Farm) (frunR f) := by
      cases hr : runOk (fgR f.Farm) (frunR f) with
      | true => exact pB_t ⟨hf, hr⟩
      | false => exact pB_f fun h => by have h5 := h.2; rw [hr] at h5; cases h5
    rw [e]
    rw [pB_t hf] at co
    obtain ⟨q, hq⟩ : ∃ q, q = runOk (fgR f.Farm) (frunR f) := ⟨_, rfl⟩
    rw [← hq] at ck ⊢
    refine fnOK_of true mixed Tryz.func48 rfl (by rfl) (by rfl) ?_
    have hres := congrArg Array.toList Tryz.results48
    simp only [Tryz.ntmps48, BGB, seval]
    (have gx := @List.length_map.{0,0}; have q1 := co; have q2 := cg; have q3 := cr; have q4 := ck; refine go ?_; (repeat' (first | exact Ef.mk | refine Lf.mk ?_ ?_ | refine fun (K : KT) hK hE hT => ?_ | refine fun (KS : Eff → Prop) hKS => ?_ | refine fun (D : List Keys → Prop) hD => ?_ | refine fun (hg : (_ : Prop)) => ?_ | fail)); all_goals (first | (refine Wr.mk ?_; (try clear gx); (try clear q1 q2 q3 q4); repeat (first | (clear hK hE hT; clear K) | (clear hR hE hT; clear K))) | assumption | skip))
    all_goals (refine post_a hres (.inl rfl) ?_; simp only [RSB, ENB, seval, tiAll, true_and]; simp only [MAB, seval]; refine ⟨rfl, rfl, ?_, ?_, ?_⟩ <;> (first | rfl | (simp [WKB, Nat.add_comm, true_and]; done) | (simp only [WKB, seval])))

end Go.Proofs.YtcbnfkbnbdbfoaaGreat

namespace Go.Proofs.YtcbnfkbnbdbfoaaGreat
set_option linter.unusedSimpArgs false
set_option linter.unusedVariables false
set_option linter.defProp false
set_option maxRecDepth 20000
open Go.RowKit
attribute [local irreducible] lexD

end Go.Proofs.YtcbnfkbnbdbfoaaGreat

