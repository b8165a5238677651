/-
  Runs in farms: plain; valid ones, and back, by both. No conditions of its own.
-/
import Derived.Test.YtfkpmhnfpljakaaGO
import Derived.Test.YtfkpmhnfpljakaaH6
import Derived.Test.YtfkpmhnfpljakaaN11
import Derived.Test.YtfkpmhnfpljakaaK3
import Derived.Test.YtfkpmhnfpljakaaV2
namespace Go.Proofs.Ytfkpmhnfpljakaa
set_option linter.unusedSimpArgs false
set_option linter.unusedVariables false
set_option linter.unusedSimpArgs false
set_option linter.unusedVariables false
set_option linter.defProp false
set_option maxRecDepth 20000
open Go.RowKit
attribute [local irreducible] lexD

/-- The run of a valid farm's run. -/
noncomputable def frunR (f : FRunD) : RunD := ⟨f.Job, f.Iter, f.Done, f.Vals, fvL f.Farm, f.Next⟩
def FrOk (f : FRunD) : Prop := FarmOk f.Farm ∧ runOk (fgR f.Farm) (frunR f) = true
noncomputable def bkR (f : FRunD) : RunD := if pB (FrOk f) then frunR f else ⟨⟨0, 0⟩, 0, false, [], [], ⟨0, []⟩⟩
theorem bk_no {f : FRunD} (h : ¬ FrOk f) : bkR f = ⟨⟨0, 0⟩, 0, false, [], [], ⟨0, []⟩⟩ := by unfold bkR; rw [pB_f h]; rfl
theorem bk_yes {f : FRunD} (h : FrOk f) : bkR f = frunR f := by unfold bkR; rw [pB_t h]; rfl
theorem fv_yes {f : FarmD} (h : FarmOk f) : fvL f = valsL (edSum f.Shards) (allE f.Shards) ∧ (fvL f).length = edSum f.Shards ∧ edSum f.Shards ≤ 400 := by
  have e : fvL f = valsL (edSum f.Shards) (allE f.Shards) := by unfold fvL; rw [pB_t h, if_pos rfl]
  exact ⟨e, by rw [e, valsL_len], h.2.2.2.2.2.2.2.1⟩

set_option maxHeartbeats 8000000 in
theorem frun_k (f : FRunD) (h : (f.Vals).length ≤ 1048576 ∧ (f.Next.Bits).length ≤ 1048576 ∧ (f.Farm.Ends).length ≤ 1048576 ∧ (f.Farm.Shards).length ≤ 1048576 ∧ (∀ s ∈ f.Farm.Shards, s.Edges.length ≤ 1048576)) (hf : FarmOk f.Farm) : FnOK Try.prog 81 ⟨4, [(0, some (.ro ((f.Vals).map intK))), (1, some (.ro ((f.Next.Bits).map bytK))), (2, some (.ro ((f.Farm.Ends).map intK))), (3, some (.ro ((f.Farm.Shards).map (ShardD.k 98))))], [.agg [.v (.int .i64 f.Job.Prog), .v (.int .i64 f.Job.Src), .v (.int .i64 f.Iter), .v (.bool f.Done), .sl 0 1 0 (f.Vals).length, .v (.int .i64 f.Next.N), .sl 1 1 0 (f.Next.Bits).length, .v (.int .i64 f.Farm.N), .sl 2 1 0 (f.Farm.Ends).length, .sl 3 3 0 (f.Farm.Shards).length]], .agg [.v (.int .i64 f.Job.Prog), .v (.int .i64 f.Job.Src), .v (.int .i64 f.Iter), .v (.bool f.Done), .sl 0 1 0 f.Vals.length, .sl 4 1 0 (fvL f.Farm).length, .v (.int .i64 f.Next.N), .sl 1 1 0 f.Next.Bits.length], [(4, some (.row 3 ((fvL f.Farm).map intK)))], 5⟩ := by
  obtain ⟨e, e2, e3⟩ := fv_yes hf
  obtain ⟨h0, h1, h2, h3, h4⟩ := h
  have c := vals_k f.Farm ⟨h2, h3, h4⟩ _ rfl (by omega) hf.2.2.2.2.2.2.2.2
  rw [← e, ← e2] at c
  refine fnOK_of true mixed Try.func81 rfl (by rfl) (by rfl) ?_
  have hres := congrArg Array.toList Try.results81
  simp only [Try.ntmps81, BGB, seval]
  (have gx := @List.length_map.{0,0}; have q1 := c; refine go ?_; (repeat' (first | exact Ef.mk | refine Lf.mk ?_ ?_ | refine fun (K : KT) hK hE hT => ?_ | refine fun (KS : Eff → Prop) hKS => ?_ | refine fun (D : List Keys → Prop) hD => ?_ | refine fun (hg : (_ : Prop)) => ?_ | fail)); all_goals (first | (refine Wr.mk ?_; (try clear gx); (try clear q1); repeat (first | (clear hK hE hT; clear K) | (clear hR hE hT; clear K))) | assumption | skip))
  (refine post_a hres (.inl rfl) ?_; simp only [RSB, ENB, seval, tiAll, true_and]; simp only [MAB, seval]; refine ⟨rfl, rfl, ?_, ?_, ?_⟩ <;> (first | rfl | (simp [WKB, Nat.add_comm, true_and]; done) | (simp only [WKB, seval])))

set_option maxHeartbeats 8000000 in
theorem copyRun_k (x : RunD) (h : (x.Vals).length ≤ 1048576 ∧ (x.EVals).length ≤ 1048576 ∧ (x.Next.Bits).length ≤ 1048576) : FnOK Try.prog 84 ⟨3, [(0, some (.ro ((x.Vals).map intK))), (1, some (.ro ((x.EVals).map intK))), (2, some (.ro ((x.Next.Bits).map bytK)))], [.agg [.v (.int .i64 x.Job.Prog), .v (.int .i64 x.Job.Src), .v (.int .i64 x.Iter), .v (.bool x.Done), .sl 0 1 0 (x.Vals).length, .sl 1 1 0 (x.EVals).length, .v (.int .i64 x.Next.N), .sl 2 1 0 (x.Next.Bits).length]], .agg [.v (.int .i64 x.Job.Prog), .v (.int .i64 x.Job.Src), .v (.int .i64 x.Iter), .v (.bool x.Done), .sl 3 1 0 (x.Vals).length, .sl 4 1 0 (x.EVals).length, .v (.int .i64 x.Next.N), .sl 5 1 0 (x.Next.Bits).length], [(3, some (.row 3 ((x.Vals).map intK))), (4, some (.row 3 ((x.EVals).map intK))), (5, some (.row 5 ((x.Next.Bits).map bytK)))], 6⟩ := by
  obtain ⟨h0, h1, h2⟩ := h
  have c1 := copyInts_k x.Vals (by omega)
  have c2 := copyInts_k x.EVals (by omega)
  have c3 := copySet_k x.Next (by omega)
  refine fnOK_of true mixed Try.func84 rfl (by rfl) (by rfl) ?_
  have hres := congrArg Array.toList Try.results84
  simp only [Try.ntmps84, BGB, seval]
  (have gx := @List.length_map.{0,0}; have q1 := c1; have q2 := c2; have q3 := c3; refine go ?_; (repeat' (first | exact Ef.mk | refine Lf.mk ?_ ?_ | refine fun (K : KT) hK hE hT => ?_ | refine fun (KS : Eff → Prop) hKS => ?_ | refine fun (D : List Keys → Prop) hD => ?_ | refine fun (hg : (_ : Prop)) => ?_ | fail)); all_goals (first | (refine Wr.mk ?_; (try clear gx); (try clear q1 q2 q3); repeat (first | (clear hK hE hT; clear K) | (clear hR hE hT; clear K))) | assumption | skip))
  (refine post_a hres (.inl rfl) ?_; simp only [RSB, ENB, seval, tiAll, true_and]; simp only [MAB, seval]; refine ⟨rfl, rfl, ?_, ?_, ?_⟩ <;> (first | rfl | (simp [WKB, Nat.add_comm, true_and]; done) | (simp only [WKB, seval])))

set_option maxHeartbeats 8000000 in
theorem implFRunOk_k (f : FRunD) (h : (f.Vals).length ≤ 1048576 ∧ (f.Next.Bits).length ≤ 1048576 ∧ (f.Farm.Ends).length ≤ 1048576 ∧ (f.Farm.Shards).length ≤ 1048576 ∧ (∀ s ∈ f.Farm.Shards, s.Edges.length ≤ 1048576)) : FnOK Try.prog 25 ⟨4, [(0, some (.ro ((f.Vals).map intK))), (1, some (.ro ((f.Next.Bits).map bytK))), (2, some (.ro ((f.Farm.Ends).map intK))), (3, some (.ro ((f.Farm.Shards).map (ShardD.k 98))))], [.agg [.v (.int .i64 f.Job.Prog), .v (.int .i64 f.Job.Src), .v (.int .i64 f.Iter), .v (.bool f.Done), .sl 0 1 0 (f.Vals).length, .v (.int .i64 f.Next.N), .sl 1 1 0 (f.Next.Bits).length, .v (.int .i64 f.Farm.N), .sl 2 1 0 (f.Farm.Ends).length, .sl 3 3 0 (f.Farm.Shards).length]], .c (.v (.bool (pB (FrOk f)))), [], 4⟩ := by
  obtain ⟨h0, h1, h2, h3, h4⟩ := h
  have co := implFarmOk_k f.Farm ⟨h2, h3, h4⟩
  by_cases hf : FarmOk f.Farm
  case neg =>
    rw [pB_f (fun h : FrOk f => hf h.1)]
    rw [pB_f hf] at co
    refine fnOK_of true mixed Try.func25 rfl (by rfl) (by rfl) ?_
    have hres := congrArg Array.toList Try.results25
    simp only [Try.ntmps25, BGB, seval]
    (have gx := @List.length_map.{0,0}; have q1 := co; refine go ?_; (repeat' (first | exact Ef.mk | refine Lf.mk ?_ ?_ | refine fun (K : KT) hK hE hT => ?_ | refine fun (KS : Eff → Prop) hKS => ?_ | refine fun (D : List Keys → Prop) hD => ?_ | refine fun (hg : (_ : Prop)) => ?_ | fail)); all_goals (first | (refine Wr.mk ?_; (try clear gx); (try clear q1); repeat (first | (clear hK hE hT; clear K) | (clear hR hE hT; clear K))) | assumption | skip))
    all_goals (refine post_a hres (.inl rfl) ?_; simp only [RSB, ENB, seval, tiAll, true_and]; simp only [MAB, seval]; refine ⟨rfl, rfl, ?_, ?_, ?_⟩ <;> (first | rfl | (simp [WKB, Nat.add_comm, true_and]; done) | (simp only [WKB, seval])))
  case pos =>
    have hl := fvL_len f.Farm
    have hg := fgR_len f.Farm
    have cg := implFarmGraph_k f.Farm ⟨h2, h3, h4⟩
    have cr := frun_k f ⟨h0, h1, h2, h3, h4⟩ hf
    have ck := implRunOk_k (fgR f.Farm) (frunR f) (by omega) ⟨h0, by show (fvL f.Farm).length ≤ _; omega, h1⟩
    have e : pB (FrOk f) = runOk (fgR f.Farm) (frunR f) := by
      cases hr : runOk (fgR f.Farm) (frunR f) with
      | true => exact pB_t ⟨hf, hr⟩
      | false => exact pB_f fun h => by have h5 := h.2; rw [hr] at h5; cases h5
    rw [e]
    rw [pB_t hf] at co
    obtain ⟨q, hq⟩ : ∃ q, q = runOk (fgR f.Farm) (frunR f) := ⟨_, rfl⟩
    rw [← hq] at ck ⊢
    unfold frunR at ck
    dsimp only at ck
    refine fnOK_of true mixed Try.func25 rfl (by rfl) (by rfl) ?_
    have hres := congrArg Array.toList Try.results25
    simp only [Try.ntmps25, BGB, seval]
    (have gx := @List.length_map.{0,0}; have q1 := co; have q2 := cg; have q3 := cr; have q4 := ck; refine go ?_; (repeat' (first | exact Ef.mk | refine Lf.mk ?_ ?_ | refine fun (K : KT) hK hE hT => ?_ | refine fun (KS : Eff → Prop) hKS => ?_ | refine fun (D : List Keys → Prop) hD => ?_ | refine fun (hg : (_ : Prop)) => ?_ | fail)); all_goals (first | (refine Wr.mk ?_; (try clear gx); (try clear q1 q2 q3 q4); repeat (first | (clear hK hE hT; clear K) | (clear hR hE hT; clear K))) | assumption | skip))
    all_goals (refine post_a hres (.inl rfl) ?_; simp only [RSB, ENB, seval, tiAll, true_and]; simp only [MAB, seval]; refine ⟨rfl, rfl, ?_, ?_, ?_⟩ <;> (first | rfl | (simp [WKB, Nat.add_comm, true_and]; done) | (simp only [WKB, seval])))

set_option maxHeartbeats 8000000 in
theorem implBack_k (f : FRunD) (h : (f.Vals).length ≤ 1048576 ∧ (f.Next.Bits).length ≤ 1048576 ∧ (f.Farm.Ends).length ≤ 1048576 ∧ (f.Farm.Shards).length ≤ 1048576 ∧ (∀ s ∈ f.Farm.Shards, s.Edges.length ≤ 1048576)) : FnOK Try.prog 28 ⟨4, [(0, some (.ro ((f.Vals).map intK))), (1, some (.ro ((f.Next.Bits).map bytK))), (2, some (.ro ((f.Farm.Ends).map intK))), (3, some (.ro ((f.Farm.Shards).map (ShardD.k 98))))], [.agg [.v (.int .i64 f.Job.Prog), .v (.int .i64 f.Job.Src), .v (.int .i64 f.Iter), .v (.bool f.Done), .sl 0 1 0 (f.Vals).length, .v (.int .i64 f.Next.N), .sl 1 1 0 (f.Next.Bits).length, .v (.int .i64 f.Farm.N), .sl 2 1 0 (f.Farm.Ends).length, .sl 3 3 0 (f.Farm.Shards).length]], .agg [.v (.int .i64 (bkR f).Job.Prog), .v (.int .i64 (bkR f).Job.Src), .v (.int .i64 (bkR f).Iter), .v (.bool (bkR f).Done), .sl 4 1 0 ((bkR f).Vals).length, .sl 5 1 0 ((bkR f).EVals).length, .v (.int .i64 (bkR f).Next.N), .sl 6 1 0 ((bkR f).Next.Bits).length], [(4, some (.row 3 (((bkR f).Vals).map intK))), (5, some (.row 3 (((bkR f).EVals).map intK))), (6, some (.row 5 (((bkR f).Next.Bits).map bytK)))], 7⟩ := by
  have co := implFRunOk_k f h
  obtain ⟨h0, h1, h2, h3, h4⟩ := h
  by_cases hf : FrOk f
  case neg =>
    rw [bk_no hf]
    rw [pB_f hf] at co
    refine fnOK_of true mixed Try.func28 rfl (by rfl) (by rfl) ?_
    have hres := congrArg Array.toList Try.results28
    simp only [Try.ntmps28, BGB, seval]
    (have gx := @List.length_map.{0,0}; have q1 := co; refine go ?_; (repeat' (first | exact Ef.mk | refine Lf.mk ?_ ?_ | refine fun (K : KT) hK hE hT => ?_ | refine fun (KS : Eff → Prop) hKS => ?_ | refine fun (D : List Keys → Prop) hD => ?_ | refine fun (hg : (_ : Prop)) => ?_ | fail)); all_goals (first | (refine Wr.mk ?_; (try clear gx); (try clear q1); repeat (first | (clear hK hE hT; clear K) | (clear hR hE hT; clear K))) | assumption | skip))
    all_goals (refine post_a hres (.inl rfl) ?_; simp only [RSB, ENB, seval, tiAll, true_and]; simp only [MAB, seval]; refine ⟨rfl, rfl, ?_, ?_, ?_⟩ <;> (first | rfl | (simp [WKB, Nat.add_comm, true_and]; done) | (simp only [WKB, seval])))
  case pos =>
    rw [bk_yes hf]
    rw [pB_t hf] at co
    have hl := fvL_len f.Farm
    have cr := frun_k f ⟨h0, h1, h2, h3, h4⟩ hf.1
    have cc := copyRun_k (frunR f) ⟨h0, by show (fvL f.Farm).length ≤ _; omega, h1⟩
    unfold frunR at cc ⊢
    dsimp only at cc ⊢
    refine fnOK_of true mixed Try.func28 rfl (by rfl) (by rfl) ?_
    have hres := congrArg Array.toList Try.results28
    simp only [Try.ntmps28, BGB, seval]
    (have gx := @List.length_map.{0,0}; have q1 := co; have q2 := cr; have q3 := cc; refine go ?_; (repeat' (first | exact Ef.mk | refine Lf.mk ?_ ?_ | refine fun (K : KT) hK hE hT => ?_ | refine fun (KS : Eff → Prop) hKS => ?_ | refine fun (D : List Keys → Prop) hD => ?_ | refine fun (hg : (_ : Prop)) => ?_ | fail)); all_goals (first | (refine Wr.mk ?_; (try clear gx); (try clear q1 q2 q3); repeat (first | (clear hK hE hT; clear K) | (clear hR hE hT; clear K))) | assumption | skip))
    all_goals (refine post_a hres (.inl rfl) ?_; simp only [RSB, ENB, seval, tiAll, true_and]; simp only [MAB, seval]; refine ⟨rfl, rfl, ?_, ?_, ?_⟩ <;> (first | rfl | (simp [WKB, Nat.add_comm, true_and]; done) | (simp only [WKB, seval])))

end Go.Proofs.Ytfkpmhnfpljakaa
