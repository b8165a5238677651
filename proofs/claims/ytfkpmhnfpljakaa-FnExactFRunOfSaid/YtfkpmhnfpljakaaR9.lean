/-
  Runs in farms by the reference; runs put into farms by both. No conditions of its own.
-/
import Derived.Test.YtfkpmhnfpljakaaGO
import Derived.Test.YtfkpmhnfpljakaaR8
import Derived.Test.YtfkpmhnfpljakaaQ2
namespace Go.Proofs.Ytfkpmhnfpljakaa
set_option linter.unusedSimpArgs false
set_option linter.unusedVariables false
set_option linter.unusedSimpArgs false
set_option linter.unusedVariables false
set_option linter.defProp false
set_option maxRecDepth 20000
open Go.RowKit
attribute [local irreducible] lexD

set_option maxHeartbeats 8000000 in
theorem l13Run_k (f : FRunD) (h : (f.Vals).length ≤ 1048576 ∧ (f.Next.Bits).length ≤ 1048576 ∧ (f.Farm.Ends).length ≤ 1048576 ∧ (f.Farm.Shards).length ≤ 1048576 ∧ (∀ s ∈ f.Farm.Shards, s.Edges.length ≤ 1048576)) : FnOK Try.prog 76 ⟨4, [(0, some (.ro ((f.Vals).map intK))), (1, some (.ro ((f.Next.Bits).map bytK))), (2, some (.ro ((f.Farm.Ends).map intK))), (3, some (.ro ((f.Farm.Shards).map (ShardD.k 98))))], [.agg [.v (.int .i64 f.Job.Prog), .v (.int .i64 f.Job.Src), .v (.int .i64 f.Iter), .v (.bool f.Done), .sl 0 1 0 (f.Vals).length, .v (.int .i64 f.Next.N), .sl 1 1 0 (f.Next.Bits).length, .v (.int .i64 f.Farm.N), .sl 2 1 0 (f.Farm.Ends).length, .sl 3 3 0 (f.Farm.Shards).length]], .agg [.v (.int .i64 (frunR f).Job.Prog), .v (.int .i64 (frunR f).Job.Src), .v (.int .i64 (frunR f).Iter), .v (.bool (frunR f).Done), .sl 4 1 0 ((frunR f).Vals).length, .sl 5 1 0 ((frunR f).EVals).length, .v (.int .i64 (frunR f).Next.N), .sl 6 1 0 ((frunR f).Next.Bits).length], [(4, some (.row 3 (((frunR f).Vals).map intK))), (5, some (.row 3 (((frunR f).EVals).map intK))), (6, some (.row 5 (((frunR f).Next.Bits).map bytK)))], 7⟩ := by
  obtain ⟨h0, h1, h2, h3, h4⟩ := h
  have cv := specFarmVals_k f.Farm ⟨h2, h3, h4⟩
  have cc := l09Copy_k f.Next (by omega)
  have t1 : (f.Vals.map intK).take f.Vals.length = f.Vals.map intK := List.take_of_length_le (by simp)
  unfold frunR
  dsimp only
  refine fnOK_of true mixed Try.func76 rfl (by rfl) (by rfl) ?_
  have hres := congrArg Array.toList Try.results76
  simp only [Try.ntmps76, BGB, seval]
  (have gx := And.intro @List.length_map.{0,0} @t1; have q1 := cv; have q2 := cc; refine go ?_; (repeat' (first | exact Ef.mk | refine Lf.mk ?_ ?_ | refine fun (K : KT) hK hE hT => ?_ | refine fun (KS : Eff → Prop) hKS => ?_ | refine fun (D : List Keys → Prop) hD => ?_ | refine fun (hg : (_ : Prop)) => ?_ | fail)); all_goals (first | (refine Wr.mk ?_; (try clear gx); (try clear q1 q2); repeat (first | (clear hK hE hT; clear K) | (clear hR hE hT; clear K))) | assumption | skip))
  (refine post_a hres (.inl rfl) ?_; simp only [RSB, ENB, seval, tiAll, true_and]; simp only [MAB, seval]; refine ⟨rfl, rfl, ?_, ?_, ?_⟩ <;> (first | rfl | (simp [WKB, Nat.add_comm, true_and]; done) | (simp only [WKB, seval])))

set_option maxHeartbeats 8000000 in
theorem specFRunOk_k (f : FRunD) (h : (f.Vals).length ≤ 1048576 ∧ (f.Next.Bits).length ≤ 1048576 ∧ (f.Farm.Ends).length ≤ 1048576 ∧ (f.Farm.Shards).length ≤ 1048576 ∧ (∀ s ∈ f.Farm.Shards, s.Edges.length ≤ 1048576)) : FnOK Try.prog 23 ⟨4, [(0, some (.ro ((f.Vals).map intK))), (1, some (.ro ((f.Next.Bits).map bytK))), (2, some (.ro ((f.Farm.Ends).map intK))), (3, some (.ro ((f.Farm.Shards).map (ShardD.k 98))))], [.agg [.v (.int .i64 f.Job.Prog), .v (.int .i64 f.Job.Src), .v (.int .i64 f.Iter), .v (.bool f.Done), .sl 0 1 0 (f.Vals).length, .v (.int .i64 f.Next.N), .sl 1 1 0 (f.Next.Bits).length, .v (.int .i64 f.Farm.N), .sl 2 1 0 (f.Farm.Ends).length, .sl 3 3 0 (f.Farm.Shards).length]], .c (.v (.bool (pB (FrOk f)))), [], 4⟩ := by
  have cr := l13Run_k f h
  obtain ⟨h0, h1, h2, h3, h4⟩ := h
  have co := specFarmOk_k f.Farm ⟨h2, h3, h4⟩
  by_cases hf : FarmOk f.Farm
  case neg =>
    rw [pB_f (fun h : FrOk f => hf h.1)]
    rw [pB_f hf] at co
    refine fnOK_of true mixed Try.func23 rfl (by rfl) (by rfl) ?_
    have hres := congrArg Array.toList Try.results23
    simp only [Try.ntmps23, BGB, seval]
    (have gx := @List.length_map.{0,0}; have q1 := co; refine go ?_; (repeat' (first | exact Ef.mk | refine Lf.mk ?_ ?_ | refine fun (K : KT) hK hE hT => ?_ | refine fun (KS : Eff → Prop) hKS => ?_ | refine fun (D : List Keys → Prop) hD => ?_ | refine fun (hg : (_ : Prop)) => ?_ | fail)); all_goals (first | (refine Wr.mk ?_; (try clear gx); (try clear q1); repeat (first | (clear hK hE hT; clear K) | (clear hR hE hT; clear K))) | assumption | skip))
    all_goals (refine post_a hres (.inl rfl) ?_; simp only [RSB, ENB, seval, tiAll, true_and]; simp only [MAB, seval]; refine ⟨rfl, rfl, ?_, ?_, ?_⟩ <;> (first | rfl | (simp [WKB, Nat.add_comm, true_and]; done) | (simp only [WKB, seval])))
  case pos =>
    have hl := fvL_len f.Farm
    have hg := fgR_len f.Farm
    have cg := specFarmGraph_k f.Farm ⟨h2, h3, h4⟩
    have ck := specRunOk_k (fgR f.Farm) (frunR f) (by omega) ⟨h0, by show (fvL f.Farm).length ≤ _; omega, h1⟩
    have e : pB (FrOk f) = runOk (fgR f.Farm) (frunR f) := by
      cases hr : runOk (fgR f.Farm) (frunR f) with
      | true => exact pB_t ⟨hf, hr⟩
      | false => exact pB_f fun h => by have h5 := h.2; rw [hr] at h5; cases h5
    rw [e]
    rw [pB_t hf] at co
    obtain ⟨q, hq⟩ : ∃ q, q = runOk (fgR f.Farm) (frunR f) := ⟨_, rfl⟩
    rw [← hq] at ck ⊢
    refine fnOK_of true mixed Try.func23 rfl (by rfl) (by rfl) ?_
    have hres := congrArg Array.toList Try.results23
    simp only [Try.ntmps23, BGB, seval]
    (have gx := @List.length_map.{0,0}; have q1 := co; have q2 := cg; have q3 := cr; have q4 := ck; refine go ?_; (repeat' (first | exact Ef.mk | refine Lf.mk ?_ ?_ | refine fun (K : KT) hK hE hT => ?_ | refine fun (KS : Eff → Prop) hKS => ?_ | refine fun (D : List Keys → Prop) hD => ?_ | refine fun (hg : (_ : Prop)) => ?_ | fail)); all_goals (first | (refine Wr.mk ?_; (try clear gx); (try clear q1 q2 q3 q4); repeat (first | (clear hK hE hT; clear K) | (clear hR hE hT; clear K))) | assumption | skip))
    all_goals (refine post_a hres (.inl rfl) ?_; simp only [RSB, ENB, seval, tiAll, true_and]; simp only [MAB, seval]; refine ⟨rfl, rfl, ?_, ?_, ?_⟩ <;> (first | rfl | (simp [WKB, Nat.add_comm, true_and]; done) | (simp only [WKB, seval])))

set_option maxHeartbeats 8000000 in
theorem specBack_k (f : FRunD) (h : (f.Vals).length ≤ 1048576 ∧ (f.Next.Bits).length ≤ 1048576 ∧ (f.Farm.Ends).length ≤ 1048576 ∧ (f.Farm.Shards).length ≤ 1048576 ∧ (∀ s ∈ f.Farm.Shards, s.Edges.length ≤ 1048576)) : FnOK Try.prog 27 ⟨4, [(0, some (.ro ((f.Vals).map intK))), (1, some (.ro ((f.Next.Bits).map bytK))), (2, some (.ro ((f.Farm.Ends).map intK))), (3, some (.ro ((f.Farm.Shards).map (ShardD.k 98))))], [.agg [.v (.int .i64 f.Job.Prog), .v (.int .i64 f.Job.Src), .v (.int .i64 f.Iter), .v (.bool f.Done), .sl 0 1 0 (f.Vals).length, .v (.int .i64 f.Next.N), .sl 1 1 0 (f.Next.Bits).length, .v (.int .i64 f.Farm.N), .sl 2 1 0 (f.Farm.Ends).length, .sl 3 3 0 (f.Farm.Shards).length]], .agg [.v (.int .i64 (bkR f).Job.Prog), .v (.int .i64 (bkR f).Job.Src), .v (.int .i64 (bkR f).Iter), .v (.bool (bkR f).Done), .sl 4 1 0 ((bkR f).Vals).length, .sl 5 1 0 ((bkR f).EVals).length, .v (.int .i64 (bkR f).Next.N), .sl 6 1 0 ((bkR f).Next.Bits).length], [(4, some (.row 3 (((bkR f).Vals).map intK))), (5, some (.row 3 (((bkR f).EVals).map intK))), (6, some (.row 5 (((bkR f).Next.Bits).map bytK)))], 7⟩ := by
  have co := specFRunOk_k f h
  have cr := l13Run_k f h
  obtain ⟨h0, h1, h2, h3, h4⟩ := h
  by_cases hf : FrOk f
  case neg =>
    rw [bk_no hf]
    rw [pB_f hf] at co
    refine fnOK_of true mixed Try.func27 rfl (by rfl) (by rfl) ?_
    have hres := congrArg Array.toList Try.results27
    simp only [Try.ntmps27, BGB, seval]
    (have gx := @List.length_map.{0,0}; have q1 := co; refine go ?_; (repeat' (first | exact Ef.mk | refine Lf.mk ?_ ?_ | refine fun (K : KT) hK hE hT => ?_ | refine fun (KS : Eff → Prop) hKS => ?_ | refine fun (D : List Keys → Prop) hD => ?_ | refine fun (hg : (_ : Prop)) => ?_ | fail)); all_goals (first | (refine Wr.mk ?_; (try clear gx); (try clear q1); repeat (first | (clear hK hE hT; clear K) | (clear hR hE hT; clear K))) | assumption | skip))
    all_goals (refine post_a hres (.inl rfl) ?_; simp only [RSB, ENB, seval, tiAll, true_and]; simp only [MAB, seval]; refine ⟨rfl, rfl, ?_, ?_, ?_⟩ <;> (first | rfl | (simp [WKB, Nat.add_comm, true_and]; done) | (simp only [WKB, seval])))
  case pos =>
    rw [bk_yes hf]
    rw [pB_t hf] at co
    refine fnOK_of true mixed Try.func27 rfl (by rfl) (by rfl) ?_
    have hres := congrArg Array.toList Try.results27
    simp only [Try.ntmps27, BGB, seval]
    (have gx := @List.length_map.{0,0}; have q1 := co; have q2 := cr; refine go ?_; (repeat' (first | exact Ef.mk | refine Lf.mk ?_ ?_ | refine fun (K : KT) hK hE hT => ?_ | refine fun (KS : Eff → Prop) hKS => ?_ | refine fun (D : List Keys → Prop) hD => ?_ | refine fun (hg : (_ : Prop)) => ?_ | fail)); all_goals (first | (refine Wr.mk ?_; (try clear gx); (try clear q1 q2); repeat (first | (clear hK hE hT; clear K) | (clear hR hE hT; clear K))) | assumption | skip))
    all_goals (refine post_a hres (.inl rfl) ?_; simp only [RSB, ENB, seval, tiAll, true_and]; simp only [MAB, seval]; refine ⟨rfl, rfl, ?_, ?_, ?_⟩ <;> (first | rfl | (simp [WKB, Nat.add_comm, true_and]; done) | (simp only [WKB, seval])))

/-- A run fits a farm. -/
def FoOk (f : FarmD) (r : RunD) : Prop := FarmOk f ∧ runOk (fgR f) r = true
noncomputable def foR (f : FarmD) (r : RunD) : FRunD := if pB (FoOk f r) then ⟨r.Job, r.Iter, r.Done, r.Vals, r.Next, fwR f r.EVals⟩ else ⟨⟨0, 0⟩, 0, false, [], ⟨0, []⟩, ⟨0, [], []⟩⟩
theorem fo_no {f : FarmD} {r : RunD} (h : ¬ FoOk f r) : foR f r = ⟨⟨0, 0⟩, 0, false, [], ⟨0, []⟩, ⟨0, [], []⟩⟩ := by unfold foR; rw [pB_f h]; rfl
theorem fo_yes {f : FarmD} {r : RunD} (h : FoOk f r) : foR f r = ⟨r.Job, r.Iter, r.Done, r.Vals, r.Next, fwR f r.EVals⟩ := by unfold foR; rw [pB_t h]; rfl
theorem fg_len {f : FarmD} (h : FarmOk f) : (fgR f).Edges.length = edSum f.Shards := by
  have e : fgR f = ⟨f.N, edgesL (edSum f.Shards) (allE f.Shards)⟩ := by unfold fgR; rw [pB_t h, if_pos rfl]
  rw [e, edgesL_len]
theorem fo_fw {f : FarmD} {r : RunD} (h : FoOk f r) : FwOk f r.EVals := by
  obtain ⟨h1, h2⟩ := h
  have hl := fg_len h1
  unfold runOk at h2
  simp only [Bool.and_eq_true, decide_eq_true_eq] at h2
  refine ⟨h1, ?_, ?_⟩
  · omega
  · simp_all

end Go.Proofs.Ytfkpmhnfpljakaa
