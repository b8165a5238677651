/-
  The engine, texts R8 R9 R10 in one. No conditions of its own.
-/
import Derived.Test.YtfnhchcgieeedaaGreatGO
import Derived.Test.YtfnhchcgieeedaaGreatZz2
import Derived.Test.YtfnhchcgieeedaaGreatZz5
import Derived.Test.YtfnhchcgieeedaaGreatMKA
import Derived.Test.YtfnhchcgieeedaaGreatMQA
namespace Go.Proofs.YtfnhchcgieeedaaGreat
set_option linter.unusedSimpArgs false
set_option linter.unusedVariables false
set_option linter.unusedSimpArgs false
set_option linter.unusedVariables false
set_option linter.defProp false
set_option maxRecDepth 20000
open Go.RowKit
attribute [local irreducible] lexD

/-- The run of a valid farm's run. -/
noncomputable def frunR (f : FRunD) : RunD := ⟨f.Job, f.Iter, f.Done, f.Vals, fvL f.Farm, f.Next⟩
def FrOk (f : FRunD) : Prop := FarmOk f.Farm ∧ runOk (fgR f.Farm) (frunR f) = true
noncomputable def bkR (f : FRunD) : RunD := if pB (FrOk f) then frunR f else ⟨⟨0, 0⟩, 0, false, [], [], ⟨0, []⟩⟩
theorem bk_no {f : FRunD} (h : ¬ FrOk f) : bkR f = ⟨⟨0, 0⟩, 0, false, [], [], ⟨0, []⟩⟩ := by unfold bkR; rw [pB_f h]; rfl
theorem bk_yes {f : FRunD} (h : FrOk f) : bkR f = frunR f := by unfold bkR; rw [pB_t h]; rfl
theorem fv_yes {f : FarmD} (h : FarmOk f) : fvL f = valsL (edSum f.Shards) (allE f.Shards) ∧ (fvL f).length = edSum f.Shards ∧ edSum f.Shards ≤ 400 := by
  have e : fvL f = valsL (edSum f.Shards) (allE f.Shards) := by unfold fvL; rw [pB_t h, if_pos rfl]
  exact ⟨e, by rw [e, valsL_len], h.2.2.2.2.2.2.2.1⟩

set_option maxHeartbeats 8000000 in
theorem frun_k (f : FRunD) (h : (f.Vals).length ≤ 1048576 ∧ (f.Next.Bits).length ≤ 1048576 ∧ (f.Farm.Ends).length ≤ 1048576 ∧ (f.Farm.Shards).length ≤ 1048576 ∧ (∀ s ∈ f.Farm.Shards, s.Edges.length ≤ 1048576)) (hf : FarmOk f.Farm) : FnOK Tryz.prog 35 ⟨4, [(0, some (.ro ((f.Vals).map intK))), (1, some (.ro ((f.Next.Bits).map bytK))), (2, some (.ro ((f.Farm.Ends).map intK))), (3, some (.ro ((f.Farm.Shards).map (ShardD.k 101))))], [.agg [.v (.int .i64 f.Job.Prog), .v (.int .i64 f.Job.Src), .v (.int .i64 f.Iter), .v (.bool f.Done), .sl 0 1 0 (f.Vals).length, .v (.int .i64 f.Next.N), .sl 1 1 0 (f.Next.Bits).length, .v (.int .i64 f.Farm.N), .sl 2 1 0 (f.Farm.Ends).length, .sl 3 3 0 (f.Farm.Shards).length]], .agg [.v (.int .i64 f.Job.Prog), .v (.int .i64 f.Job.Src), .v (.int .i64 f.Iter), .v (.bool f.Done), .sl 0 1 0 f.Vals.length, .sl 4 1 0 (fvL f.Farm).length, .v (.int .i64 f.Next.N), .sl 1 1 0 f.Next.Bits.length], [(4, some (.row 3 ((fvL f.Farm).map intK)))], 5⟩ := by
  obtain ⟨e, e2, e3⟩ := fv_yes hf
  obtain ⟨h0, h1, h2, h3, h4⟩ := h
  have c := vals_k f.Farm ⟨h2, h3, h4⟩ _ rfl (by omega) hf.2.2.2.2.2.2.2.2
  rw [← e, ← e2] at c
  refine fnOK_of true mixed Tryz.func35 rfl (by rfl) (by rfl) ?_
  have hres := congrArg Array.toList Tryz.results35
  simp only [Tryz.ntmps35, BGB, seval]
  (have gx := @List.length_map.{0,0}; have q1 := c; refine go ?_; (repeat' first | exact Ef.mk | apply Lf.mk | refine fun (K : KT) hK hE hT => ?_ | refine fun (KS : KE) hKS => ?_ | refine fun (D : KD) hD => ?_ | refine fun (hg : (_ : Prop)) => ?_ | fail); all_goals (first | (refine Wr.mk ?_; (try clear gx q1); repeat first | clear hK hE hT K | clear hR hE hT K) | assumption | skip))
  (refine post_a hres (.inl rfl) ?_; simp only [RSB, ENB, seval, tiAll, true_and]; simp only [MAB, seval]; refine ⟨rfl, rfl, ?_, ?_, ?_⟩ <;> (first | rfl | (simp [WKB, Nat.add_comm, true_and]; done) | (simp only [WKB, seval])))

set_option maxHeartbeats 8000000 in
theorem copyRunB_k (x : RunD) (h : (x.Vals).length ≤ 1048576 ∧ (x.EVals).length ≤ 1048576 ∧ (x.Next.Bits).length ≤ 1048576) : FnOK Tryz.prog 34 ⟨3, [(0, some (.ro ((x.Vals).map intK))), (1, some (.ro ((x.EVals).map intK))), (2, some (.ro ((x.Next.Bits).map bytK)))], [.agg [.v (.int .i64 x.Job.Prog), .v (.int .i64 x.Job.Src), .v (.int .i64 x.Iter), .v (.bool x.Done), .sl 0 1 0 (x.Vals).length, .sl 1 1 0 (x.EVals).length, .v (.int .i64 x.Next.N), .sl 2 1 0 (x.Next.Bits).length]], .agg [.v (.int .i64 x.Job.Prog), .v (.int .i64 x.Job.Src), .v (.int .i64 x.Iter), .v (.bool x.Done), .sl 3 1 0 (x.Vals).length, .sl 4 1 0 (x.EVals).length, .v (.int .i64 x.Next.N), .sl 5 1 0 (x.Next.Bits).length], [(3, some (.row 3 ((x.Vals).map intK))), (4, some (.row 3 ((x.EVals).map intK))), (5, some (.row 5 ((x.Next.Bits).map bytK)))], 6⟩ := by
  obtain ⟨h0, h1, h2⟩ := h
  have c1 := copyInts_k x.Vals (by omega)
  have c2 := copyInts_k x.EVals (by omega)
  have c3 := copySet_k x.Next (by omega)
  refine fnOK_of true mixed Tryz.func34 rfl (by rfl) (by rfl) ?_
  have hres := congrArg Array.toList Tryz.results34
  simp only [Tryz.ntmps34, BGB, seval]
  (have gx := @List.length_map.{0,0}; have q1 := c1; have q2 := c2; have q3 := c3; refine go ?_; (repeat' first | exact Ef.mk | apply Lf.mk | refine fun (K : KT) hK hE hT => ?_ | refine fun (KS : KE) hKS => ?_ | refine fun (D : KD) hD => ?_ | refine fun (hg : (_ : Prop)) => ?_ | fail); all_goals (first | (refine Wr.mk ?_; (try clear gx q1 q2 q3); repeat first | clear hK hE hT K | clear hR hE hT K) | assumption | skip))
  (refine post_a hres (.inl rfl) ?_; simp only [RSB, ENB, seval, tiAll, true_and]; simp only [MAB, seval]; refine ⟨rfl, rfl, ?_, ?_, ?_⟩ <;> (first | rfl | (simp [WKB, Nat.add_comm, true_and]; done) | (simp only [WKB, seval])))

set_option maxHeartbeats 8000000 in
theorem implFRunOk_k (f : FRunD) (h : (f.Vals).length ≤ 1048576 ∧ (f.Next.Bits).length ≤ 1048576 ∧ (f.Farm.Ends).length ≤ 1048576 ∧ (f.Farm.Shards).length ≤ 1048576 ∧ (∀ s ∈ f.Farm.Shards, s.Edges.length ≤ 1048576)) : FnOK Tryz.prog 33 ⟨4, [(0, some (.ro ((f.Vals).map intK))), (1, some (.ro ((f.Next.Bits).map bytK))), (2, some (.ro ((f.Farm.Ends).map intK))), (3, some (.ro ((f.Farm.Shards).map (ShardD.k 101))))], [.agg [.v (.int .i64 f.Job.Prog), .v (.int .i64 f.Job.Src), .v (.int .i64 f.Iter), .v (.bool f.Done), .sl 0 1 0 (f.Vals).length, .v (.int .i64 f.Next.N), .sl 1 1 0 (f.Next.Bits).length, .v (.int .i64 f.Farm.N), .sl 2 1 0 (f.Farm.Ends).length, .sl 3 3 0 (f.Farm.Shards).length]], .c (.v (.bool (pB (FrOk f)))), [], 4⟩ := by
  obtain ⟨h0, h1, h2, h3, h4⟩ := h
  have co := implFarmOk_k f.Farm ⟨h2, h3, h4⟩
  by_cases hf : FarmOk f.Farm
  case neg =>
    rw [pB_f (fun h : FrOk f => hf h.1)]
    rw [pB_f hf] at co
    refine fnOK_of true mixed Tryz.func33 rfl (by rfl) (by rfl) ?_
    have hres := congrArg Array.toList Tryz.results33
    simp only [Tryz.ntmps33, BGB, seval]
    (have gx := @List.length_map.{0,0}; have q1 := co; refine go ?_; (repeat' first | exact Ef.mk | apply Lf.mk | refine fun (K : KT) hK hE hT => ?_ | refine fun (KS : KE) hKS => ?_ | refine fun (D : KD) hD => ?_ | refine fun (hg : (_ : Prop)) => ?_ | fail); all_goals (first | (refine Wr.mk ?_; (try clear gx q1); repeat first | clear hK hE hT K | clear hR hE hT K) | assumption | skip))
    all_goals (refine post_a hres (.inl rfl) ?_; simp only [RSB, ENB, seval, tiAll, true_and]; simp only [MAB, seval]; refine ⟨rfl, rfl, ?_, ?_, ?_⟩ <;> (first | rfl | (simp [WKB, Nat.add_comm, true_and]; done) | (simp only [WKB, seval])))
  case pos =>
    have hl := fvL_len f.Farm
    have hg := fgR_len f.Farm
    have cg := implFarmGraph_k f.Farm ⟨h2, h3, h4⟩
    have cr := frun_k f ⟨h0, h1, h2, h3, h4⟩ hf
    have ck := implRunOk_k (fgR f.Farm) (frunR f) (by omega) ⟨h0, by show (fvL f.Farm).length ≤ _; omega, h1⟩
    have e : pB (FrOk f) = runOk (fgR f.Farm) (frunR f) := by
      cases hr : runOk (fgR f.Farm) (frunR f) with
      | true => exact pB_t ⟨hf, hr⟩
      | false => exact pB_f fun h => by have h5 := h.2; rw [hr] at h5; cases h5
    rw [e]
    rw [pB_t hf] at co
    obtain ⟨q, hq⟩ : ∃ q, q = runOk (fgR f.Farm) (frunR f) := ⟨_, rfl⟩
    rw [← hq] at ck ⊢
    unfold frunR at ck
    dsimp only at ck
    refine fnOK_of true mixed Tryz.func33 rfl (by rfl) (by rfl) ?_
    have hres := congrArg Array.toList Tryz.results33
    simp only [Tryz.ntmps33, BGB, seval]
    (have gx := @List.length_map.{0,0}; have q1 := co; have q2 := cg; have q3 := cr; have q4 := ck; refine go ?_; (repeat' first | exact Ef.mk | apply Lf.mk | refine fun (K : KT) hK hE hT => ?_ | refine fun (KS : KE) hKS => ?_ | refine fun (D : KD) hD => ?_ | refine fun (hg : (_ : Prop)) => ?_ | fail); all_goals (first | (refine Wr.mk ?_; (try clear gx q1 q2 q3 q4); repeat first | clear hK hE hT K | clear hR hE hT K) | assumption | skip))
    all_goals (refine post_a hres (.inl rfl) ?_; simp only [RSB, ENB, seval, tiAll, true_and]; simp only [MAB, seval]; refine ⟨rfl, rfl, ?_, ?_, ?_⟩ <;> (first | rfl | (simp [WKB, Nat.add_comm, true_and]; done) | (simp only [WKB, seval])))

set_option maxHeartbeats 8000000 in
theorem implBack_k (f : FRunD) (h : (f.Vals).length ≤ 1048576 ∧ (f.Next.Bits).length ≤ 1048576 ∧ (f.Farm.Ends).length ≤ 1048576 ∧ (f.Farm.Shards).length ≤ 1048576 ∧ (∀ s ∈ f.Farm.Shards, s.Edges.length ≤ 1048576)) : FnOK Tryz.prog 11 ⟨4, [(0, some (.ro ((f.Vals).map intK))), (1, some (.ro ((f.Next.Bits).map bytK))), (2, some (.ro ((f.Farm.Ends).map intK))), (3, some (.ro ((f.Farm.Shards).map (ShardD.k 101))))], [.agg [.v (.int .i64 f.Job.Prog), .v (.int .i64 f.Job.Src), .v (.int .i64 f.Iter), .v (.bool f.Done), .sl 0 1 0 (f.Vals).length, .v (.int .i64 f.Next.N), .sl 1 1 0 (f.Next.Bits).length, .v (.int .i64 f.Farm.N), .sl 2 1 0 (f.Farm.Ends).length, .sl 3 3 0 (f.Farm.Shards).length]], .agg [.v (.int .i64 (bkR f).Job.Prog), .v (.int .i64 (bkR f).Job.Src), .v (.int .i64 (bkR f).Iter), .v (.bool (bkR f).Done), .sl 4 1 0 ((bkR f).Vals).length, .sl 5 1 0 ((bkR f).EVals).length, .v (.int .i64 (bkR f).Next.N), .sl 6 1 0 ((bkR f).Next.Bits).length], [(4, some (.row 3 (((bkR f).Vals).map intK))), (5, some (.row 3 (((bkR f).EVals).map intK))), (6, some (.row 5 (((bkR f).Next.Bits).map bytK)))], 7⟩ := by
  have co := implFRunOk_k f h
  obtain ⟨h0, h1, h2, h3, h4⟩ := h
  by_cases hf : FrOk f
  case neg =>
    rw [bk_no hf]
    rw [pB_f hf] at co
    refine fnOK_of true mixed Tryz.func11 rfl (by rfl) (by rfl) ?_
    have hres := congrArg Array.toList Tryz.results11
    simp only [Tryz.ntmps11, BGB, seval]
    (have gx := @List.length_map.{0,0}; have q1 := co; refine go ?_; (repeat' first | exact Ef.mk | apply Lf.mk | refine fun (K : KT) hK hE hT => ?_ | refine fun (KS : KE) hKS => ?_ | refine fun (D : KD) hD => ?_ | refine fun (hg : (_ : Prop)) => ?_ | fail); all_goals (first | (refine Wr.mk ?_; (try clear gx q1); repeat first | clear hK hE hT K | clear hR hE hT K) | assumption | skip))
    all_goals (refine post_a hres (.inl rfl) ?_; simp only [RSB, ENB, seval, tiAll, true_and]; simp only [MAB, seval]; refine ⟨rfl, rfl, ?_, ?_, ?_⟩ <;> (first | rfl | (simp [WKB, Nat.add_comm, true_and]; done) | (simp only [WKB, seval])))
  case pos =>
    rw [bk_yes hf]
    rw [pB_t hf] at co
    have hl := fvL_len f.Farm
    have cr := frun_k f ⟨h0, h1, h2, h3, h4⟩ hf.1
    have cc := copyRunB_k (frunR f) ⟨h0, by show (fvL f.Farm).length ≤ _; omega, h1⟩
    unfold frunR at cc ⊢
    dsimp only at cc ⊢
    refine fnOK_of true mixed Tryz.func11 rfl (by rfl) (by rfl) ?_
    have hres := congrArg Array.toList Tryz.results11
    simp only [Tryz.ntmps11, BGB, seval]
    (have gx := @List.length_map.{0,0}; have q1 := co; have q2 := cr; have q3 := cc; refine go ?_; (repeat' first | exact Ef.mk | apply Lf.mk | refine fun (K : KT) hK hE hT => ?_ | refine fun (KS : KE) hKS => ?_ | refine fun (D : KD) hD => ?_ | refine fun (hg : (_ : Prop)) => ?_ | fail); all_goals (first | (refine Wr.mk ?_; (try clear gx q1 q2 q3); repeat first | clear hK hE hT K | clear hR hE hT K) | assumption | skip))
    all_goals (refine post_a hres (.inl rfl) ?_; simp only [RSB, ENB, seval, tiAll, true_and]; simp only [MAB, seval]; refine ⟨rfl, rfl, ?_, ?_, ?_⟩ <;> (first | rfl | (simp [WKB, Nat.add_comm, true_and]; done) | (simp only [WKB, seval])))

end Go.Proofs.YtfnhchcgieeedaaGreat

namespace Go.Proofs.YtfnhchcgieeedaaGreat
set_option linter.unusedSimpArgs false
set_option linter.unusedVariables false
set_option linter.defProp false
set_option maxRecDepth 20000
open Go.RowKit
attribute [local irreducible] lexD

/-- A run fits a farm. -/
def FoOk (f : FarmD) (r : RunD) : Prop := FarmOk f ∧ runOk (fgR f) r = true
noncomputable def foR (f : FarmD) (r : RunD) : FRunD := if pB (FoOk f r) then ⟨r.Job, r.Iter, r.Done, r.Vals, r.Next, fwR f r.EVals⟩ else ⟨⟨0, 0⟩, 0, false, [], ⟨0, []⟩, ⟨0, [], []⟩⟩
theorem fo_no {f : FarmD} {r : RunD} (h : ¬ FoOk f r) : foR f r = ⟨⟨0, 0⟩, 0, false, [], ⟨0, []⟩, ⟨0, [], []⟩⟩ := by unfold foR; rw [pB_f h]; rfl
theorem fo_yes {f : FarmD} {r : RunD} (h : FoOk f r) : foR f r = ⟨r.Job, r.Iter, r.Done, r.Vals, r.Next, fwR f r.EVals⟩ := by unfold foR; rw [pB_t h]; rfl
theorem fg_len {f : FarmD} (h : FarmOk f) : (fgR f).Edges.length = edSum f.Shards := by
  have e : fgR f = ⟨f.N, edgesL (edSum f.Shards) (allE f.Shards)⟩ := by unfold fgR; rw [pB_t h, if_pos rfl]
  rw [e, edgesL_len]
theorem fo_fw {f : FarmD} {r : RunD} (h : FoOk f r) : FwOk f r.EVals := by
  obtain ⟨h1, h2⟩ := h
  have hl := fg_len h1
  unfold runOk at h2
  simp only [Bool.and_eq_true, decide_eq_true_eq] at h2
  refine ⟨h1, ?_, ?_⟩
  · omega
  · simp_all

end Go.Proofs.YtfnhchcgieeedaaGreat

namespace Go.Proofs.YtfnhchcgieeedaaGreat
set_option linter.unusedSimpArgs false
set_option linter.unusedVariables false
set_option linter.defProp false
set_option maxRecDepth 20000
open Go.RowKit
attribute [local irreducible] lexD

set_option maxHeartbeats 8000000 in
theorem implFRunOf_k (f : FarmD) (r : RunD) (h : (f.Ends).length ≤ 1048576 ∧ (f.Shards).length ≤ 1048576 ∧ (∀ s ∈ f.Shards, s.Edges.length ≤ 1048576)) (hr : (r.Vals).length ≤ 1048576 ∧ (r.EVals).length ≤ 1048576 ∧ (r.Next.Bits).length ≤ 1048576) : FnOK Tryz.prog 9 ⟨5, [(0, some (.ro ((f.Ends).map intK))), (1, some (.ro ((f.Shards).map (ShardD.k 101)))), (2, some (.ro ((r.Vals).map intK))), (3, some (.ro ((r.EVals).map intK))), (4, some (.ro ((r.Next.Bits).map bytK)))], [.agg [.v (.int .i64 f.N), .sl 0 1 0 (f.Ends).length, .sl 1 3 0 (f.Shards).length], .agg [.v (.int .i64 r.Job.Prog), .v (.int .i64 r.Job.Src), .v (.int .i64 r.Iter), .v (.bool r.Done), .sl 2 1 0 (r.Vals).length, .sl 3 1 0 (r.EVals).length, .v (.int .i64 r.Next.N), .sl 4 1 0 (r.Next.Bits).length]],
    .tup [.inr [.v (.int .i64 (foR f r).Job.Prog), .v (.int .i64 (foR f r).Job.Src), .v (.int .i64 (foR f r).Iter), .v (.bool (foR f r).Done), .sl 5 1 0 ((foR f r).Vals).length, .v (.int .i64 (foR f r).Next.N), .sl 6 1 0 ((foR f r).Next.Bits).length, .v (.int .i64 (foR f r).Farm.N), .sl 7 1 0 ((foR f r).Farm.Ends).length, .sl 8 3 0 ((foR f r).Farm.Shards).length], .inl (.v (.bool (pB (FoOk f r))))], [(5, some (.row 3 (((foR f r).Vals).map intK))), (6, some (.row 5 (((foR f r).Next.Bits).map bytK))), (7, some (.row 3 (((foR f r).Farm.Ends).map intK))), (8, some (.nst 97 (((foR f r).Farm.Shards).map (ShardD.k 101)) none))], 9⟩ := by
  have co := implFarmOk_k f h
  have cg := implFarmGraph_k f h
  have hg := fgR_len f
  have ck := implRunOk_k (fgR f) r (by omega) hr
  obtain ⟨g0, g1, g2⟩ := hr
  have cc := copySet_k r.Next (by omega)
  have t1 : (r.Vals.map intK).take r.Vals.length = r.Vals.map intK := List.take_of_length_le (by simp)
  have ci := copyInts_k r.Vals (by omega)
  by_cases ho : FoOk f r
  case pos =>
    have hw := fo_fw ho
    obtain ⟨e1, e2⟩ := fw_yes hw
    have hm := hw.1.2.2.2.2.2.2.2.1
    have cw := implFarmWith_k f r.EVals h (by omega) (by omega)
    rw [e2] at cw
    rw [fo_yes ho, pB_t ho]
    rw [pB_t ho.1] at co
    rw [ho.2] at ck
    obtain ⟨h0, h1, h2⟩ := h
    have lw := edSum_shW r.EVals f.Shards
    dsimp only
    obtain ⟨w, hw2⟩ : ∃ w, w = fwR f r.EVals := ⟨_, rfl⟩
    rw [← hw2] at cw ⊢
    refine fnOK_of true mixed Tryz.func9 rfl (by rfl) (by rfl) ?_
    have hres := congrArg Array.toList Tryz.results9
    simp only [Tryz.ntmps9, BGB, seval]
    (have gx := And.intro @List.length_map.{0,0} @t1; have q1 := co; have q2 := cg; have q3 := ck; have q4 := cw; have q5 := cc; have q6 := ci; refine go ?_; (repeat' first | exact Ef.mk | apply Lf.mk | refine fun (K : KT) hK hE hT => ?_ | refine fun (KS : KE) hKS => ?_ | refine fun (D : KD) hD => ?_ | refine fun (hg : (_ : Prop)) => ?_ | fail); all_goals (first | (refine Wr.mk ?_; (try clear gx q1 q2 q3 q4 q5 q6); repeat first | clear hK hE hT K | clear hR hE hT K) | assumption | skip))
    all_goals (refine post_a hres (.inl rfl) ?_; simp only [RSB, ENB, seval, tiAll, true_and]; simp only [MAB, seval]; refine ⟨rfl, rfl, ?_, ?_, ?_⟩ <;> (first | rfl | (simp [WKB, Nat.add_comm, true_and]; done) | (simp only [WKB, seval])))
  case neg =>
    rw [fo_no ho, pB_f ho]
    by_cases hf : FarmOk f
    case neg =>
      rw [pB_f hf] at co
      refine fnOK_of true mixed Tryz.func9 rfl (by rfl) (by rfl) ?_
      have hres := congrArg Array.toList Tryz.results9
      simp only [Tryz.ntmps9, BGB, seval]
      (have gx := @List.length_map.{0,0}; have q1 := co; refine go ?_; (repeat' first | exact Ef.mk | apply Lf.mk | refine fun (K : KT) hK hE hT => ?_ | refine fun (KS : KE) hKS => ?_ | refine fun (D : KD) hD => ?_ | refine fun (hg : (_ : Prop)) => ?_ | fail); all_goals (first | (refine Wr.mk ?_; (try clear gx q1); repeat first | clear hK hE hT K | clear hR hE hT K) | assumption | skip))
      all_goals (refine post_a hres (.inl rfl) ?_; simp only [RSB, ENB, seval, tiAll, true_and]; simp only [MAB, seval]; refine ⟨rfl, rfl, ?_, ?_, ?_⟩ <;> (first | rfl | (simp [WKB, Nat.add_comm, true_and]; done) | (simp only [WKB, seval])))
    case pos =>
      rw [pB_t hf] at co
      have hx : runOk (fgR f) r = false := by
        rw [Bool.eq_false_iff]; exact fun b => ho ⟨hf, b⟩
      rw [hx] at ck
      refine fnOK_of true mixed Tryz.func9 rfl (by rfl) (by rfl) ?_
      have hres := congrArg Array.toList Tryz.results9
      simp only [Tryz.ntmps9, BGB, seval]
      (have gx := @List.length_map.{0,0}; have q1 := co; have q2 := cg; have q3 := ck; refine go ?_; (repeat' first | exact Ef.mk | apply Lf.mk | refine fun (K : KT) hK hE hT => ?_ | refine fun (KS : KE) hKS => ?_ | refine fun (D : KD) hD => ?_ | refine fun (hg : (_ : Prop)) => ?_ | fail); all_goals (first | (refine Wr.mk ?_; (try clear gx q1 q2 q3); repeat first | clear hK hE hT K | clear hR hE hT K) | assumption | skip))
      all_goals (refine post_a hres (.inl rfl) ?_; simp only [RSB, ENB, seval, tiAll, true_and]; simp only [MAB, seval]; refine ⟨rfl, rfl, ?_, ?_, ?_⟩ <;> (first | rfl | (simp [WKB, Nat.add_comm, true_and]; done) | (simp only [WKB, seval])))

end Go.Proofs.YtfnhchcgieeedaaGreat

