/-
  Runs put into farms by both. No conditions of its own.
-/
import Derived.Test.YtfkpmhnfpljakaaGO
import Derived.Test.YtfkpmhnfpljakaaR9
namespace Go.Proofs.Ytfkpmhnfpljakaa
set_option linter.unusedSimpArgs false
set_option linter.unusedVariables false
set_option linter.unusedSimpArgs false
set_option linter.unusedVariables false
set_option linter.defProp false
set_option maxRecDepth 20000
open Go.RowKit
attribute [local irreducible] lexD

set_option maxHeartbeats 8000000 in
theorem implFRunOf_k (f : FarmD) (r : RunD) (h : (f.Ends).length ≤ 1048576 ∧ (f.Shards).length ≤ 1048576 ∧ (∀ s ∈ f.Shards, s.Edges.length ≤ 1048576)) (hr : (r.Vals).length ≤ 1048576 ∧ (r.EVals).length ≤ 1048576 ∧ (r.Next.Bits).length ≤ 1048576) : FnOK Try.prog 36 ⟨5, [(0, some (.ro ((f.Ends).map intK))), (1, some (.ro ((f.Shards).map (ShardD.k 98)))), (2, some (.ro ((r.Vals).map intK))), (3, some (.ro ((r.EVals).map intK))), (4, some (.ro ((r.Next.Bits).map bytK)))], [.agg [.v (.int .i64 f.N), .sl 0 1 0 (f.Ends).length, .sl 1 3 0 (f.Shards).length], .agg [.v (.int .i64 r.Job.Prog), .v (.int .i64 r.Job.Src), .v (.int .i64 r.Iter), .v (.bool r.Done), .sl 2 1 0 (r.Vals).length, .sl 3 1 0 (r.EVals).length, .v (.int .i64 r.Next.N), .sl 4 1 0 (r.Next.Bits).length]],
    .tup [.inr [.v (.int .i64 (foR f r).Job.Prog), .v (.int .i64 (foR f r).Job.Src), .v (.int .i64 (foR f r).Iter), .v (.bool (foR f r).Done), .sl 5 1 0 ((foR f r).Vals).length, .v (.int .i64 (foR f r).Next.N), .sl 6 1 0 ((foR f r).Next.Bits).length, .v (.int .i64 (foR f r).Farm.N), .sl 7 1 0 ((foR f r).Farm.Ends).length, .sl 8 3 0 ((foR f r).Farm.Shards).length], .inl (.v (.bool (pB (FoOk f r))))], [(5, some (.row 3 (((foR f r).Vals).map intK))), (6, some (.row 5 (((foR f r).Next.Bits).map bytK))), (7, some (.row 3 (((foR f r).Farm.Ends).map intK))), (8, some (.nst 107 (((foR f r).Farm.Shards).map (ShardD.k 98)) none))], 9⟩ := by
  have co := implFarmOk_k f h
  have cg := implFarmGraph_k f h
  have hg := fgR_len f
  have ck := implRunOk_k (fgR f) r (by omega) hr
  obtain ⟨g0, g1, g2⟩ := hr
  have cc := copySet_k r.Next (by omega)
  have t1 : (r.Vals.map intK).take r.Vals.length = r.Vals.map intK := List.take_of_length_le (by simp)
  have ci := copyInts_k r.Vals (by omega)
  by_cases ho : FoOk f r
  case pos =>
    have hw := fo_fw ho
    obtain ⟨e1, e2⟩ := fw_yes hw
    have hm := hw.1.2.2.2.2.2.2.2.1
    have cw := implFarmWith_k f r.EVals h (by omega) (by omega)
    rw [e2] at cw
    rw [fo_yes ho, pB_t ho]
    rw [pB_t ho.1] at co
    rw [ho.2] at ck
    obtain ⟨h0, h1, h2⟩ := h
    have lw := edSum_shW r.EVals f.Shards
    dsimp only
    obtain ⟨w, hw2⟩ : ∃ w, w = fwR f r.EVals := ⟨_, rfl⟩
    rw [← hw2] at cw ⊢
    refine fnOK_of true mixed Try.func36 rfl (by rfl) (by rfl) ?_
    have hres := congrArg Array.toList Try.results36
    simp only [Try.ntmps36, BGB, seval]
    (have gx := And.intro @List.length_map.{0,0} @t1; have q1 := co; have q2 := cg; have q3 := ck; have q4 := cw; have q5 := cc; have q6 := ci; refine go ?_; (repeat' (first | exact Ef.mk | refine Lf.mk ?_ ?_ | refine fun (K : KT) hK hE hT => ?_ | refine fun (KS : Eff → Prop) hKS => ?_ | refine fun (D : List Keys → Prop) hD => ?_ | refine fun (hg : (_ : Prop)) => ?_ | fail)); all_goals (first | (refine Wr.mk ?_; (try clear gx); (try clear q1 q2 q3 q4 q5 q6); repeat (first | (clear hK hE hT; clear K) | (clear hR hE hT; clear K))) | assumption | skip))
    all_goals (refine post_a hres (.inl rfl) ?_; simp only [RSB, ENB, seval, tiAll, true_and]; simp only [MAB, seval]; refine ⟨rfl, rfl, ?_, ?_, ?_⟩ <;> (first | rfl | (simp [WKB, Nat.add_comm, true_and]; done) | (simp only [WKB, seval])))
  case neg =>
    rw [fo_no ho, pB_f ho]
    by_cases hf : FarmOk f
    case neg =>
      rw [pB_f hf] at co
      refine fnOK_of true mixed Try.func36 rfl (by rfl) (by rfl) ?_
      have hres := congrArg Array.toList Try.results36
      simp only [Try.ntmps36, BGB, seval]
      (have gx := @List.length_map.{0,0}; have q1 := co; refine go ?_; (repeat' (first | exact Ef.mk | refine Lf.mk ?_ ?_ | refine fun (K : KT) hK hE hT => ?_ | refine fun (KS : Eff → Prop) hKS => ?_ | refine fun (D : List Keys → Prop) hD => ?_ | refine fun (hg : (_ : Prop)) => ?_ | fail)); all_goals (first | (refine Wr.mk ?_; (try clear gx); (try clear q1); repeat (first | (clear hK hE hT; clear K) | (clear hR hE hT; clear K))) | assumption | skip))
      all_goals (refine post_a hres (.inl rfl) ?_; simp only [RSB, ENB, seval, tiAll, true_and]; simp only [MAB, seval]; refine ⟨rfl, rfl, ?_, ?_, ?_⟩ <;> (first | rfl | (simp [WKB, Nat.add_comm, true_and]; done) | (simp only [WKB, seval])))
    case pos =>
      rw [pB_t hf] at co
      have hx : runOk (fgR f) r = false := by
        rw [Bool.eq_false_iff]; exact fun b => ho ⟨hf, b⟩
      rw [hx] at ck
      refine fnOK_of true mixed Try.func36 rfl (by rfl) (by rfl) ?_
      have hres := congrArg Array.toList Try.results36
      simp only [Try.ntmps36, BGB, seval]
      (have gx := @List.length_map.{0,0}; have q1 := co; have q2 := cg; have q3 := ck; refine go ?_; (repeat' (first | exact Ef.mk | refine Lf.mk ?_ ?_ | refine fun (K : KT) hK hE hT => ?_ | refine fun (KS : Eff → Prop) hKS => ?_ | refine fun (D : List Keys → Prop) hD => ?_ | refine fun (hg : (_ : Prop)) => ?_ | fail)); all_goals (first | (refine Wr.mk ?_; (try clear gx); (try clear q1 q2 q3); repeat (first | (clear hK hE hT; clear K) | (clear hR hE hT; clear K))) | assumption | skip))
      all_goals (refine post_a hres (.inl rfl) ?_; simp only [RSB, ENB, seval, tiAll, true_and]; simp only [MAB, seval]; refine ⟨rfl, rfl, ?_, ?_, ?_⟩ <;> (first | rfl | (simp [WKB, Nat.add_comm, true_and]; done) | (simp only [WKB, seval])))

set_option maxHeartbeats 8000000 in
theorem specFRunOf_k (f : FarmD) (r : RunD) (h : (f.Ends).length ≤ 1048576 ∧ (f.Shards).length ≤ 1048576 ∧ (∀ s ∈ f.Shards, s.Edges.length ≤ 1048576)) (hr : (r.Vals).length ≤ 1048576 ∧ (r.EVals).length ≤ 1048576 ∧ (r.Next.Bits).length ≤ 1048576) : FnOK Try.prog 34 ⟨5, [(0, some (.ro ((f.Ends).map intK))), (1, some (.ro ((f.Shards).map (ShardD.k 98)))), (2, some (.ro ((r.Vals).map intK))), (3, some (.ro ((r.EVals).map intK))), (4, some (.ro ((r.Next.Bits).map bytK)))], [.agg [.v (.int .i64 f.N), .sl 0 1 0 (f.Ends).length, .sl 1 3 0 (f.Shards).length], .agg [.v (.int .i64 r.Job.Prog), .v (.int .i64 r.Job.Src), .v (.int .i64 r.Iter), .v (.bool r.Done), .sl 2 1 0 (r.Vals).length, .sl 3 1 0 (r.EVals).length, .v (.int .i64 r.Next.N), .sl 4 1 0 (r.Next.Bits).length]],
    .tup [.inr [.v (.int .i64 (foR f r).Job.Prog), .v (.int .i64 (foR f r).Job.Src), .v (.int .i64 (foR f r).Iter), .v (.bool (foR f r).Done), .sl 5 1 0 ((foR f r).Vals).length, .v (.int .i64 (foR f r).Next.N), .sl 6 1 0 ((foR f r).Next.Bits).length, .v (.int .i64 (foR f r).Farm.N), .sl 7 1 0 ((foR f r).Farm.Ends).length, .sl 8 3 0 ((foR f r).Farm.Shards).length], .inl (.v (.bool (pB (FoOk f r))))], [(5, some (.row 3 (((foR f r).Vals).map intK))), (6, some (.row 5 (((foR f r).Next.Bits).map bytK))), (7, some (.row 3 (((foR f r).Farm.Ends).map intK))), (8, some (.nst 107 (((foR f r).Farm.Shards).map (ShardD.k 98)) none))], 9⟩ := by
  have co := specFarmOk_k f h
  have cg := specFarmGraph_k f h
  have hg := fgR_len f
  have ck := specRunOk_k (fgR f) r (by omega) hr
  obtain ⟨g0, g1, g2⟩ := hr
  have cc := l09Copy_k r.Next (by omega)
  have t1 : (r.Vals.map intK).take r.Vals.length = r.Vals.map intK := List.take_of_length_le (by simp)
  have ci := copyInts_k r.Vals (by omega)
  by_cases ho : FoOk f r
  case pos =>
    have hw := fo_fw ho
    obtain ⟨e1, e2⟩ := fw_yes hw
    have hm := hw.1.2.2.2.2.2.2.2.1
    have cw := specFarmWith_k f r.EVals h (by omega) (by omega)
    rw [e2] at cw
    rw [fo_yes ho, pB_t ho]
    rw [pB_t ho.1] at co
    rw [ho.2] at ck
    obtain ⟨h0, h1, h2⟩ := h
    have lw := edSum_shW r.EVals f.Shards
    dsimp only
    obtain ⟨w, hw2⟩ : ∃ w, w = fwR f r.EVals := ⟨_, rfl⟩
    rw [← hw2] at cw ⊢
    refine fnOK_of true mixed Try.func34 rfl (by rfl) (by rfl) ?_
    have hres := congrArg Array.toList Try.results34
    simp only [Try.ntmps34, BGB, seval]
    (have gx := And.intro @List.length_map.{0,0} @t1; have q1 := co; have q2 := cg; have q3 := ck; have q4 := cw; have q5 := cc; have q6 := ci; refine go ?_; (repeat' (first | exact Ef.mk | refine Lf.mk ?_ ?_ | refine fun (K : KT) hK hE hT => ?_ | refine fun (KS : Eff → Prop) hKS => ?_ | refine fun (D : List Keys → Prop) hD => ?_ | refine fun (hg : (_ : Prop)) => ?_ | fail)); all_goals (first | (refine Wr.mk ?_; (try clear gx); (try clear q1 q2 q3 q4 q5 q6); repeat (first | (clear hK hE hT; clear K) | (clear hR hE hT; clear K))) | assumption | skip))
    all_goals (refine post_a hres (.inl rfl) ?_; simp only [RSB, ENB, seval, tiAll, true_and]; simp only [MAB, seval]; refine ⟨rfl, rfl, ?_, ?_, ?_⟩ <;> (first | rfl | (simp [WKB, Nat.add_comm, true_and]; done) | (simp only [WKB, seval])))
  case neg =>
    rw [fo_no ho, pB_f ho]
    by_cases hf : FarmOk f
    case neg =>
      rw [pB_f hf] at co
      refine fnOK_of true mixed Try.func34 rfl (by rfl) (by rfl) ?_
      have hres := congrArg Array.toList Try.results34
      simp only [Try.ntmps34, BGB, seval]
      (have gx := @List.length_map.{0,0}; have q1 := co; refine go ?_; (repeat' (first | exact Ef.mk | refine Lf.mk ?_ ?_ | refine fun (K : KT) hK hE hT => ?_ | refine fun (KS : Eff → Prop) hKS => ?_ | refine fun (D : List Keys → Prop) hD => ?_ | refine fun (hg : (_ : Prop)) => ?_ | fail)); all_goals (first | (refine Wr.mk ?_; (try clear gx); (try clear q1); repeat (first | (clear hK hE hT; clear K) | (clear hR hE hT; clear K))) | assumption | skip))
      all_goals (refine post_a hres (.inl rfl) ?_; simp only [RSB, ENB, seval, tiAll, true_and]; simp only [MAB, seval]; refine ⟨rfl, rfl, ?_, ?_, ?_⟩ <;> (first | rfl | (simp [WKB, Nat.add_comm, true_and]; done) | (simp only [WKB, seval])))
    case pos =>
      rw [pB_t hf] at co
      have hx : runOk (fgR f) r = false := by
        rw [Bool.eq_false_iff]; exact fun b => ho ⟨hf, b⟩
      rw [hx] at ck
      refine fnOK_of true mixed Try.func34 rfl (by rfl) (by rfl) ?_
      have hres := congrArg Array.toList Try.results34
      simp only [Try.ntmps34, BGB, seval]
      (have gx := @List.length_map.{0,0}; have q1 := co; have q2 := cg; have q3 := ck; refine go ?_; (repeat' (first | exact Ef.mk | refine Lf.mk ?_ ?_ | refine fun (K : KT) hK hE hT => ?_ | refine fun (KS : Eff → Prop) hKS => ?_ | refine fun (D : List Keys → Prop) hD => ?_ | refine fun (hg : (_ : Prop)) => ?_ | fail)); all_goals (first | (refine Wr.mk ?_; (try clear gx); (try clear q1 q2 q3); repeat (first | (clear hK hE hT; clear K) | (clear hR hE hT; clear K))) | assumption | skip))
      all_goals (refine post_a hres (.inl rfl) ?_; simp only [RSB, ENB, seval, tiAll, true_and]; simp only [MAB, seval]; refine ⟨rfl, rfl, ?_, ?_, ?_⟩ <;> (first | rfl | (simp [WKB, Nat.add_comm, true_and]; done) | (simp only [WKB, seval])))

end Go.Proofs.Ytfkpmhnfpljakaa
