import Derived.Test.YtcbnfkbnbdbfoaaGreatGO
import Derived.Test.YtcbnfkbnbdbfoaaGreatFI3
import Derived.Test.YtcbnfkbnbdbfoaaGreatFI4
namespace Go.Proofs.YtcbnfkbnbdbfoaaGreat
set_option linter.unusedSimpArgs false
set_option linter.unusedVariables false
set_option linter.defProp false
set_option maxRecDepth 20000
open Go.RowKit
attribute [local irreducible] lexD
noncomputable def faTo (f : FRunD) : Nat → FRunD
  | 0 => f
  | k + 1 => if pB (fiOk (faTo f k)) then fiR (faTo f k) else faTo f k
theorem faTo_yes {f : FRunD} {k : Nat} (h : fiOk (faTo f k)) : faTo f (k + 1) = fiR (faTo f k) := by rw [faTo, pB_t h]; rfl
theorem faTo_no {f : FRunD} {k : Nat} (h : ¬ fiOk (faTo f k)) : faTo f (k + 1) = faTo f k := by rw [faTo, pB_f h]; rfl
theorem faTo_stop {f : FRunD} {k : Nat} (h : ¬ fiOk (faTo f k)) : ∀ m, k ≤ m → faTo f m = faTo f k
  | 0, hm => by rw [show k = 0 by omega]
  | m + 1, hm => by
    rcases Nat.lt_or_ge k (m + 1) with q | q
    · have ih := faTo_stop h m (by omega)
      rw [faTo_no (by rw [ih]; exact h), ih]
    · rw [show k = m + 1 by omega]
noncomputable def faR (f : FRunD) (most : Int) : FRunD := if pB (FrOk f) then faTo f most.toNat else ⟨⟨0, 0⟩, 0, false, [], ⟨0, []⟩, ⟨0, [], []⟩⟩
theorem fa_yes {f : FRunD} {most : Int} (h : FrOk f) : faR f most = faTo f most.toNat := by unfold faR; rw [pB_t h]; rfl
theorem fa_no {f : FRunD} {most : Int} (h : ¬ FrOk f) : faR f most = ⟨⟨0, 0⟩, 0, false, [], ⟨0, []⟩, ⟨0, [], []⟩⟩ := by unfold faR; rw [pB_f h]; rfl
theorem faTo_sm {f : FRunD} (h : FrOk f) : ∀ k, FrSm (faTo f k)
  | 0 => frin_sm (fr_in h)
  | k + 1 => by
    by_cases q : fiOk (faTo f k)
    · rw [faTo_yes q]; exact fiR_sm _
    · rw [faTo_no q]; exact faTo_sm h k
theorem faR_sm (f : FRunD) (most : Int) : FrSm (faR f most) := by
  by_cases h : FrOk f
  · rw [fa_yes h]; exact faTo_sm h _
  · rw [fa_no h]; exact ⟨by simp, by simp, by simp, by simp, by simp [edSum]⟩
set_option maxHeartbeats 8000000 in
theorem implFAll_k (f : FRunD) (most : Int) (hf : (f.Vals).length ≤ 1048576 ∧ (f.Next.Bits).length ≤ 1048576 ∧ (f.Farm.Ends).length ≤ 1048576 ∧ (f.Farm.Shards).length ≤ 1048576 ∧ (∀ s ∈ f.Farm.Shards, s.Edges.length ≤ 1048576)) (hm : most ≤ 9223372036854775807) : FnOK Tryz.prog 29 ⟨4, [(0, some (.ro ((f.Vals).map intK))), (1, some (.ro ((f.Next.Bits).map bytK))), (2, some (.ro ((f.Farm.Ends).map intK))), (3, some (.ro ((f.Farm.Shards).map (ShardD.k 96))))], [.agg [.v (.int .i64 f.Job.Prog), .v (.int .i64 f.Job.Src), .v (.int .i64 f.Iter), .v (.bool f.Done), .sl 0 1 0 (f.Vals).length, .v (.int .i64 f.Next.N), .sl 1 1 0 (f.Next.Bits).length, .v (.int .i64 f.Farm.N), .sl 2 1 0 (f.Farm.Ends).length, .sl 3 3 0 (f.Farm.Shards).length], .c (.v (.int .i64 most))], .agg [.v (.int .i64 (faR f most).Job.Prog), .v (.int .i64 (faR f most).Job.Src), .v (.int .i64 (faR f most).Iter), .v (.bool (faR f most).Done), .sl 4 1 0 ((faR f most).Vals).length, .v (.int .i64 (faR f most).Next.N), .sl 5 1 0 ((faR f most).Next.Bits).length, .v (.int .i64 (faR f most).Farm.N), .sl 6 1 0 ((faR f most).Farm.Ends).length, .sl 7 3 0 ((faR f most).Farm.Shards).length], [(4, some (.row 3 (((faR f most).Vals).map intK))), (5, some (.row 5 (((faR f most).Next.Bits).map bytK))), (6, some (.row 3 (((faR f most).Farm.Ends).map intK))), (7, some (.nst 179 (((faR f most).Farm.Shards).map (ShardD.k 96)) none))], 8⟩ := by
  have c1 := implFRunOk_k f hf
  by_cases ho : FrOk f
  case neg =>
    rw [fa_no ho]
    rw [pB_f ho] at c1
    obtain ⟨f0, f1, f2, f3, f4⟩ := hf
    refine fnOK_of true mixed Tryz.func29 rfl (by rfl) (by rfl) ?_
    have hres := congrArg Array.toList Tryz.results29
    simp only [Tryz.ntmps29, BGB, seval]
    (have gx := @List.length_map.{0,0}; have q1 := c1; refine go ?_; (repeat' (first | exact Ef.mk | refine Lf.mk ?_ ?_ | refine fun (K : KT) hK hE hT => ?_ | refine fun (KS : Eff → Prop) hKS => ?_ | refine fun (D : List Keys → Prop) hD => ?_ | refine fun (hg : (_ : Prop)) => ?_ | fail)); all_goals (first | (refine Wr.mk ?_; (try clear gx); (try clear q1); repeat (first | (clear hK hE hT; clear K) | (clear hR hE hT; clear K))) | assumption | skip))
    all_goals (refine post_a hres (.inl rfl) ?_; simp only [RSB, ENB, seval, tiAll, true_and]; simp only [MAB, seval]; refine ⟨rfl, rfl, ?_, ?_, ?_⟩ <;> (first | rfl | (simp [WKB, Nat.add_comm, true_and]; done) | (simp only [WKB, seval])))
  case pos =>
    rw [fa_yes ho]
    rw [pB_t ho] at c1
    have cc := copyFRun_k f hf
    have hsm := faTo_sm ho
    have hst := fun k h m => faTo_stop (f := f) (k := k) h m
    have hye := fun k h => faTo_yes (f := f) (k := k) h
    have h0 : faTo f 0 = f := rfl
    obtain ⟨f0, f1, f2, f3, f4⟩ := hf
    obtain ⟨m, hmd⟩ : ∃ m, m = most.toNat := ⟨_, rfl⟩
    rw [← hmd]
    obtain ⟨G, hG⟩ : ∃ G : Nat → FRunD, G = faTo f := ⟨_, rfl⟩
    simp only [← hG] at hsm hst hye h0 ⊢
    clear hG
    have hmx : IntKind.i64.wrap (max most 0) = (m : Int) := by
      rw [IntWalk.i64_in _ (by omega)]; omega
    have hmy : max most 0 = (m : Int) := by omega
    refine fnOK_of true mixed Tryz.func29 rfl (by rfl) (by rfl) ?_
    have hres := congrArg Array.toList Tryz.results29
    simp only [Tryz.ntmps29, BGB, seval]
    (have gx := And.intro (@List.length_map.{0,0}) (And.intro @hmx @hmy); have q1 := c1; have q2 := cc; refine go ?_; (repeat' (first | exact Ef.mk | refine Lf.mk ?_ ?_ | refine fun (K : KT) hK hE hT => ?_ | refine fun (KS : Eff → Prop) hKS => ?_ | refine fun (D : List Keys → Prop) hD => ?_ | refine fun (hg : (_ : Prop)) => ?_ | fail)); all_goals (first | (refine Wr.mk ?_; (try clear gx); (try clear q1 q2); repeat (first | (clear hK hE hT; clear K) | (clear hR hE hT; clear K))) | assumption | skip))
    refine loop_v (X := {k : Nat // k ≤ m}) [14] (fun x => [(17, .c (.v (.int .i64 ((x.1 : Nat) : Int))))]) (fun x => [(0, some (.ro ((f.Vals).map intK))), (1, some (.ro ((f.Next.Bits).map bytK))), (2, some (.ro ((f.Farm.Ends).map intK))), (3, some (.ro ((f.Farm.Shards).map (ShardD.k 96)))), (4, some (.box 45 [.v (.int .i64 f.Job.Prog), .v (.int .i64 f.Job.Src), .v (.int .i64 f.Iter), .v (.bool f.Done), .sl 0 1 0 (f.Vals).length, .v (.int .i64 f.Next.N), .sl 1 1 0 (f.Next.Bits).length, .v (.int .i64 f.Farm.N), .sl 2 1 0 (f.Farm.Ends).length, .sl 3 3 0 (f.Farm.Shards).length])), (5, some (.box 45 [.v (.int .i64 0), .v (.int .i64 0), .v (.int .i64 0), .v (.bool false), .nil, .v (.int .i64 0), .nil, .v (.int .i64 0), .nil, .nil])), (10, some (.box 45 [.v (.int .i64 (G x.1).Job.Prog), .v (.int .i64 (G x.1).Job.Src), .v (.int .i64 (G x.1).Iter), .v (.bool (G x.1).Done), .sl 6 1 0 ((G x.1).Vals).length, .v (.int .i64 (G x.1).Next.N), .sl 7 1 0 ((G x.1).Next.Bits).length, .v (.int .i64 (G x.1).Farm.N), .sl 8 1 0 ((G x.1).Farm.Ends).length, .sl 9 3 0 ((G x.1).Farm.Shards).length])), (6, some (.row 3 (((G x.1).Vals).map intK))), (7, some (.row 5 (((G x.1).Next.Bits).map bytK))), (8, some (.row 3 (((G x.1).Farm.Ends).map intK))), (9, some (.nst 179 (((G x.1).Farm.Shards).map (ShardD.k 96)) none))]) 11 (fun x => m - x.1) ⟨0, by omega⟩ ?_
    simp only [KPB, seval]
    refine ⟨?_, ?_⟩
    · (refine wk_a ?_; simp only [MAB, seval]; refine ⟨rfl, rfl, (by decide), ?_, ?_⟩; all_goals (first | (simp only [WKB, seval, h0, Nat.reduceLT, Nat.zero_lt_succ]; done) | (simp [WKB, seval, h0]; done) | simp only [WKB, seval]))
    · rintro ⟨k, hk⟩ K hR hE hT
      have sm := hsm k
      have st := hst k
      have ye := hye k
      obtain ⟨y, hy⟩ : ∃ y, y = G k := ⟨_, rfl⟩
      rw [← hy] at sm st ye
      simp only [← hy]
      obtain ⟨z0, z1, z2, z3, z4⟩ := sm_L sm
      rcases Nat.lt_or_ge k m with hlt | hge
      case inr =>
        obtain rfl : k = m := by omega
        (have gx := @List.length_map.{0,0}; refine go ?_; (repeat' (first | exact Ef.mk | refine Lf.mk ?_ ?_ | refine fun (K : KT) hK hE hT => ?_ | refine fun (KS : Eff → Prop) hKS => ?_ | refine fun (D : List Keys → Prop) hD => ?_ | refine fun (hg : (_ : Prop)) => ?_ | fail)); all_goals (first | (refine Wr.mk ?_; (try clear gx); repeat (first | (clear hK hE hT; clear K) | (clear hR hE hT; clear K))) | assumption | skip))
        all_goals first | (exfalso; omega) | (refine post_a hres (.inl rfl) ?_; simp only [RSB, ENB, seval, tiAll, ← hy]; simp only [MAB, seval]; refine ⟨rfl, rfl, ?_, ?_, ?_⟩ <;> (first | rfl | (simp [WKB, Nat.add_comm, ← hy]; done) | (simp only [WKB, seval])))
      case inl =>
        have ci := implFIter_k y ⟨z0, z1, z2, z3, z4⟩
        by_cases hq : fiOk y
        case pos =>
          rw [pB_t hq] at ci
          have e := ye hq
          obtain ⟨n1, hn1⟩ : ∃ n, n = fiR y := ⟨_, rfl⟩
          obtain ⟨n2, hn2⟩ : ∃ n, n = fiS y := ⟨_, rfl⟩
          rw [← hn1] at ci e
          rw [← hn2] at ci
          (have gx := @List.length_map.{0,0}; have q1 := ci; refine go ?_; (repeat' (first | exact Ef.mk | refine Lf.mk ?_ ?_ | refine fun (K : KT) hK hE hT => ?_ | refine fun (KS : Eff → Prop) hKS => ?_ | refine fun (D : List Keys → Prop) hD => ?_ | refine fun (hg : (_ : Prop)) => ?_ | fail)); all_goals (first | (refine Wr.mk ?_; (try clear gx); (try clear q1); repeat (first | (clear hK hE hT; clear K) | (clear hR hE hT; clear K))) | assumption | skip))
          all_goals first | (exfalso; omega) | skip
          all_goals (refine hR.out ⟨k + 1, by omega⟩ _ _ _ (by simp only; omega) ?_; (refine wk_a ?_; simp only [MAB, seval]; refine ⟨rfl, rfl, (by decide), ?_, ?_⟩; all_goals (first | (simp only [WKB, seval, e, Nat.reduceLT, Nat.zero_lt_succ]; done) | (simp [WKB, seval, e]; done) | simp only [WKB, seval])))
        case neg =>
          rw [pB_f hq] at ci
          obtain ⟨w1, w2⟩ := fi_no hq
          rw [w1, w2] at ci
          have e := st hq m (by omega)
          (have gx := @List.length_map.{0,0}; have q1 := ci; refine go ?_; (repeat' (first | exact Ef.mk | refine Lf.mk ?_ ?_ | refine fun (K : KT) hK hE hT => ?_ | refine fun (KS : Eff → Prop) hKS => ?_ | refine fun (D : List Keys → Prop) hD => ?_ | refine fun (hg : (_ : Prop)) => ?_ | fail)); all_goals (first | (refine Wr.mk ?_; (try clear gx); (try clear q1); repeat (first | (clear hK hE hT; clear K) | (clear hR hE hT; clear K))) | assumption | skip))
          all_goals first | (exfalso; omega) | (refine post_a hres (.inl rfl) ?_; simp only [RSB, ENB, seval, tiAll, e]; simp only [MAB, seval]; refine ⟨rfl, rfl, ?_, ?_, ?_⟩ <;> (first | rfl | (simp [WKB, Nat.add_comm, e]; done) | (simp only [WKB, seval])))
set_option maxHeartbeats 8000000 in
theorem specFAll_k (f : FRunD) (most : Int) (hf : (f.Vals).length ≤ 1048576 ∧ (f.Next.Bits).length ≤ 1048576 ∧ (f.Farm.Ends).length ≤ 1048576 ∧ (f.Farm.Shards).length ≤ 1048576 ∧ (∀ s ∈ f.Farm.Shards, s.Edges.length ≤ 1048576)) (hm : most ≤ 9223372036854775807) : FnOK Tryz.prog 28 ⟨4, [(0, some (.ro ((f.Vals).map intK))), (1, some (.ro ((f.Next.Bits).map bytK))), (2, some (.ro ((f.Farm.Ends).map intK))), (3, some (.ro ((f.Farm.Shards).map (ShardD.k 96))))], [.agg [.v (.int .i64 f.Job.Prog), .v (.int .i64 f.Job.Src), .v (.int .i64 f.Iter), .v (.bool f.Done), .sl 0 1 0 (f.Vals).length, .v (.int .i64 f.Next.N), .sl 1 1 0 (f.Next.Bits).length, .v (.int .i64 f.Farm.N), .sl 2 1 0 (f.Farm.Ends).length, .sl 3 3 0 (f.Farm.Shards).length], .c (.v (.int .i64 most))], .agg [.v (.int .i64 (faR f most).Job.Prog), .v (.int .i64 (faR f most).Job.Src), .v (.int .i64 (faR f most).Iter), .v (.bool (faR f most).Done), .sl 4 1 0 ((faR f most).Vals).length, .v (.int .i64 (faR f most).Next.N), .sl 5 1 0 ((faR f most).Next.Bits).length, .v (.int .i64 (faR f most).Farm.N), .sl 6 1 0 ((faR f most).Farm.Ends).length, .sl 7 3 0 ((faR f most).Farm.Shards).length], [(4, some (.row 3 (((faR f most).Vals).map intK))), (5, some (.row 5 (((faR f most).Next.Bits).map bytK))), (6, some (.row 3 (((faR f most).Farm.Ends).map intK))), (7, some (.nst 179 (((faR f most).Farm.Shards).map (ShardD.k 96)) none))], 8⟩ := by
  have c1 := specFRunOk_k f hf
  by_cases ho : FrOk f
  case neg =>
    rw [fa_no ho]
    rw [pB_f ho] at c1
    obtain ⟨f0, f1, f2, f3, f4⟩ := hf
    refine fnOK_of true mixed Tryz.func28 rfl (by rfl) (by rfl) ?_
    have hres := congrArg Array.toList Tryz.results28
    simp only [Tryz.ntmps28, BGB, seval]
    (have gx := @List.length_map.{0,0}; have q1 := c1; refine go ?_; (repeat' (first | exact Ef.mk | refine Lf.mk ?_ ?_ | refine fun (K : KT) hK hE hT => ?_ | refine fun (KS : Eff → Prop) hKS => ?_ | refine fun (D : List Keys → Prop) hD => ?_ | refine fun (hg : (_ : Prop)) => ?_ | fail)); all_goals (first | (refine Wr.mk ?_; (try clear gx); (try clear q1); repeat (first | (clear hK hE hT; clear K) | (clear hR hE hT; clear K))) | assumption | skip))
    all_goals (refine post_a hres (.inl rfl) ?_; simp only [RSB, ENB, seval, tiAll, true_and]; simp only [MAB, seval]; refine ⟨rfl, rfl, ?_, ?_, ?_⟩ <;> (first | rfl | (simp [WKB, Nat.add_comm, true_and]; done) | (simp only [WKB, seval])))
  case pos =>
    rw [fa_yes ho]
    rw [pB_t ho] at c1
    have cc := l13Copy_k f hf
    have hsm := faTo_sm ho
    have hst := fun k h m => faTo_stop (f := f) (k := k) h m
    have hye := fun k h => faTo_yes (f := f) (k := k) h
    have h0 : faTo f 0 = f := rfl
    obtain ⟨f0, f1, f2, f3, f4⟩ := hf
    obtain ⟨m, hmd⟩ : ∃ m, m = most.toNat := ⟨_, rfl⟩
    rw [← hmd]
    obtain ⟨G, hG⟩ : ∃ G : Nat → FRunD, G = faTo f := ⟨_, rfl⟩
    simp only [← hG] at hsm hst hye h0 ⊢
    clear hG
    skip
    refine fnOK_of true mixed Tryz.func28 rfl (by rfl) (by rfl) ?_
    have hres := congrArg Array.toList Tryz.results28
    simp only [Tryz.ntmps28, BGB, seval]
    (have gx := @List.length_map.{0,0}; have q1 := c1; have q2 := cc; refine go ?_; (repeat' (first | exact Ef.mk | refine Lf.mk ?_ ?_ | refine fun (K : KT) hK hE hT => ?_ | refine fun (KS : Eff → Prop) hKS => ?_ | refine fun (D : List Keys → Prop) hD => ?_ | refine fun (hg : (_ : Prop)) => ?_ | fail)); all_goals (first | (refine Wr.mk ?_; (try clear gx); (try clear q1 q2); repeat (first | (clear hK hE hT; clear K) | (clear hR hE hT; clear K))) | assumption | skip))
    refine loop_v (X := {k : Nat // k ≤ m}) [15] (fun x => [(6, .c (.v (.int .i64 ((x.1 : Nat) : Int))))]) (fun x => [(0, some (.ro ((f.Vals).map intK))), (1, some (.ro ((f.Next.Bits).map bytK))), (2, some (.ro ((f.Farm.Ends).map intK))), (3, some (.ro ((f.Farm.Shards).map (ShardD.k 96)))), (4, some (.box 45 [.v (.int .i64 f.Job.Prog), .v (.int .i64 f.Job.Src), .v (.int .i64 f.Iter), .v (.bool f.Done), .sl 0 1 0 (f.Vals).length, .v (.int .i64 f.Next.N), .sl 1 1 0 (f.Next.Bits).length, .v (.int .i64 f.Farm.N), .sl 2 1 0 (f.Farm.Ends).length, .sl 3 3 0 (f.Farm.Shards).length])), (5, some (.box 45 [.v (.int .i64 0), .v (.int .i64 0), .v (.int .i64 0), .v (.bool false), .nil, .v (.int .i64 0), .nil, .v (.int .i64 0), .nil, .nil])), (10, some (.box 45 [.v (.int .i64 (G x.1).Job.Prog), .v (.int .i64 (G x.1).Job.Src), .v (.int .i64 (G x.1).Iter), .v (.bool (G x.1).Done), .sl 6 1 0 ((G x.1).Vals).length, .v (.int .i64 (G x.1).Next.N), .sl 7 1 0 ((G x.1).Next.Bits).length, .v (.int .i64 (G x.1).Farm.N), .sl 8 1 0 ((G x.1).Farm.Ends).length, .sl 9 3 0 ((G x.1).Farm.Shards).length])), (6, some (.row 3 (((G x.1).Vals).map intK))), (7, some (.row 5 (((G x.1).Next.Bits).map bytK))), (8, some (.row 3 (((G x.1).Farm.Ends).map intK))), (9, some (.nst 179 (((G x.1).Farm.Shards).map (ShardD.k 96)) none))]) 11 (fun x => m - x.1) ⟨0, by omega⟩ ?_
    simp only [KPB, seval]
    refine ⟨?_, ?_⟩
    · (refine wk_a ?_; simp only [MAB, seval]; refine ⟨rfl, rfl, (by decide), ?_, ?_⟩; all_goals (first | (simp only [WKB, seval, h0, Nat.reduceLT, Nat.zero_lt_succ]; done) | (simp [WKB, seval, h0]; done) | simp only [WKB, seval]))
    · rintro ⟨k, hk⟩ K hR hE hT
      have sm := hsm k
      have st := hst k
      have ye := hye k
      obtain ⟨y, hy⟩ : ∃ y, y = G k := ⟨_, rfl⟩
      rw [← hy] at sm st ye
      simp only [← hy]
      obtain ⟨z0, z1, z2, z3, z4⟩ := sm_L sm
      rcases Nat.lt_or_ge k m with hlt | hge
      case inr =>
        obtain rfl : k = m := by omega
        (have gx := @List.length_map.{0,0}; refine go ?_; (repeat' (first | exact Ef.mk | refine Lf.mk ?_ ?_ | refine fun (K : KT) hK hE hT => ?_ | refine fun (KS : Eff → Prop) hKS => ?_ | refine fun (D : List Keys → Prop) hD => ?_ | refine fun (hg : (_ : Prop)) => ?_ | fail)); all_goals (first | (refine Wr.mk ?_; (try clear gx); repeat (first | (clear hK hE hT; clear K) | (clear hR hE hT; clear K))) | assumption | skip))
        all_goals first | (exfalso; omega) | (refine post_a hres (.inl rfl) ?_; simp only [RSB, ENB, seval, tiAll, ← hy]; simp only [MAB, seval]; refine ⟨rfl, rfl, ?_, ?_, ?_⟩ <;> (first | rfl | (simp [WKB, Nat.add_comm, ← hy]; done) | (simp only [WKB, seval])))
      case inl =>
        have ci := specFIter_k y ⟨z0, z1, z2, z3, z4⟩
        by_cases hq : fiOk y
        case pos =>
          rw [pB_t hq] at ci
          have e := ye hq
          obtain ⟨n1, hn1⟩ : ∃ n, n = fiR y := ⟨_, rfl⟩
          obtain ⟨n2, hn2⟩ : ∃ n, n = fiS y := ⟨_, rfl⟩
          rw [← hn1] at ci e
          rw [← hn2] at ci
          (have gx := @List.length_map.{0,0}; have q1 := ci; refine go ?_; (repeat' (first | exact Ef.mk | refine Lf.mk ?_ ?_ | refine fun (K : KT) hK hE hT => ?_ | refine fun (KS : Eff → Prop) hKS => ?_ | refine fun (D : List Keys → Prop) hD => ?_ | refine fun (hg : (_ : Prop)) => ?_ | fail)); all_goals (first | (refine Wr.mk ?_; (try clear gx); (try clear q1); repeat (first | (clear hK hE hT; clear K) | (clear hR hE hT; clear K))) | assumption | skip))
          all_goals first | (exfalso; omega) | skip
          all_goals (refine hR.out ⟨k + 1, by omega⟩ _ _ _ (by simp only; omega) ?_; (refine wk_a ?_; simp only [MAB, seval]; refine ⟨rfl, rfl, (by decide), ?_, ?_⟩; all_goals (first | (simp only [WKB, seval, e, Nat.reduceLT, Nat.zero_lt_succ]; done) | (simp [WKB, seval, e]; done) | simp only [WKB, seval])))
        case neg =>
          rw [pB_f hq] at ci
          obtain ⟨w1, w2⟩ := fi_no hq
          rw [w1, w2] at ci
          have e := st hq m (by omega)
          (have gx := @List.length_map.{0,0}; have q1 := ci; refine go ?_; (repeat' (first | exact Ef.mk | refine Lf.mk ?_ ?_ | refine fun (K : KT) hK hE hT => ?_ | refine fun (KS : Eff → Prop) hKS => ?_ | refine fun (D : List Keys → Prop) hD => ?_ | refine fun (hg : (_ : Prop)) => ?_ | fail)); all_goals (first | (refine Wr.mk ?_; (try clear gx); (try clear q1); repeat (first | (clear hK hE hT; clear K) | (clear hR hE hT; clear K))) | assumption | skip))
          all_goals first | (exfalso; omega) | (refine post_a hres (.inl rfl) ?_; simp only [RSB, ENB, seval, tiAll, e]; simp only [MAB, seval]; refine ⟨rfl, rfl, ?_, ?_, ?_⟩ <;> (first | rfl | (simp [WKB, Nat.add_comm, e]; done) | (simp only [WKB, seval])))
end Go.Proofs.YtcbnfkbnbdbfoaaGreat
