/-
  Contracts: SubVertex of both. No conditions of its own.
-/
import Derived.Test.YtcbnfkbnbdbfoaaGreatGO
import Derived.Test.YtcbnfkbnbdbfoaaGreatSX4
namespace Go.Proofs.YtcbnfkbnbdbfoaaGreat
set_option linter.unusedSimpArgs false
set_option linter.unusedVariables false
set_option linter.unusedSimpArgs false
set_option linter.unusedVariables false
set_option linter.defProp false
set_option maxRecDepth 20000
open Go.RowKit
attribute [local irreducible] lexD

set_option maxHeartbeats 16000000 in
theorem implSubVertex_k (f : FRunD) (s : SubD) (w : SetD) (v : Int) (hf : (f.Vals).length ≤ 1048576 ∧ (f.Next.Bits).length ≤ 1048576 ∧ (f.Farm.Ends).length ≤ 1048576 ∧ (f.Farm.Shards).length ≤ 1048576 ∧ (∀ s ∈ f.Farm.Shards, s.Edges.length ≤ 1048576)) (hs : (s.Locs).length ≤ 1048576) (hw : w.Bits.length ≤ 1048576) : FnOK Tryz.prog 15 ⟨6, [(0, some (.ro ((f.Vals).map intK))), (1, some (.ro ((f.Next.Bits).map bytK))), (2, some (.ro ((f.Farm.Ends).map intK))), (3, some (.ro ((f.Farm.Shards).map (ShardD.k 96)))), (4, some (.ro ((s.Locs).map LocD.k))), (5, some (.ro ((w.Bits).map bytK)))], [.agg [.v (.int .i64 f.Job.Prog), .v (.int .i64 f.Job.Src), .v (.int .i64 f.Iter), .v (.bool f.Done), .sl 0 1 0 (f.Vals).length, .v (.int .i64 f.Next.N), .sl 1 1 0 (f.Next.Bits).length, .v (.int .i64 f.Farm.N), .sl 2 1 0 (f.Farm.Ends).length, .sl 3 3 0 (f.Farm.Shards).length], .agg [.v (.int .i64 s.P), .v (.int .i64 s.Lo), .v (.int .i64 s.Hi), .sl 4 7 0 (s.Locs).length, .v (.int .i64 s.Reads)], .agg [.v (.int .i64 w.N), .sl 5 1 0 (w.Bits).length], .c (.v (.int .i64 v))],
    .tup [.inr [.v (.int .i64 (svF f s w v).Job.Prog), .v (.int .i64 (svF f s w v).Job.Src), .v (.int .i64 (svF f s w v).Iter), .v (.bool (svF f s w v).Done), .sl 6 1 0 ((svF f s w v).Vals).length, .v (.int .i64 (svF f s w v).Next.N), .sl 7 1 0 ((svF f s w v).Next.Bits).length, .v (.int .i64 (svF f s w v).Farm.N), .sl 8 1 0 ((svF f s w v).Farm.Ends).length, .sl 9 3 0 ((svF f s w v).Farm.Shards).length], .inr [.v (.int .i64 (svS f s w v).P), .v (.int .i64 (svS f s w v).Lo), .v (.int .i64 (svS f s w v).Hi), .sl 10 7 0 ((svS f s w v).Locs).length, .v (.int .i64 (svS f s w v).Reads)], .inr [.v (.int .i64 (svW f s w v).N), .sl 11 1 0 ((svW f s w v).Bits).length]], [(6, some (.row 3 (((svF f s w v).Vals).map intK))), (7, some (.row 5 (((svF f s w v).Next.Bits).map bytK))), (8, some (.row 3 (((svF f s w v).Farm.Ends).map intK))), (9, some (.nst 179 (((svF f s w v).Farm.Shards).map (ShardD.k 96)) none)), (10, some (.row 98 (((svS f s w v).Locs).map LocD.k))), (11, some (.row 5 (((svW f s w v).Bits).map bytK)))], 12⟩ := by
  have c1 := implFRunOk_k f hf
  have c2 := implSetOk_k w.N w.Bits hw
  obtain ⟨f0, f1, f2, f3, f4⟩ := hf
  by_cases hp : svP f s w v
  case neg =>
    obtain ⟨e1, e2, e3⟩ := sv_no (f := f) (s := s) (w := w) (v := v) (fun q => hp q.1)
    rw [e1, e2, e3]
    dsimp only
    obtain ⟨b1, h1⟩ : ∃ b, b = pB (FrOk f) := ⟨_, rfl⟩
    obtain ⟨b2, h2⟩ : ∃ b, b = setOk w.N w.Bits := ⟨_, rfl⟩
    have hno : b1 = true → b2 = true → s.Lo ≤ v → v < s.Hi → 0 ≤ v → v < f.Farm.N → w.N = f.Farm.N → s.Locs.length ≤ 400 → False := fun q1 q2 q3 q4 q5 q6 q7 q8 => hp ⟨pB_i (by rw [← h1]; exact q1), ⟨q3, q4, q5, q6⟩, ⟨by rw [← h2]; exact q2, q7⟩, q8⟩
    rw [← h1] at c1
    rw [← h2] at c2
    clear h1 h2 e1 e2 e3 hp
    refine fnOK_of true mixed Tryz.func15 rfl (by rfl) (by rfl) ?_
    have hres := congrArg Array.toList Tryz.results15
    simp only [Tryz.ntmps15, BGB, seval]
    (have gx := @List.length_map.{0,0}; have q1 := c1; have q2 := c2; refine go ?_; (repeat' (first | exact Ef.mk | refine Lf.mk ?_ ?_ | refine fun (K : KT) hK hE hT => ?_ | refine fun (KS : Eff → Prop) hKS => ?_ | refine fun (D : List Keys → Prop) hD => ?_ | refine fun (hg : (_ : Prop)) => ?_ | fail)); all_goals (first | (refine Wr.mk ?_; (try clear gx); (try clear q1 q2); repeat (first | (clear hK hE hT; clear K) | (clear hR hE hT; clear K))) | assumption | skip))
    all_goals first
      | (exfalso; exact hno (by assumption) (by assumption) (by omega) (by omega) (by omega) (by omega) (by omega) (by omega))
      | (refine post_a hres (.inl rfl) ?_; simp only [RSB, ENB, seval, tiAll, true_and]; simp only [MAB, seval]; refine ⟨rfl, rfl, ?_, ?_, ?_⟩ <;> (first | rfl | (simp [WKB, Nat.add_comm, true_and]; done) | (simp only [WKB, seval])))
  case pos =>
    obtain ⟨p1, ⟨p5, p6, p7, p8⟩, ⟨p2, p3⟩, p4⟩ := id hp
    have hin := fr_in p1
    rw [pB_t p1] at c1
    rw [p2] at c2
    obtain ⟨k, rfl⟩ := Int.eq_ofNat_of_zero_le p7
    rw [p3] at p2
    have p1 := p8
    refine fnOK_of true mixed Tryz.func15 rfl (by rfl) (by rfl) ?_
    have hres := congrArg Array.toList Tryz.results15
    simp only [Tryz.ntmps15, BGB, seval]
    (have gx := @List.length_map.{0,0}; have q1 := c1; have q2 := c2; refine go ?_; (repeat' (first | exact Ef.mk | refine Lf.mk ?_ ?_ | refine fun (K : KT) hK hE hT => ?_ | refine fun (KS : Eff → Prop) hKS => ?_ | refine fun (D : List Keys → Prop) hD => ?_ | refine fun (hg : (_ : Prop)) => ?_ | fail)); all_goals (first | (refine Wr.mk ?_; (try clear gx); (try clear q1 q2); repeat (first | (clear hK hE hT; clear K) | (clear hR hE hT; clear K))) | assumption | skip))
    all_goals first | (exfalso; omega) | skip
    refine loop_v (X := {i : Nat // i ≤ s.Locs.length ∧ Rnd (locsOk s.Locs i)}) [] (fun x => [(67, .c (.v (.int .i64 ((x.1 : Nat) : Int))))]) (fun x => [(0, some (.ro ((f.Vals).map intK))), (1, some (.ro ((f.Next.Bits).map bytK))), (2, some (.ro ((f.Farm.Ends).map intK))), (3, some (.ro ((f.Farm.Shards).map (ShardD.k 96)))), (4, some (.ro ((s.Locs).map LocD.k))), (5, some (.ro ((w.Bits).map bytK))), (6, some (.box 45 [.v (.int .i64 f.Job.Prog), .v (.int .i64 f.Job.Src), .v (.int .i64 f.Iter), .v (.bool f.Done), .sl 0 1 0 (f.Vals).length, .v (.int .i64 f.Next.N), .sl 1 1 0 (f.Next.Bits).length, .v (.int .i64 f.Farm.N), .sl 2 1 0 (f.Farm.Ends).length, .sl 3 3 0 (f.Farm.Shards).length])), (7, some (.box 48 [.v (.int .i64 s.P), .v (.int .i64 s.Lo), .v (.int .i64 s.Hi), .sl 4 7 0 (s.Locs).length, .v (.int .i64 s.Reads)])), (8, some (.box 40 [.v (.int .i64 w.N), .sl 5 1 0 (w.Bits).length])), (9, some (.box 45 [.v (.int .i64 0), .v (.int .i64 0), .v (.int .i64 0), .v (.bool false), .nil, .v (.int .i64 0), .nil, .v (.int .i64 0), .nil, .nil])), (10, some (.box 48 [.v (.int .i64 0), .v (.int .i64 0), .v (.int .i64 0), .nil, .v (.int .i64 0)])), (11, some (.box 40 [.v (.int .i64 0), .nil]))]) 12 (fun x => s.Locs.length - x.1) ⟨0, by omega, ⟨locsOk_zero _⟩⟩ ?_
    simp only [KPB, seval]
    refine ⟨?_, ?_⟩
    · (refine wk_a ?_; simp only [MAB, seval]; refine ⟨rfl, rfl, (by decide), ?_, ?_⟩; all_goals (first | (simp only [WKB, seval, true_and, Nat.reduceLT, Nat.zero_lt_succ]; done) | (simp [WKB, seval, true_and]; done) | simp only [WKB, seval]))
    · rintro ⟨i, hi, hk⟩ K hR hE hT
      have hk := hk.out
      rcases Nat.lt_or_ge i s.Locs.length with hlt | hge
      case inl =>
        have hsu := fun h => locsOk_succ hk hlt h
        have hbad : ¬ locE s.Locs[i] → ¬ svOk f s w (k : Int) := fun h q => h (q.2 i hlt hlt)
        obtain ⟨y, hy⟩ : ∃ y, y = s.Locs[i] := ⟨_, rfl⟩
        rw [← hy] at hsu hbad
        have cv := implisValue_k y.Edge.Val
        by_cases he : locE y
        case pos =>
          have he' := he
          unfold locE at he'
          rw [show valOk y.Edge.Val = true from decide_eq_true he'.1] at cv
          (have gx := And.intro (@List.length_map.{0,0}) (And.intro (@List.getElem_map.{0,0}) (And.intro (hy).symm @LocD.k.eq_1)); have q1 := cv; refine go ?_; (repeat' (first | exact Ef.mk | refine Lf.mk ?_ ?_ | refine fun (K : KT) hK hE hT => ?_ | refine fun (KS : Eff → Prop) hKS => ?_ | refine fun (D : List Keys → Prop) hD => ?_ | refine fun (hg : (_ : Prop)) => ?_ | fail)); all_goals (first | (refine Wr.mk ?_; (try clear gx); (try clear q1); repeat (first | (clear hK hE hT; clear K) | (clear hR hE hT; clear K))) | assumption | skip))
          all_goals first | (exfalso; omega) | skip
          all_goals (refine hR.out ⟨i + 1, by omega, ⟨hsu he⟩⟩ _ _ _ (by simp only; omega) ?_; (refine wk_a ?_; simp only [MAB, seval]; refine ⟨rfl, rfl, (by decide), ?_, ?_⟩; all_goals (first | (simp only [WKB, seval, true_and, Nat.reduceLT, Nat.zero_lt_succ]; done) | (simp [WKB, seval, true_and]; done) | simp only [WKB, seval])))
        case neg =>
          obtain ⟨e1, e2, e3⟩ := sv_no (hbad he)
          unfold locE at he
          by_cases hvv : 0 ≤ y.Edge.Val ∧ y.Edge.Val ≤ 1099511627776
          · rw [show valOk y.Edge.Val = true from decide_eq_true hvv] at cv
            (have gx := And.intro (@List.length_map.{0,0}) (And.intro (@List.getElem_map.{0,0}) (And.intro (hy).symm @LocD.k.eq_1)); have q1 := cv; refine go ?_; (repeat' (first | exact Ef.mk | refine Lf.mk ?_ ?_ | refine fun (K : KT) hK hE hT => ?_ | refine fun (KS : Eff → Prop) hKS => ?_ | refine fun (D : List Keys → Prop) hD => ?_ | refine fun (hg : (_ : Prop)) => ?_ | fail)); all_goals (first | (refine Wr.mk ?_; (try clear gx); (try clear q1); repeat (first | (clear hK hE hT; clear K) | (clear hR hE hT; clear K))) | assumption | skip))
            all_goals first | (exfalso; omega) | (refine post_a hres (.inl rfl) ?_; simp only [RSB, ENB, seval, tiAll, e1, e2, e3]; simp only [MAB, seval]; refine ⟨rfl, rfl, ?_, ?_, ?_⟩ <;> (first | rfl | (simp [WKB, Nat.add_comm, e1, e2, e3]; done) | (simp only [WKB, seval])))
          · rw [show valOk y.Edge.Val = false from decide_eq_false hvv] at cv
            (have gx := And.intro (@List.length_map.{0,0}) (And.intro (@List.getElem_map.{0,0}) (And.intro (hy).symm @LocD.k.eq_1)); have q1 := cv; refine go ?_; (repeat' (first | exact Ef.mk | refine Lf.mk ?_ ?_ | refine fun (K : KT) hK hE hT => ?_ | refine fun (KS : Eff → Prop) hKS => ?_ | refine fun (D : List Keys → Prop) hD => ?_ | refine fun (hg : (_ : Prop)) => ?_ | fail)); all_goals (first | (refine Wr.mk ?_; (try clear gx); (try clear q1); repeat (first | (clear hK hE hT; clear K) | (clear hR hE hT; clear K))) | assumption | skip))
            all_goals (refine post_a hres (.inl rfl) ?_; simp only [RSB, ENB, seval, tiAll, e1, e2, e3]; simp only [MAB, seval]; refine ⟨rfl, rfl, ?_, ?_, ?_⟩ <;> (first | rfl | (simp [WKB, Nat.add_comm, e1, e2, e3]; done) | (simp only [WKB, seval])))
      case inr =>
        obtain rfl : i = s.Locs.length := by omega
        have hok := hk
        obtain ⟨e1, e2, e3⟩ := sv_yes (f := f) (s := s) (w := w) (k := k) ⟨hp, hok⟩
        obtain ⟨q1, q2, q3⟩ := sv_lens (v := k) hin p4 hok p2 p1
        have cc := copyFRun_k f ⟨f0, f1, f2, f3, f4⟩
        have cd := copySub_k s hs
        have ce := copySet_k w hw
        have cu := fupd_k f s w.Bits k (svG f s) (rOf f s.Locs) rfl rfl (ix_of hin p4 hok) hin.so p2 hin.sn p1
        have ex : vxEnd (gOf f.Farm.N s.Locs) (rOf f s.Locs) w.Bits k = vxEnd (svG f s) (rOf f s.Locs) w.Bits k := rfl
        rw [ex] at q1 q2 q3
        obtain ⟨E, hE0⟩ : ∃ E, E = vxEnd (svG f s) (rOf f s.Locs) w.Bits k := ⟨_, rfl⟩
        obtain ⟨nv, hnv⟩ : ∃ n, n = vxVal (svG f s) (rOf f s.Locs) k := ⟨_, rfl⟩
        rw [← hE0] at q1 q2 q3
        simp only [← hE0, ← hnv] at cu e1 e2 e3
        have q4 := setEv_len q1
        rw [p3] at ce
        clear ex hE0 hnv
        (have gx := And.intro @List.length_map.{0,0} @p3; have q1 := cc; have q2 := cd; have q3 := ce; have q4 := cu; refine go ?_; (repeat' (first | exact Ef.mk | refine Lf.mk ?_ ?_ | refine fun (K : KT) hK hE hT => ?_ | refine fun (KS : Eff → Prop) hKS => ?_ | refine fun (D : List Keys → Prop) hD => ?_ | refine fun (hg : (_ : Prop)) => ?_ | fail)); all_goals (first | (refine Wr.mk ?_; (try clear gx); (try clear q1 q2 q3 q4); repeat (first | (clear hK hE hT; clear K) | (clear hR hE hT; clear K))) | assumption | skip))
        (refine post_a hres (.inl rfl) ?_; simp only [RSB, ENB, seval, tiAll, e1, e2, e3, List.length_set, q2, q3, q4]; simp only [MAB, seval]; refine ⟨rfl, rfl, ?_, ?_, ?_⟩ <;> (first | rfl | (simp [WKB, Nat.add_comm, e1, e2, e3, List.length_set, q2, q3, q4]; done) | (simp only [WKB, seval])))

end Go.Proofs.YtcbnfkbnbdbfoaaGreat
