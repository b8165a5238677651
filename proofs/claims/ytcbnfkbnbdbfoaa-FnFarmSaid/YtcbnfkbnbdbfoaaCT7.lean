/-
  Contracts: the reference's shards and farms. No conditions of its own.
-/
import Derived.Test.YtcbnfkbnbdbfoaaGO
import Derived.Test.YtcbnfkbnbdbfoaaCT6
import Derived.Test.YtcbnfkbnbdbfoaaCT3
namespace Go.Proofs.Ytcbnfkbnbdbfoaa
set_option linter.unusedSimpArgs false
set_option linter.unusedVariables false
set_option linter.unusedSimpArgs false
set_option linter.unusedVariables false
set_option linter.defProp false
set_option maxRecDepth 20000
open Go.RowKit
attribute [local irreducible] lexD

theorem cut_memlen {l : List RecD} {size : Nat} : ∀ {k : Nat} {b : List RecD}, b ∈ cutR l size k → b.length ≤ l.length
  | k + 1, b, h => by
    rw [cutR, List.mem_append, List.mem_singleton] at h
    rcases h with h | rfl
    · exact cut_memlen h
    · rw [srtR_len, List.length_take, List.length_drop]; omega

set_option maxHeartbeats 8000000 in
theorem specSortAll_k (l : List RecD) (sz : Nat) (h : 0 < sz) (hsz : sz ≤ 9223372036854775807) (hl : l.length ≤ 1048576) : FnOK Try.prog 98 ⟨1, [(0, some (.ro (l.map RecD.k)))], [.c (.sl 0 3 0 l.length), .c (.v (.int .i64 (sz : Int)))], .c (.sl 1 3 0 l.length), [(1, some (.row 137 ((soL l sz).map RecD.k)))], 2⟩ := by
  have c1 := specBatches_k l sz h hsz hl
  have hp := pcN_le (m := l.length) h
  have hcl := cutR_len l sz (pcN l.length sz)
  have hfl : (cutR l sz (pcN l.length sz)).flatten.length ≤ l.length := by
    rw [(cutR_perm l sz _).length_eq, List.length_take]; omega
  have c2 := specMerge_k (cutR l sz (pcN l.length sz)) (cutR_sorted l sz _) (by omega) (by omega) fun b hb => by have := cut_memlen hb; omega
  have hsl : (mgL (cutR l sz (pcN l.length sz))).length = l.length := (soL_ok l h).1.length_eq
  have he : soL l sz = mgL (cutR l sz (pcN l.length sz)) := rfl
  rw [he]
  rw [hcl, hsl] at c2
  obtain ⟨M, hM⟩ : ∃ M, M = mgL (cutR l sz (pcN l.length sz)) := ⟨_, rfl⟩
  rw [← hM] at c2 hsl ⊢
  obtain ⟨C, hC⟩ : ∃ C, C = cutR l sz (pcN l.length sz) := ⟨_, rfl⟩
  rw [← hC] at c1 c2 hcl
  obtain ⟨P, hP⟩ : ∃ P, P = pcN l.length sz := ⟨_, rfl⟩
  rw [← hP] at c1 c2 hcl hp
  refine fnOK_of true mixed Try.func98 rfl (by rfl) (by rfl) ?_
  have hres := congrArg Array.toList Try.results98
  simp only [Try.ntmps98, BGB, seval]
  (have gx := And.intro @List.length_map.{0,0} @hcl; have q1 := c1; have q2 := c2; refine go ?_; (repeat' (first | exact Ef.mk | refine Lf.mk ?_ ?_ | refine fun (K : KT) hK hE hT => ?_ | refine fun (KS : Eff → Prop) hKS => ?_ | refine fun (D : List Keys → Prop) hD => ?_ | refine fun (hg : (_ : Prop)) => ?_ | fail)); all_goals (first | (refine Wr.mk ?_; (try clear gx); (try clear q1 q2); repeat (first | (clear hK hE hT; clear K) | (clear hR hE hT; clear K))) | assumption | skip))
  (refine post_a hres (.inl rfl) ?_; simp only [RSB, ENB, seval, tiAll, true_and]; simp only [MAB, seval]; refine ⟨rfl, rfl, ?_, ?_, ?_⟩ <;> (first | rfl | (simp [WKB, Nat.add_comm, true_and]; done) | (simp only [WKB, seval])))

def shTo2 (g : GraphD) (ends : List Int) (l : List RecD) (p : Nat) : List ShardD := (List.range p).map (shAt g ends l)
theorem shTo2_len (g : GraphD) (ends : List Int) (l : List RecD) (p : Nat) : (shTo2 g ends l p).length = p := by simp [shTo2]
theorem shTo2_succ (g : GraphD) (ends : List Int) (l : List RecD) (p : Nat) : shTo2 g ends l (p + 1) = shTo2 g ends l p ++ [shAt g ends l p] := by simp [shTo2, List.range_succ]


set_option maxHeartbeats 16000000 in
theorem specShards_k (g : GraphD) (ends : List Int) (sz : Nat) (hg : graphOk g = true) (he : EndsOk g.N ends) (hle : ends.length ≤ 150) (h : 0 < sz) (hsz : sz ≤ 9223372036854775807) : FnOK Try.prog 58 ⟨2, [(0, some (.ro ((g.Edges).map EdgeD.k))), (1, some (.ro (ends.map intK)))], [.agg [.v (.int .i64 g.N), .sl 0 3 0 (g.Edges).length], .c (.sl 1 1 0 ends.length), .c (.v (.int .i64 (sz : Int)))], .c (.sl 2 3 0 ends.length), [(2, some (.nst 77 ((shL g ends (srtG g ends sz)).map (ShardD.k 64)) none))], 3⟩ := by
  obtain ⟨g1, g2, g3, g4⟩ := graphOk_in hg
  have c1 := specGraphOk_k g (by omega)
  rw [hg] at c1
  have c2 := specEndsOk_k g.N ends (by omega)
  rw [pB_t he] at c2
  have hrl := rcL_len g ends
  have c3 := specSortAll_k (rcL g ends g.Edges.length) sz h hsz (by rw [hrl]; omega)
  rw [hrl] at c3
  have hsm := srtG_mem hg he h
  have hsl := srtG_len g ends h
  have hsd : soL (rcL g ends g.Edges.length) sz = srtG g ends sz := rfl
  rw [hsd] at c3
  have hfin : shL g ends (srtG g ends sz) = shTo2 g ends (srtG g ends sz) ends.length := rfl
  rw [hfin]
  obtain ⟨S, hS⟩ : ∃ S, S = srtG g ends sz := ⟨_, rfl⟩
  rw [← hS] at c3 hsm hsl ⊢
  clear hsd hfin hS
  refine fnOK_of true mixed Try.func58 rfl (by rfl) (by rfl) ?_
  have hres := congrArg Array.toList Try.results58
  simp only [Try.ntmps58, BGB, seval]
  (have gx := @List.length_map.{0,0}; have q1 := c1; have q2 := c2; refine go ?_; (repeat' (first | exact Ef.mk | refine Lf.mk ?_ ?_ | refine fun (K : KT) hK hE hT => ?_ | refine fun (KS : Eff → Prop) hKS => ?_ | refine fun (D : List Keys → Prop) hD => ?_ | refine fun (hg : (_ : Prop)) => ?_ | fail)); all_goals (first | (refine Wr.mk ?_; (try clear gx); (try clear q1 q2); repeat (first | (clear hK hE hT; clear K) | (clear hR hE hT; clear K))) | assumption | skip))
  refine loop_v (X := {k : Nat // k ≤ g.Edges.length}) [32] (fun x => [(7, .c (.sl 3 3 0 x.1)), (36, .c (.v (.int .i64 ((x.1 : Nat) : Int))))]) (fun x => [(0, some (.ro (g.Edges.map EdgeD.k))), (1, some (.ro (ends.map intK))), (2, some (.box 53 [.v (.int .i64 g.N), .sl 0 3 0 g.Edges.length])), (3, some (.row 137 ((rcL g ends x.1).map RecD.k)))]) 4 (fun x => g.Edges.length - x.1) ⟨0, by omega⟩ ?_
  simp only [KPB, seval]
  refine ⟨?_, ?_⟩
  · (refine wk_a ?_; simp only [MAB, seval]; refine ⟨rfl, rfl, (by decide), ?_, ?_⟩; all_goals (first | (simp only [WKB, seval, rcL, List.range_zero, List.map_nil, Nat.reduceLT, Nat.zero_lt_succ]; done) | (simp [WKB, seval, rcL, List.range_zero, List.map_nil]; done) | simp only [WKB, seval]))
  · rintro ⟨k, hk⟩ K hR hE hT
    have lk := hrl k
    rcases Nat.lt_or_ge k g.Edges.length with hlt | hge
    case inl =>
      have hrs := rcL_succ g ends k
      have g5 := g4 k hlt
      have ed : rcAt g ends k = ⟨(ivN ends g.Edges[k].To ends.length : Int), g.Edges[k].From, (k : Int)⟩ := by
        unfold rcAt
        rw [List.getD_eq_getElem?_getD, List.getElem?_eq_getElem hlt]; rfl
      have ci := specIntervalOf_k g.N ends g.Edges[k].To he g5.2.2.1 g5.2.2.2.1 (by omega)
      rw [ed] at hrs
      obtain ⟨y, hy⟩ : ∃ y, y = g.Edges[k] := ⟨_, rfl⟩
      rw [← hy] at hrs ci
      obtain ⟨L, hL⟩ : ∃ L, L = rcL g ends k := ⟨_, rfl⟩
      rw [← hL] at hrs lk ⊢
      (have gx := And.intro (@List.length_map.{0,0}) (And.intro (@List.getElem_map.{0,0}) (And.intro ((hy).symm) (And.intro @EdgeD.k.eq_1 @lk))); have q1 := ci; refine go ?_; (repeat' (first | exact Ef.mk | refine Lf.mk ?_ ?_ | refine fun (K : KT) hK hE hT => ?_ | refine fun (KS : Eff → Prop) hKS => ?_ | refine fun (D : List Keys → Prop) hD => ?_ | refine fun (hg : (_ : Prop)) => ?_ | fail)); all_goals (first | (refine Wr.mk ?_; (try clear gx); (try clear q1); repeat (first | (clear hK hE hT; clear K) | (clear hR hE hT; clear K))) | assumption | skip))
      (refine hR.out ⟨k + 1, by omega⟩ _ _ _ (by simp only; omega) ?_; (refine wk_a ?_; simp only [MAB, seval]; refine ⟨rfl, rfl, (by decide), ?_, ?_⟩; all_goals (first | (simp only [WKB, seval, hrs, RecD.k, List.map_append, List.map_cons, List.map_nil, Nat.reduceLT, Nat.zero_lt_succ]; done) | (simp [WKB, seval, hrs, RecD.k, List.map_append, List.map_cons, List.map_nil]; done) | simp only [WKB, seval])))
    case inr =>
      obtain rfl : k = g.Edges.length := by omega
      (have gx := And.intro @List.length_map.{0,0} @lk; have q1 := c3; refine go ?_; (repeat' (first | exact Ef.mk | refine Lf.mk ?_ ?_ | refine fun (K : KT) hK hE hT => ?_ | refine fun (KS : Eff → Prop) hKS => ?_ | refine fun (D : List Keys → Prop) hD => ?_ | refine fun (hg : (_ : Prop)) => ?_ | fail)); all_goals (first | (refine Wr.mk ?_; (try clear gx); (try clear q1); repeat (first | (clear hK hE hT; clear K) | (clear hR hE hT; clear K))) | assumption | skip))
      refine loop_v (X := {p : Nat // p ≤ ends.length}) [56] (fun x => [(10, .c (.sl 5 3 0 x.1)), (59, .c (.v (.int .i64 ((x.1 : Nat) : Int))))]) (fun x => [(0, some (.ro (g.Edges.map EdgeD.k))), (1, some (.ro (ends.map intK))), (2, some (.box 53 [.v (.int .i64 g.N), .sl 0 3 0 g.Edges.length])), (3, some (.row 137 ((rcL g ends g.Edges.length).map RecD.k))), (4, some (.row 137 (S.map RecD.k))), (5, some (.nst 77 ((shTo2 g ends S x.1).map (ShardD.k 64)) none))]) 6 (fun x => ends.length - x.1) ⟨0, by omega⟩ ?_
      simp only [KPB, seval]
      refine ⟨?_, ?_⟩
      · (refine wk_a ?_; simp only [MAB, seval]; refine ⟨rfl, rfl, (by decide), ?_, ?_⟩; all_goals (first | (simp only [WKB, seval, shTo2, List.range_zero, List.map_nil, Nat.reduceLT, Nat.zero_lt_succ]; done) | (simp [WKB, seval, shTo2, List.range_zero, List.map_nil]; done) | simp only [WKB, seval]))
      · rintro ⟨p, hp⟩ K hR2 hE hT
        have ls := shTo2_len g ends S p
        rcases Nat.lt_or_ge p ends.length with hpl | hpg
        case inr =>
          obtain rfl : p = ends.length := by omega
          (have gx := And.intro @List.length_map.{0,0} @ls; refine go ?_; (repeat' (first | exact Ef.mk | refine Lf.mk ?_ ?_ | refine fun (K : KT) hK hE hT => ?_ | refine fun (KS : Eff → Prop) hKS => ?_ | refine fun (D : List Keys → Prop) hD => ?_ | refine fun (hg : (_ : Prop)) => ?_ | fail)); all_goals (first | (refine Wr.mk ?_; (try clear gx); repeat (first | (clear hK hE hT; clear K) | (clear hR hE hT; clear K))) | assumption | skip))
          (refine post_a hres (.inl rfl) ?_; simp only [RSB, ENB, seval, tiAll, true_and]; simp only [MAB, seval]; refine ⟨rfl, rfl, ?_, ?_, ?_⟩ <;> (first | rfl | (simp [WKB, Nat.add_comm, true_and]; done) | (simp only [WKB, seval])))
        case inl =>
          have hss := shTo2_succ g ends S p
          have hsa : shAt g ends S p = ⟨lastE ends p, ends[p], dealt g S p⟩ := by unfold shAt; rw [lastE_succ hpl]
          rw [hsa] at hss
          have cs := specSpan_k ends p (by omega) hpl
          obtain ⟨lo, hlo⟩ : ∃ z, z = lastE ends p := ⟨_, rfl⟩
          obtain ⟨hi, hhi⟩ : ∃ z, z = ends[p] := ⟨_, rfl⟩
          rw [← hlo, ← hhi] at cs hss
          have hde := dealt_le g S p
          have hdj := fun j => dealt_le g (S.take j) p
          have hdz : dealt g (S.take S.length) p = dealt g S p := by rw [List.take_length]
          obtain ⟨L, hL⟩ : ∃ L, L = shTo2 g ends S p := ⟨_, rfl⟩
          rw [← hL] at hss ls ⊢
          (have gx := And.intro @List.length_map.{0,0} @ls; have q1 := cs; refine go ?_; (repeat' (first | exact Ef.mk | refine Lf.mk ?_ ?_ | refine fun (K : KT) hK hE hT => ?_ | refine fun (KS : Eff → Prop) hKS => ?_ | refine fun (D : List Keys → Prop) hD => ?_ | refine fun (hg : (_ : Prop)) => ?_ | fail)); all_goals (first | (refine Wr.mk ?_; (try clear gx); (try clear q1); repeat (first | (clear hK hE hT; clear K) | (clear hR hE hT; clear K))) | assumption | skip))
          refine loop_v (X := {j : Nat // j ≤ S.length}) [] (fun x => [(73, .c (.v (.int .i64 ((x.1 : Nat) : Int))))]) (fun x => [(0, some (.ro (g.Edges.map EdgeD.k))), (1, some (.ro (ends.map intK))), (2, some (.box 53 [.v (.int .i64 g.N), .sl 0 3 0 g.Edges.length])), (3, some (.row 137 ((rcL g ends g.Edges.length).map RecD.k))), (4, some (.row 137 (S.map RecD.k))), (5, some (.nst 77 (L.map (ShardD.k 64)) none)), (6, some (.box 77 [.v (.int .i64 lo), .v (.int .i64 hi), .sl 7 5 0 (dealt g (S.take x.1) p).length])), (7, some (.row 64 ((dealt g (S.take x.1) p).map SEdgeD.k)))]) 8 (fun x => S.length - x.1) ⟨0, by omega⟩ ?_
          simp only [KPB, seval]
          refine ⟨?_, ?_⟩
          · (refine wk_a ?_; simp only [MAB, seval]; refine ⟨rfl, rfl, (by decide), ?_, ?_⟩; all_goals (first | (simp only [WKB, seval, List.take_zero, dealt_nil, List.map_nil, List.length_nil, Nat.reduceLT, Nat.zero_lt_succ]; done) | (simp [WKB, seval, List.take_zero, dealt_nil, List.map_nil, List.length_nil]; done) | simp only [WKB, seval]))
          · rintro ⟨j, hj⟩ K hR3 hE hT
            have hdj := hdj j
            rw [List.length_take] at hdj
            rcases Nat.lt_or_ge j S.length with hjl | hjg
            case inr =>
              obtain rfl : j = S.length := by omega
              rw [hdz] at hdj ⊢
              obtain ⟨M, hM⟩ : ∃ M, M = dealt g S p := ⟨_, rfl⟩
              rw [← hM] at hss hdj ⊢
              (have gx := And.intro @List.length_map.{0,0} @ls; refine go ?_; (repeat' (first | exact Ef.mk | refine Lf.mk ?_ ?_ | refine fun (K : KT) hK hE hT => ?_ | refine fun (KS : Eff → Prop) hKS => ?_ | refine fun (D : List Keys → Prop) hD => ?_ | refine fun (hg : (_ : Prop)) => ?_ | fail)); all_goals (first | (refine Wr.mk ?_; (try clear gx); repeat (first | (clear hK hE hT; clear K) | (clear hR hE hT; clear K))) | assumption | skip))
              refine hR2.out ⟨p + 1, by omega⟩ _ _ _ (by simp only; omega) ?_
              (refine wk_a ?_; simp only [MAB, seval]; refine ⟨rfl, rfl, (by decide), ?_, ?_⟩; all_goals (first | (simp only [WKB, seval, hss, ShardD.k, List.map_append, List.map_cons, List.map_nil, Nat.reduceLT, Nat.zero_lt_succ]; done) | (simp [WKB, seval, hss, ShardD.k, List.map_append, List.map_cons, List.map_nil]; done) | simp only [WKB, seval]))
            case inl =>
              have hts : S.take (j + 1) = S.take j ++ [S[j]] := List.take_succ_eq_append_getElem hjl
              obtain ⟨i, hi2, _, hC, hse, _⟩ := hsm _ (List.getElem_mem hjl)
              obtain ⟨d, hd⟩ : ∃ d, d = S[j] := ⟨_, rfl⟩
              rw [← hd] at hts hC hse
              obtain ⟨y, hy⟩ : ∃ y, y = g.Edges[i] := ⟨_, rfl⟩
              rw [← hy] at hse
              by_cases hA : d.A = (p : Int)
              · have e := dealt_hit (g := g) (l := S.take j) hA
                rw [← hts, hse] at e
                obtain ⟨M, hM⟩ : ∃ M, M = dealt g (S.take j) p := ⟨_, rfl⟩
                rw [← hM] at e hdj ⊢
                (have gx := And.intro (@List.length_map.{0,0}) (And.intro (@List.getElem_map.{0,0}) (And.intro ((hd).symm) (And.intro ((hy).symm) (And.intro (@RecD.k.eq_1) (And.intro @EdgeD.k.eq_1 @hC))))); refine go ?_; (repeat' (first | exact Ef.mk | refine Lf.mk ?_ ?_ | refine fun (K : KT) hK hE hT => ?_ | refine fun (KS : Eff → Prop) hKS => ?_ | refine fun (D : List Keys → Prop) hD => ?_ | refine fun (hg : (_ : Prop)) => ?_ | fail)); all_goals (first | (refine Wr.mk ?_; (try clear gx); repeat (first | (clear hK hE hT; clear K) | (clear hR hE hT; clear K))) | assumption | skip))
                refine hR3.out ⟨j + 1, by omega⟩ _ _ _ (by simp only; omega) ?_
                (refine wk_a ?_; simp only [MAB, seval]; refine ⟨rfl, rfl, (by decide), ?_, ?_⟩; all_goals (first | (simp only [WKB, seval, e, SEdgeD.k, List.map_append, List.map_cons, List.map_nil, List.length_append, List.length_cons, List.length_nil, Nat.reduceLT, Nat.zero_lt_succ]; done) | (simp [WKB, seval, e, SEdgeD.k, List.map_append, List.map_cons, List.map_nil, List.length_append, List.length_cons, List.length_nil]; done) | simp only [WKB, seval]))
              · have e := dealt_miss (g := g) (l := S.take j) hA
                rw [← hts] at e
                obtain ⟨M, hM⟩ : ∃ M, M = dealt g (S.take j) p := ⟨_, rfl⟩
                rw [← hM] at e hdj ⊢
                (have gx := And.intro (@List.length_map.{0,0}) (And.intro (@List.getElem_map.{0,0}) (And.intro (hd).symm @RecD.k.eq_1)); refine go ?_; (repeat' (first | exact Ef.mk | refine Lf.mk ?_ ?_ | refine fun (K : KT) hK hE hT => ?_ | refine fun (KS : Eff → Prop) hKS => ?_ | refine fun (D : List Keys → Prop) hD => ?_ | refine fun (hg : (_ : Prop)) => ?_ | fail)); all_goals (first | (refine Wr.mk ?_; (try clear gx); repeat (first | (clear hK hE hT; clear K) | (clear hR hE hT; clear K))) | assumption | skip))
                refine hR3.out ⟨j + 1, by omega⟩ _ _ _ (by simp only; omega) ?_
                (refine wk_a ?_; simp only [MAB, seval]; refine ⟨rfl, rfl, (by decide), ?_, ?_⟩; all_goals (first | (simp only [WKB, seval, e, Nat.reduceLT, Nat.zero_lt_succ]; done) | (simp [WKB, seval, e]; done) | simp only [WKB, seval]))

set_option maxHeartbeats 8000000 in
theorem specFarmOf_k (g : GraphD) (b size : Int) (hl : g.Edges.length ≤ 1048576) (hs : size ≤ 9223372036854775807) : FnOK Try.prog 23 ⟨1, [(0, some (.ro ((g.Edges).map EdgeD.k)))], [.agg [.v (.int .i64 g.N), .sl 0 3 0 (g.Edges).length], .c (.v (.int .i64 b)), .c (.v (.int .i64 size))],
    .tup [.inr [.v (.int .i64 (farmR g b size).N), .sl 1 1 0 ((farmR g b size).Ends).length, .sl 2 3 0 ((farmR g b size).Shards).length], .inl (.v (.bool (fmOk g b size)))], [(1, some (.row 3 (((farmR g b size).Ends).map intK))), (2, some (.nst 77 (((farmR g b size).Shards).map (ShardD.k 64)) none))], 3⟩ := by
  have cg := specGraphOk_k g (by omega)
  cases ho : fmOk g b size with
  | false =>
    rw [farm_no ho]
    obtain ⟨v1, e1⟩ : ∃ v, v = graphOk g := ⟨_, rfl⟩
    rw [← e1] at cg
    have hno : v1 = true → 1 ≤ b → b ≤ 400 → 1 ≤ size → False := fun q1 q2 q3 q4 => by
      unfold fmOk cutOk at ho
      rw [← e1, q1, decide_eq_true ⟨q2, q3⟩, decide_eq_true q4] at ho
      cases ho
    clear ho e1
    refine fnOK_of true mixed Try.func23 rfl (by rfl) (by rfl) ?_
    have hres := congrArg Array.toList Try.results23
    simp only [Try.ntmps23, BGB, seval]
    (have gx := true_and True; have q1 := cg; refine go ?_; (repeat' (first | exact Ef.mk | refine Lf.mk ?_ ?_ | refine fun (K : KT) hK hE hT => ?_ | refine fun (KS : Eff → Prop) hKS => ?_ | refine fun (D : List Keys → Prop) hD => ?_ | refine fun (hg : (_ : Prop)) => ?_ | fail)); all_goals (first | (refine Wr.mk ?_; (try clear gx); (try clear q1); repeat (first | (clear hK hE hT; clear K) | (clear hR hE hT; clear K))) | assumption | skip))
    all_goals first
      | (exfalso; exact hno (by assumption) (by omega) (by omega) (by omega))
      | skip
    all_goals (refine post_a hres (.inl rfl) ?_; simp only [RSB, ENB, seval, tiAll, true_and]; simp only [MAB, seval]; refine ⟨rfl, rfl, ?_, ?_, ?_⟩ <;> (first | rfl | (simp [WKB, Nat.add_comm, true_and]; done) | (simp only [WKB, seval])))
  | true =>
    obtain ⟨e1, hc, hs1⟩ := farm_yes ho
    obtain ⟨hg, hb1, hb2⟩ := cutOk_out hc
    rw [hg] at cg
    have he := cut_ends hc
    have hcl := cut_len g b
    have cc := specCut_k g b hl
    obtain ⟨sz, hsz⟩ := Int.eq_ofNat_of_zero_le (show 0 ≤ size by omega)
    rw [hsz, Int.toNat_natCast, ← hsz] at e1
    have ch := specShards_k g (cutL g b) sz hg he (by omega) (by omega) (by omega)
    rw [e1]
    subst hsz
    have e2 : farmO g b sz = ⟨g.N, cutL g b, shL g (cutL g b) (srtG g (cutL g b) sz)⟩ := rfl
    have hll := shL_len g (cutL g b) (srtG g (cutL g b) sz)
    rw [e2]
    dsimp only
    rw [hll]
    obtain ⟨Z, hZ⟩ : ∃ Z, Z = shL g (cutL g b) (srtG g (cutL g b) sz) := ⟨_, rfl⟩
    rw [← hZ] at ch ⊢
    obtain ⟨E, hE0⟩ : ∃ E, E = cutL g b := ⟨_, rfl⟩
    rw [← hE0] at cc ch hcl ⊢
    clear e1 e2 hll hZ hE0 ho
    refine fnOK_of true mixed Try.func23 rfl (by rfl) (by rfl) ?_
    have hres := congrArg Array.toList Try.results23
    simp only [Try.ntmps23, BGB, seval]
    (have gx := @List.length_map.{0,0}; have q1 := cg; have q2 := cc; have q3 := ch; refine go ?_; (repeat' (first | exact Ef.mk | refine Lf.mk ?_ ?_ | refine fun (K : KT) hK hE hT => ?_ | refine fun (KS : Eff → Prop) hKS => ?_ | refine fun (D : List Keys → Prop) hD => ?_ | refine fun (hg : (_ : Prop)) => ?_ | fail)); all_goals (first | (refine Wr.mk ?_; (try clear gx); (try clear q1 q2 q3); repeat (first | (clear hK hE hT; clear K) | (clear hR hE hT; clear K))) | assumption | skip))
    all_goals (refine post_a hres (.inl rfl) ?_; simp only [RSB, ENB, seval, tiAll, true_and]; simp only [MAB, seval]; refine ⟨rfl, rfl, ?_, ?_, ?_⟩ <;> (first | rfl | (simp [WKB, Nat.add_comm, true_and]; done) | (simp only [WKB, seval])))

end Go.Proofs.Ytcbnfkbnbdbfoaa
