/-
  Contracts: the program's shards and farm. No conditions of its own.
-/
import Derived.Test.YtfnhchcgieeedaaGO
import Derived.Test.YtfnhchcgieeedaaST12
namespace Go.Proofs.Ytfnhchcgieeedaa
set_option linter.unusedSimpArgs false
set_option linter.unusedVariables false
set_option linter.unusedSimpArgs false
set_option linter.unusedVariables false
set_option linter.defProp false
set_option maxRecDepth 20000
open Go.RowKit
attribute [local irreducible] lexD


theorem shL_set {g : GraphD} {ends : List Int} {l : List RecD} {r : RecD} {p : Nat} (hA : r.A = (p : Int)) (hp : p < ends.length) : shL g ends (l ++ [r]) = (shL g ends l).set p ⟨lastE ends p, lastE ends (p + 1), dealt g l p ++ [seOf g r]⟩ := by
  refine List.ext_getElem (by simp [shL]) fun q h1 h2 => ?_
  have hq : q < ends.length := by rw [shL_len] at h1; exact h1
  rw [shL_get, List.getElem_set]
  split
  · rename_i h; subst h
    unfold shAt
    rw [dealt_hit hA]
  · rename_i h
    rw [shL_get]
    unfold shAt
    rw [dealt_miss (by omega)]
theorem shL_nil (g : GraphD) (ends : List Int) : shL g ends [] = shTo2 g ends [] ends.length := rfl

set_option maxHeartbeats 16000000 in
theorem implShards_k (g : GraphD) (ends : List Int) (sz : Nat) (hg : graphOk g = true) (he : EndsOk g.N ends) (hle : ends.length ≤ 150) (h : 0 < sz) (hsz : sz ≤ 9223372036854775807) : FnOK Try.prog 45 ⟨2, [(0, some (.ro ((g.Edges).map EdgeD.k))), (1, some (.ro (ends.map intK)))], [.agg [.v (.int .i64 g.N), .sl 0 3 0 (g.Edges).length], .c (.sl 1 1 0 ends.length), .c (.v (.int .i64 (sz : Int)))], .c (.sl 2 3 0 ends.length), [(2, some (.nst 129 ((shL g ends (srtG g ends sz)).map (ShardD.k 131)) none))], 3⟩ := by
  obtain ⟨g1, g2, g3, g4⟩ := graphOk_in hg
  have c1 := implGraphOk_k g (by omega)
  rw [hg] at c1
  have c2 := implEndsOk_k g.N ends (by omega)
  rw [pB_t he] at c2
  have hrl := rcL_len g ends
  have c3 := implSortAll_k (rcL g ends g.Edges.length) sz h hsz (by rw [hrl]; omega)
  rw [hrl] at c3
  have hsm := srtG_mem hg he h
  have hsl := srtG_len g ends h
  have hsd : soL (rcL g ends g.Edges.length) sz = srtG g ends sz := rfl
  rw [hsd] at c3
  obtain ⟨S, hS⟩ : ∃ S, S = srtG g ends sz := ⟨_, rfl⟩
  rw [← hS] at c3 hsm hsl ⊢
  clear hsd hS
  refine fnOK_of true mixed Try.func45 rfl (by rfl) (by rfl) ?_
  have hres := congrArg Array.toList Try.results45
  simp only [Try.ntmps45, BGB, seval]
  (have gx := @List.length_map.{0,0}; have q1 := c1; have q2 := c2; refine go ?_; (repeat' first | exact Ef.mk | apply Lf.mk | refine fun (K : KT) hK hE hT => ?_ | refine fun (KS : KE) hKS => ?_ | refine fun (D : KD) hD => ?_ | refine fun (hg : (_ : Prop)) => ?_ | fail); all_goals (first | (refine Wr.mk ?_; (try clear gx q1 q2); repeat first | clear hK hE hT K | clear hR hE hT K) | assumption | skip))
  refine loop_v (X := {k : Nat // k ≤ g.Edges.length}) [] (fun x => [(7, .c (.sl 3 3 0 x.1)), (35, .c (.v (.int .i64 ((x.1 : Nat) : Int))))]) (fun x => [(0, some (.ro (g.Edges.map EdgeD.k))), (1, some (.ro (ends.map intK))), (2, some (.box 34 [.v (.int .i64 g.N), .sl 0 3 0 g.Edges.length])), (3, some (.row 124 ((rcL g ends x.1).map RecD.k)))]) 4 (fun x => g.Edges.length - x.1) ⟨0, by omega⟩ ?_
  simp only [KPB, seval]
  refine ⟨?_, ?_⟩
  · (refine wk_a ?_; simp only [MAB, seval]; refine ⟨rfl, rfl, (by decide), ?_, ?_⟩; all_goals (first | (simp only [WKB, seval, rcL, List.range_zero, List.map_nil]; done) | (simp [WKB, seval, rcL, List.range_zero, List.map_nil]; done) | simp only [WKB, seval]))
  · rintro ⟨k, hk⟩ K hR hE hT
    have lk := hrl k
    rcases Nat.lt_or_ge k g.Edges.length with hlt | hge
    case inl =>
      have hrs := rcL_succ g ends k
      have g5 := g4 k hlt
      have ed : rcAt g ends k = ⟨(ivN ends g.Edges[k].To ends.length : Int), g.Edges[k].From, (k : Int)⟩ := by
        unfold rcAt
        rw [List.getD_eq_getElem?_getD, List.getElem?_eq_getElem hlt]; rfl
      have ci := implIntervalOf_k g.N ends g.Edges[k].To he g5.2.2.1 g5.2.2.2.1 (by omega)
      rw [ed] at hrs
      obtain ⟨y, hy⟩ : ∃ y, y = g.Edges[k] := ⟨_, rfl⟩
      rw [← hy] at hrs ci
      obtain ⟨L, hL⟩ : ∃ L, L = rcL g ends k := ⟨_, rfl⟩
      rw [← hL] at hrs lk ⊢
      (have gx := And.intro (@List.length_map.{0,0}) (And.intro (@List.getElem_map.{0,0}) (And.intro ((hy).symm) (And.intro @EdgeD.k.eq_1 @lk))); have q1 := ci; refine go ?_; (repeat' first | exact Ef.mk | apply Lf.mk | refine fun (K : KT) hK hE hT => ?_ | refine fun (KS : KE) hKS => ?_ | refine fun (D : KD) hD => ?_ | refine fun (hg : (_ : Prop)) => ?_ | fail); all_goals (first | (refine Wr.mk ?_; (try clear gx q1); repeat first | clear hK hE hT K | clear hR hE hT K) | assumption | skip))
      (refine hR.out ⟨k + 1, by omega⟩ _ _ _ (by simp only; omega) ?_; (refine wk_a ?_; simp only [MAB, seval]; refine ⟨rfl, rfl, (by decide), ?_, ?_⟩; all_goals (first | (simp only [WKB, seval, hrs, RecD.k, List.map_append, List.map_cons, List.map_nil]; done) | (simp [WKB, seval, hrs, RecD.k, List.map_append, List.map_cons, List.map_nil]; done) | simp only [WKB, seval])))
    case inr =>
      obtain rfl : k = g.Edges.length := by omega
      (have gx := And.intro @List.length_map.{0,0} @lk; refine go ?_; (repeat' first | exact Ef.mk | apply Lf.mk | refine fun (K : KT) hK hE hT => ?_ | refine fun (KS : KE) hKS => ?_ | refine fun (D : KD) hD => ?_ | refine fun (hg : (_ : Prop)) => ?_ | fail); all_goals (first | (refine Wr.mk ?_; (try clear gx); repeat first | clear hK hE hT K | clear hR hE hT K) | assumption | skip))
      refine loop_v (X := {p : Nat // p ≤ ends.length}) [] (fun x => [(10, .c (.sl 4 3 0 x.1)), (54, .c (.v (.int .i64 ((x.1 : Nat) : Int))))]) (fun x => [(0, some (.ro (g.Edges.map EdgeD.k))), (1, some (.ro (ends.map intK))), (2, some (.box 34 [.v (.int .i64 g.N), .sl 0 3 0 g.Edges.length])), (3, some (.row 124 ((rcL g ends g.Edges.length).map RecD.k))), (4, some (.nst 129 ((shTo2 g ends [] x.1).map (ShardD.k 131)) none))]) 5 (fun x => ends.length - x.1) ⟨0, by omega⟩ ?_
      simp only [KPB, seval]
      refine ⟨?_, ?_⟩
      · (refine wk_a ?_; simp only [MAB, seval]; refine ⟨rfl, rfl, (by decide), ?_, ?_⟩; all_goals (first | (simp only [WKB, seval, shTo2, List.range_zero, List.map_nil]; done) | (simp [WKB, seval, shTo2, List.range_zero, List.map_nil]; done) | simp only [WKB, seval]))
      · rintro ⟨p, hp⟩ K hR2 hE hT
        have ls := shTo2_len g ends [] p
        rcases Nat.lt_or_ge p ends.length with hpl | hpg
        case inl =>
          have hss := shTo2_succ g ends [] p
          have hsa : shAt g ends [] p = ⟨lastE ends p, ends[p], []⟩ := by unfold shAt; rw [lastE_succ hpl, dealt_nil]
          rw [hsa] at hss
          have cs := implSpan_k ends p (by omega) hpl
          obtain ⟨lo, hlo⟩ : ∃ z, z = lastE ends p := ⟨_, rfl⟩
          obtain ⟨hi, hhi⟩ : ∃ z, z = ends[p] := ⟨_, rfl⟩
          rw [← hlo, ← hhi] at cs hss
          obtain ⟨L, hL⟩ : ∃ L, L = shTo2 g ends [] p := ⟨_, rfl⟩
          rw [← hL] at hss ls ⊢
          (have gx := And.intro @List.length_map.{0,0} @ls; have q1 := cs; refine go ?_; (repeat' first | exact Ef.mk | apply Lf.mk | refine fun (K : KT) hK hE hT => ?_ | refine fun (KS : KE) hKS => ?_ | refine fun (D : KD) hD => ?_ | refine fun (hg : (_ : Prop)) => ?_ | fail); all_goals (first | (refine Wr.mk ?_; (try clear gx q1); repeat first | clear hK hE hT K | clear hR hE hT K) | assumption | skip))
          refine hR2.out ⟨p + 1, by omega⟩ _ _ _ (by simp only; omega) ?_
          (refine wk_a ?_; simp only [MAB, seval]; refine ⟨rfl, rfl, (by decide), ?_, ?_⟩; all_goals (first | (simp only [WKB, seval, hss, ShardD.k, List.map_append, List.map_cons, List.map_nil]; done) | (simp [WKB, seval, hss, ShardD.k, List.map_append, List.map_cons, List.map_nil]; done) | simp only [WKB, seval]))
        case inr =>
          obtain rfl : p = ends.length := by omega
          have h00 : shTo2 g ends [] ends.length = shL g ends (S.take 0) := rfl
          have hlS := fun j => shL_len g ends (S.take j)
          (have gx := And.intro (@List.length_map.{0,0}) (And.intro @lk @ls); have q1 := c3; refine go ?_; (repeat' first | exact Ef.mk | apply Lf.mk | refine fun (K : KT) hK hE hT => ?_ | refine fun (KS : KE) hKS => ?_ | refine fun (D : KD) hD => ?_ | refine fun (hg : (_ : Prop)) => ?_ | fail); all_goals (first | (refine Wr.mk ?_; (try clear gx q1); repeat first | clear hK hE hT K | clear hR hE hT K) | assumption | skip))
          refine loop_v (X := {j : Nat // j ≤ S.length}) [] (fun x => [(10, .c (.sl 4 3 0 ends.length)), (74, .c (.v (.int .i64 ((x.1 : Nat) : Int))))]) (fun x => [(0, some (.ro (g.Edges.map EdgeD.k))), (1, some (.ro (ends.map intK))), (2, some (.box 34 [.v (.int .i64 g.N), .sl 0 3 0 g.Edges.length])), (3, some (.row 124 ((rcL g ends g.Edges.length).map RecD.k))), (4, some (.nst 129 ((shL g ends (S.take x.1)).map (ShardD.k 131)) none)), (5, some (.row 124 (S.map RecD.k)))]) 6 (fun x => S.length - x.1) ⟨0, by omega⟩ ?_
          simp only [KPB, seval]
          refine ⟨?_, ?_⟩
          · (refine wk_a ?_; simp only [MAB, seval]; refine ⟨rfl, rfl, (by decide), ?_, ?_⟩; all_goals (first | (simp only [WKB, seval, h00]; done) | (simp [WKB, seval, h00]; done) | simp only [WKB, seval]))
          · rintro ⟨j, hj⟩ K hR3 hE hT
            have lj := hlS j
            rcases Nat.lt_or_ge j S.length with hjl | hjg
            case inr =>
              obtain rfl : j = S.length := by omega
              have e1 : S.take S.length = S := List.take_length
              (have gx := And.intro @List.length_map.{0,0} @lj; refine go ?_; (repeat' first | exact Ef.mk | apply Lf.mk | refine fun (K : KT) hK hE hT => ?_ | refine fun (KS : KE) hKS => ?_ | refine fun (D : KD) hD => ?_ | refine fun (hg : (_ : Prop)) => ?_ | fail); all_goals (first | (refine Wr.mk ?_; (try clear gx); repeat first | clear hK hE hT K | clear hR hE hT K) | assumption | skip))
              (refine post_a hres (.inl rfl) ?_; simp only [RSB, ENB, seval, tiAll, e1]; simp only [MAB, seval]; refine ⟨rfl, rfl, ?_, ?_, ?_⟩ <;> (first | rfl | (simp [WKB, Nat.add_comm, e1]; done) | (simp only [WKB, seval])))
            case inl =>
              have hts : S.take (j + 1) = S.take j ++ [S[j]] := List.take_succ_eq_append_getElem hjl
              obtain ⟨i, hi2, _, hC, hse, p, hA, hpe, _, _⟩ := hsm _ (List.getElem_mem hjl)
              obtain ⟨d, hd⟩ : ∃ d, d = S[j] := ⟨_, rfl⟩
              rw [← hd] at hts hC hse hA
              obtain ⟨y, hy⟩ : ∃ y, y = g.Edges[i] := ⟨_, rfl⟩
              rw [← hy] at hse
              have la : ∀ (a : List (List DC)) (b : List DC), (a ++ [b]).length = a.length + 1 := fun a b => by simp
              have hset := shL_set (g := g) (l := S.take j) hA hpe
              rw [← hts, hse] at hset
              have hdj := dealt_le g (S.take j) p
              rw [List.length_take] at hdj
              have hLp : (shL g ends (S.take j))[p]'(by rw [shL_len]; exact hpe) = shAt g ends (S.take j) p := shL_get _
              unfold shAt at hLp
              obtain ⟨M, hM⟩ : ∃ M, M = dealt g (S.take j) p := ⟨_, rfl⟩
              obtain ⟨lo, hlo⟩ : ∃ z, z = lastE ends p := ⟨_, rfl⟩
              obtain ⟨hi, hhi⟩ : ∃ z, z = lastE ends (p + 1) := ⟨_, rfl⟩
              simp only [← hM, ← hlo, ← hhi] at hset hdj hLp
              obtain ⟨L, hL⟩ : ∃ L, L = shL g ends (S.take j) := ⟨_, rfl⟩
              simp only [← hL] at hset lj hLp ⊢
              (have gx := And.intro (@List.length_map.{0,0}) (And.intro (@List.getElem_map.{0,0}) (And.intro ((hd).symm) (And.intro ((hy).symm) (And.intro (@hLp) (And.intro (@ShardD.k.eq_1) (And.intro (@RecD.k.eq_1) (And.intro (@EdgeD.k.eq_1) (And.intro (@hC) (And.intro (@hA) (And.intro @lj @la)))))))))); refine go ?_; (repeat' first | exact Ef.mk | apply Lf.mk | refine fun (K : KT) hK hE hT => ?_ | refine fun (KS : KE) hKS => ?_ | refine fun (D : KD) hD => ?_ | refine fun (hg : (_ : Prop)) => ?_ | fail); all_goals (first | (refine Wr.mk ?_; (try clear gx); repeat first | clear hK hE hT K | clear hR hE hT K) | assumption | skip))
              refine hR3.out ⟨j + 1, by omega⟩ _ _ _ (by simp only; omega) ?_
              (refine wk_a ?_; simp only [MAB, seval]; refine ⟨rfl, rfl, (by decide), ?_, ?_⟩; all_goals (first | (simp only [WKB, seval, hset, List.map_set, ShardD.k, SEdgeD.k, List.map_append, List.map_cons, List.map_nil]; done) | (simp [WKB, seval, hset, List.map_set, ShardD.k, SEdgeD.k, List.map_append, List.map_cons, List.map_nil]; done) | simp only [WKB, seval]))

set_option maxHeartbeats 8000000 in
theorem implFarmOf_k (g : GraphD) (b size : Int) (hl : g.Edges.length ≤ 1048576) (hs : size ≤ 9223372036854775807) : FnOK Try.prog 11 ⟨1, [(0, some (.ro ((g.Edges).map EdgeD.k)))], [.agg [.v (.int .i64 g.N), .sl 0 3 0 (g.Edges).length], .c (.v (.int .i64 b)), .c (.v (.int .i64 size))],
    .tup [.inr [.v (.int .i64 (farmR g b size).N), .sl 1 1 0 ((farmR g b size).Ends).length, .sl 2 3 0 ((farmR g b size).Shards).length], .inl (.v (.bool (fmOk g b size)))], [(1, some (.row 3 (((farmR g b size).Ends).map intK))), (2, some (.nst 129 (((farmR g b size).Shards).map (ShardD.k 131)) none))], 3⟩ := by
  have cg := implGraphOk_k g (by omega)
  cases ho : fmOk g b size with
  | false =>
    rw [farm_no ho]
    obtain ⟨v1, e1⟩ : ∃ v, v = graphOk g := ⟨_, rfl⟩
    rw [← e1] at cg
    have hno : v1 = true → 1 ≤ b → b ≤ 400 → 1 ≤ size → False := fun q1 q2 q3 q4 => by
      unfold fmOk cutOk at ho
      rw [← e1, q1, decide_eq_true ⟨q2, q3⟩, decide_eq_true q4] at ho
      cases ho
    clear ho e1
    refine fnOK_of true mixed Try.func11 rfl (by rfl) (by rfl) ?_
    have hres := congrArg Array.toList Try.results11
    simp only [Try.ntmps11, BGB, seval]
    (have gx := true_and True; have q1 := cg; refine go ?_; (repeat' first | exact Ef.mk | apply Lf.mk | refine fun (K : KT) hK hE hT => ?_ | refine fun (KS : KE) hKS => ?_ | refine fun (D : KD) hD => ?_ | refine fun (hg : (_ : Prop)) => ?_ | fail); all_goals (first | (refine Wr.mk ?_; (try clear gx q1); repeat first | clear hK hE hT K | clear hR hE hT K) | assumption | skip))
    all_goals first
      | (exfalso; exact hno (by assumption) (by omega) (by omega) (by omega))
      | skip
    all_goals (refine post_a hres (.inl rfl) ?_; simp only [RSB, ENB, seval, tiAll, true_and]; simp only [MAB, seval]; refine ⟨rfl, rfl, ?_, ?_, ?_⟩ <;> (first | rfl | (simp [WKB, Nat.add_comm, true_and]; done) | (simp only [WKB, seval])))
  | true =>
    obtain ⟨e1, hc, hs1⟩ := farm_yes ho
    obtain ⟨hg, hb1, hb2⟩ := cutOk_out hc
    rw [hg] at cg
    have he := cut_ends hc
    have hcl := cut_len g b
    have cc := implCut_k g b hl
    obtain ⟨sz, hsz⟩ := Int.eq_ofNat_of_zero_le (show 0 ≤ size by omega)
    rw [hsz, Int.toNat_natCast, ← hsz] at e1
    have ch := implShards_k g (cutL g b) sz hg he (by omega) (by omega) (by omega)
    rw [e1]
    subst hsz
    have e2 : farmO g b sz = ⟨g.N, cutL g b, shL g (cutL g b) (srtG g (cutL g b) sz)⟩ := rfl
    have hll := shL_len g (cutL g b) (srtG g (cutL g b) sz)
    rw [e2]
    dsimp only
    rw [hll]
    obtain ⟨Z, hZ⟩ : ∃ Z, Z = shL g (cutL g b) (srtG g (cutL g b) sz) := ⟨_, rfl⟩
    rw [← hZ] at ch ⊢
    obtain ⟨E, hE0⟩ : ∃ E, E = cutL g b := ⟨_, rfl⟩
    rw [← hE0] at cc ch hcl ⊢
    clear e1 e2 hll hZ hE0 ho
    refine fnOK_of true mixed Try.func11 rfl (by rfl) (by rfl) ?_
    have hres := congrArg Array.toList Try.results11
    simp only [Try.ntmps11, BGB, seval]
    (have gx := @List.length_map.{0,0}; have q1 := cg; have q2 := cc; have q3 := ch; refine go ?_; (repeat' first | exact Ef.mk | apply Lf.mk | refine fun (K : KT) hK hE hT => ?_ | refine fun (KS : KE) hKS => ?_ | refine fun (D : KD) hD => ?_ | refine fun (hg : (_ : Prop)) => ?_ | fail); all_goals (first | (refine Wr.mk ?_; (try clear gx q1 q2 q3); repeat first | clear hK hE hT K | clear hR hE hT K) | assumption | skip))
    all_goals (refine post_a hres (.inl rfl) ?_; simp only [RSB, ENB, seval, tiAll, true_and]; simp only [MAB, seval]; refine ⟨rfl, rfl, ?_, ?_, ?_⟩ <;> (first | rfl | (simp [WKB, Nat.add_comm, true_and]; done) | (simp only [WKB, seval])))
end Go.Proofs.Ytfnhchcgieeedaa
