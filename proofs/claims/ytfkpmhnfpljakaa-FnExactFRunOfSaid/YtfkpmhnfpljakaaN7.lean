/-
  The graph of shards, by the reference. No conditions of its own.
-/
import Derived.Test.YtfkpmhnfpljakaaGO
import Derived.Test.YtfkpmhnfpljakaaN4
import Derived.Test.YtfkpmhnfpljakaaN5
namespace Go.Proofs.Ytfkpmhnfpljakaa
set_option linter.unusedSimpArgs false
set_option linter.unusedVariables false
set_option linter.unusedSimpArgs false
set_option linter.unusedVariables false
set_option linter.defProp false
set_option maxRecDepth 20000
open Go.RowKit

set_option maxHeartbeats 16000000 in
theorem specJoinedY_k (n : Int) (l : List ShardD) (hl : l.length ≤ 1048576) (hs : ∀ s ∈ l, s.Edges.length ≤ 1048576) (hq : JoinOk n l) : FnOK Try.prog 118 ⟨1, [(0, some (.ro (l.map (ShardD.k 98))))], [.c (.v (.int .i64 n)), .c (.sl 0 3 0 l.length)], .tup [.inr [.v (.int .i64 n), .sl 1 3 0 (edSum l)], .inl (.v (.bool true))], [(1, some (.row 175 ((edgesL (edSum l) (allE l)).map EdgeD.k)))], 2⟩ := by
  refine fnOK_of true mixed Try.func118 rfl (by rfl) (by rfl) ?_
  have hres := congrArg Array.toList Try.results118
  simp only [Try.ntmps118, BGB, seval]
  (have gx := @List.length_map.{0,0}; refine go ?_; (repeat' (first | exact Ef.mk | refine Lf.mk ?_ ?_ | refine fun (K : KT) hK hE hT => ?_ | refine fun (KS : Eff → Prop) hKS => ?_ | refine fun (D : List Keys → Prop) hD => ?_ | refine fun (hg : (_ : Prop)) => ?_ | fail)); all_goals (first | (refine Wr.mk ?_; (try clear gx); repeat (first | (clear hK hE hT; clear K) | (clear hR hE hT; clear K))) | assumption | skip))
  all_goals first
    | (have hj : ¬ JoinOk n l := (jx1 (by omega)); first | exact absurd hq hj | (refine post_a hres (.inl rfl) ?_; simp only [RSB, ENB, seval, tiAll, true_and]; simp only [MAB, seval]; refine ⟨rfl, rfl, ?_, ?_, ?_⟩ <;> (first | rfl | (simp [WKB, Nat.add_comm, true_and]; done) | (simp only [WKB, seval]))) | fail)
    | skip
  all_goals (
  refine loop_v (X := {k : Nat // k ≤ l.length ∧ Rnd (jn1 l k)}) [] (fun x => [(18, .c (.v (.int .i64 ((x.1 : Nat) : Int)))), (7, .c (.v (.int .i64 (lastH l x.1)))), (6, .c (.v (.int .i64 ((edSum (l.take x.1) : Nat) : Int))))]) (fun x => [(0, some (.ro (l.map (ShardD.k 98)))), (1, some (.box 89 [.v (.int .i64 0), .nil]))]) 2 (fun x => l.length - x.1) ⟨0, by omega, ⟨jn1_zero l⟩⟩ ?_
  simp only [KPB, seval]
  refine ⟨?_, ?_⟩
  · (refine wk_a ?_; simp only [MAB, seval]; refine ⟨rfl, rfl, (by decide), ?_, ?_⟩; all_goals (first | (simp only [WKB, seval, lastH_zero, List.take_zero, edSum, Nat.reduceLT, Nat.zero_lt_succ]; done) | (simp [WKB, seval, lastH_zero, List.take_zero, edSum]; done) | simp only [WKB, seval]))
  · rintro ⟨k, hk, hi⟩ K hR hE hT
    have hsum := jn1_sum hi.out hk
    rcases Nat.lt_or_ge k l.length with hlt | hge
    case inl =>
      have c := specShardOk_k l[k] (hs _ (List.getElem_mem hlt))
      by_cases hv : ShOk l[k]
      case neg =>
        rw [pB_f hv] at c
        (have gx := And.intro (@List.length_map.{0,0}) (And.intro @List.getElem_map.{0,0} @ShardD.k.eq_1); have q1 := c; refine go ?_; (repeat' (first | exact Ef.mk | refine Lf.mk ?_ ?_ | refine fun (K : KT) hK hE hT => ?_ | refine fun (KS : Eff → Prop) hKS => ?_ | refine fun (D : List Keys → Prop) hD => ?_ | refine fun (hg : (_ : Prop)) => ?_ | fail)); all_goals (first | (refine Wr.mk ?_; (try clear gx); (try clear q1); repeat (first | (clear hK hE hT; clear K) | (clear hR hE hT; clear K))) | assumption | skip))
        all_goals (have hj : ¬ JoinOk n l := (fun h => hv (h.2.2.1 k hlt hlt).1); first | exact absurd hq hj | (refine post_a hres (.inl rfl) ?_; simp only [RSB, ENB, seval, tiAll, true_and]; simp only [MAB, seval]; refine ⟨rfl, rfl, ?_, ?_, ?_⟩ <;> (first | rfl | (simp [WKB, Nat.add_comm, true_and]; done) | (simp only [WKB, seval]))) | fail)
      case pos =>
        rw [pB_t hv] at c
        have hv4 := hv.1.2.2.2
        by_cases hlo : l[k].Lo = lastH l k
        case neg =>
          (have gx := And.intro (@List.length_map.{0,0}) (And.intro @List.getElem_map.{0,0} @ShardD.k.eq_1); have q1 := c; refine go ?_; (repeat' (first | exact Ef.mk | refine Lf.mk ?_ ?_ | refine fun (K : KT) hK hE hT => ?_ | refine fun (KS : Eff → Prop) hKS => ?_ | refine fun (D : List Keys → Prop) hD => ?_ | refine fun (hg : (_ : Prop)) => ?_ | fail)); all_goals (first | (refine Wr.mk ?_; (try clear gx); (try clear q1); repeat (first | (clear hK hE hT; clear K) | (clear hR hE hT; clear K))) | assumption | skip))
          all_goals (have hj : ¬ JoinOk n l := (fun h => hlo (h.2.2.1 k hlt hlt).2); first | exact absurd hq hj | (refine post_a hres (.inl rfl) ?_; simp only [RSB, ENB, seval, tiAll, true_and]; simp only [MAB, seval]; refine ⟨rfl, rfl, ?_, ?_, ?_⟩ <;> (first | rfl | (simp [WKB, Nat.add_comm, true_and]; done) | (simp only [WKB, seval]))) | fail)
        case pos =>
          have e2 : ((edSum (l.take k) : Nat) : Int) + (l[k].Edges.length : Int) = ((edSum (l.take (k + 1)) : Nat) : Int) := by rw [edSum_snoc hlt]; omega
          (have gx := And.intro (@List.length_map.{0,0}) (And.intro @List.getElem_map.{0,0} @ShardD.k.eq_1); have q1 := c; refine go ?_; (repeat' (first | exact Ef.mk | refine Lf.mk ?_ ?_ | refine fun (K : KT) hK hE hT => ?_ | refine fun (KS : Eff → Prop) hKS => ?_ | refine fun (D : List Keys → Prop) hD => ?_ | refine fun (hg : (_ : Prop)) => ?_ | fail)); all_goals (first | (refine Wr.mk ?_; (try clear gx); (try clear q1); repeat (first | (clear hK hE hT; clear K) | (clear hR hE hT; clear K))) | assumption | skip))
          (refine hR.out ⟨k + 1, by omega, ⟨jn1_succ hi.out hlt hv hlo⟩⟩ _ _ _ (by simp only; omega) ?_; (refine wk_a ?_; simp only [MAB, seval]; refine ⟨rfl, rfl, (by decide), ?_, ?_⟩; all_goals (first | (simp only [WKB, seval, lastH_succ hlt, e2, Nat.reduceLT, Nat.zero_lt_succ]; done) | (simp [WKB, seval, lastH_succ hlt, e2]; done) | simp only [WKB, seval])))
    case inr =>
      obtain rfl : k = l.length := by omega
      rw [List.take_length] at *
      obtain ⟨m, hm⟩ : ∃ m, m = edSum l := ⟨_, rfl⟩
      rw [← hm]
      (have gx := @List.length_map.{0,0}; refine go ?_; (repeat' (first | exact Ef.mk | refine Lf.mk ?_ ?_ | refine fun (K : KT) hK hE hT => ?_ | refine fun (KS : Eff → Prop) hKS => ?_ | refine fun (D : List Keys → Prop) hD => ?_ | refine fun (hg : (_ : Prop)) => ?_ | fail)); all_goals (first | (refine Wr.mk ?_; (try clear gx); repeat (first | (clear hK hE hT; clear K) | (clear hR hE hT; clear K))) | assumption | skip))
      all_goals first
        | (have hj : ¬ JoinOk n l := (jx2 (by omega)); first | exact absurd hq hj | (refine post_a hres (.inl rfl) ?_; simp only [RSB, ENB, seval, tiAll, true_and]; simp only [MAB, seval]; refine ⟨rfl, rfl, ?_, ?_, ?_⟩ <;> (first | rfl | (simp [WKB, Nat.add_comm, true_and]; done) | (simp only [WKB, seval]))) | fail)
        | skip
      all_goals (
      refine loop_v (X := {p : Nat // p ≤ l.length ∧ Rnd (okL n m (allE (l.take p)))}) [] (fun x => [(64, .c (.v (.int .i64 ((x.1 : Nat) : Int))))]) (fun x => [(0, some (.ro (l.map (ShardD.k 98)))), (1, some (.box 89 [.v (.int .i64 0), .nil])), (2, some (.row 175 ((edgesL m (allE (l.take x.1))).map EdgeD.k))), (3, some (.box 89 [.v (.int .i64 n), .sl 2 3 0 m])), (4, some (.row 4 ((seenL m (allE (l.take x.1))).map booK)))]) 5 (fun x => l.length - x.1) ⟨0, by omega, ⟨okL_nil n m⟩⟩ ?_
      simp only [KPB, seval]
      refine ⟨?_, ?_⟩
      · (refine wk_a ?_; simp only [MAB, seval]; refine ⟨rfl, rfl, (by decide), ?_, ?_⟩; all_goals (first | (simp only [WKB, seval, List.take_zero, allE, List.flatMap_nil, edgesL, seenL, List.foldl_nil, List.map_replicate, EdgeD.k, booK, Nat.reduceLT, Nat.zero_lt_succ]; done) | (simp [WKB, seval, List.take_zero, allE, List.flatMap_nil, edgesL, seenL, List.foldl_nil, List.map_replicate, EdgeD.k, booK]; done) | simp only [WKB, seval]))
      · rintro ⟨p, hp, ho⟩ K hR hE hT
        have le := edgesL_len m (allE (l.take p))
        have ls := seenL_len m (allE (l.take p))
        rcases Nat.lt_or_ge p l.length with hlt | hge
        case inr =>
          obtain rfl : p = l.length := by omega
          rw [List.take_length] at *
          have hj : JoinOk n l := ⟨by omega, by omega, hi.out, by omega, by omega, by rw [← hm]; exact ho.out⟩
          try exact absurd hj hq
          all_goals (have gx := @List.length_map.{0,0}; refine go ?_; (repeat' (first | exact Ef.mk | refine Lf.mk ?_ ?_ | refine fun (K : KT) hK hE hT => ?_ | refine fun (KS : Eff → Prop) hKS => ?_ | refine fun (D : List Keys → Prop) hD => ?_ | refine fun (hg : (_ : Prop)) => ?_ | fail)); all_goals (first | (refine Wr.mk ?_; (try clear gx); repeat (first | (clear hK hE hT; clear K) | (clear hR hE hT; clear K))) | assumption | skip))
          all_goals (refine post_a hres (.inl rfl) ?_; simp only [RSB, ENB, seval, tiAll, hm]; simp only [MAB, seval]; refine ⟨rfl, rfl, ?_, ?_, ?_⟩ <;> (first | rfl | (simp [WKB, Nat.add_comm, hm]; done) | (simp only [WKB, seval])))
        case inl =>
          have hok := (hi.out p hlt hlt).1
          have hok4 : l[p].Edges.length ≤ 400 := hok.1.2.2.2
          (have gx := And.intro (@List.length_map.{0,0}) (And.intro @List.getElem_map.{0,0} @ShardD.k.eq_1); refine go ?_; (repeat' (first | exact Ef.mk | refine Lf.mk ?_ ?_ | refine fun (K : KT) hK hE hT => ?_ | refine fun (KS : Eff → Prop) hKS => ?_ | refine fun (D : List Keys → Prop) hD => ?_ | refine fun (hg : (_ : Prop)) => ?_ | fail)); all_goals (first | (refine Wr.mk ?_; (try clear gx); repeat (first | (clear hK hE hT; clear K) | (clear hR hE hT; clear K))) | assumption | skip))
          refine loop_v (X := {i : Nat // i ≤ l[p].Edges.length ∧ Rnd (okL n m (allE (l.take p) ++ l[p].Edges.take i))}) [] (fun x => [(71, .c (.v (.int .i64 ((x.1 : Nat) : Int))))]) (fun x => [(0, some (.ro (l.map (ShardD.k 98)))), (1, some (.box 89 [.v (.int .i64 0), .nil])), (2, some (.row 175 ((edgesL m (allE (l.take p) ++ l[p].Edges.take x.1)).map EdgeD.k))), (3, some (.box 89 [.v (.int .i64 n), .sl 2 3 0 m])), (4, some (.row 4 ((seenL m (allE (l.take p) ++ l[p].Edges.take x.1)).map booK))), (5, some (.ro (l[p].Edges.map SEdgeD.k)))]) 7 (fun x => l[p].Edges.length - x.1) ⟨0, by omega, ⟨by rw [List.take_zero, List.append_nil]; exact ho.out⟩⟩ ?_
          simp only [KPB, seval]
          refine ⟨?_, ?_⟩
          · (refine wk_a ?_; simp only [MAB, seval]; refine ⟨rfl, rfl, (by decide), ?_, ?_⟩; all_goals (first | (simp only [WKB, seval, List.take_zero, List.append_nil, Nat.reduceLT, Nat.zero_lt_succ]; done) | (simp [WKB, seval, List.take_zero, List.append_nil]; done) | simp only [WKB, seval]))
          · rintro ⟨i, hil, ho2⟩ K hR2 hE hT
            obtain ⟨L, hL⟩ : ∃ L, L = allE (l.take p) ++ l[p].Edges.take i := ⟨_, rfl⟩
            have le2 := edgesL_len m L
            have ls2 := seenL_len m L
            have ho2 := ho2.out
            simp only [← hL] at ho2 ⊢
            rcases Nat.lt_or_ge i l[p].Edges.length with hit | hig
            case inr =>
              obtain rfl : i = l[p].Edges.length := by omega
              have e3 : L = allE (l.take (p + 1)) := by rw [hL, List.take_length, allE_snoc hlt]
              subst e3
              (have gx := @List.length_map.{0,0}; refine go ?_; (repeat' (first | exact Ef.mk | refine Lf.mk ?_ ?_ | refine fun (K : KT) hK hE hT => ?_ | refine fun (KS : Eff → Prop) hKS => ?_ | refine fun (D : List Keys → Prop) hD => ?_ | refine fun (hg : (_ : Prop)) => ?_ | fail)); all_goals (first | (refine Wr.mk ?_; (try clear gx); repeat (first | (clear hK hE hT; clear K) | (clear hR hE hT; clear K))) | assumption | skip))
              (refine hR.out ⟨p + 1, by omega, ⟨ho2⟩⟩ _ _ _ (by simp only; omega) ?_; (refine wk_a ?_; simp only [MAB, seval]; refine ⟨rfl, rfl, (by decide), ?_, ?_⟩; all_goals (first | (simp only [WKB, seval, true_and, Nat.reduceLT, Nat.zero_lt_succ]; done) | (simp [WKB, seval, true_and]; done) | simp only [WKB, seval])))
            case inl =>
              have hed := (hok.2 i hit hit).1
              have hbad : ¬ okL n m (L ++ [l[p].Edges[i]]) → ¬ JoinOk n l := fun h => join_bad hlt hit (by rw [← hL, ← hm]; exact h)
              have hLs : allE (l.take p) ++ l[p].Edges.take (i + 1) = L ++ [l[p].Edges[i]] := by rw [List.take_succ_eq_append_getElem hit, hL, List.append_assoc]
              obtain ⟨y, hy⟩ : ∃ y, y = l[p].Edges[i] := ⟨_, rfl⟩
              rw [← hy] at hed hbad hLs
              unfold edOk at hed
              obtain ⟨z, hz⟩ : ∃ z : Nat, y.Index = (z : Int) := ⟨y.Index.toNat, by omega⟩
              by_cases hr : y.From < n ∧ y.Index < m
              case neg =>
                rw [hz] at hr
                (have gx := And.intro (@List.length_map.{0,0}) (And.intro (@List.getElem_map.{0,0}) (And.intro ((hy).symm) (And.intro @SEdgeD.k.eq_1 @hz))); refine go ?_; (repeat' (first | exact Ef.mk | refine Lf.mk ?_ ?_ | refine fun (K : KT) hK hE hT => ?_ | refine fun (KS : Eff → Prop) hKS => ?_ | refine fun (D : List Keys → Prop) hD => ?_ | refine fun (hg : (_ : Prop)) => ?_ | fail)); all_goals (first | (refine Wr.mk ?_; (try clear gx); repeat (first | (clear hK hE hT; clear K) | (clear hR hE hT; clear K))) | assumption | skip))
                all_goals (have hj : ¬ JoinOk n l := (hbad fun h => hr (by rw [← hz]; exact (okL_snoc.1 h).2.1.2)); first | exact absurd hq hj | (refine post_a hres (.inl rfl) ?_; simp only [RSB, ENB, seval, tiAll, true_and]; simp only [MAB, seval]; refine ⟨rfl, rfl, ?_, ?_, ?_⟩ <;> (first | rfl | (simp [WKB, Nat.add_comm, true_and]; done) | (simp only [WKB, seval]))) | fail)
              case pos =>
                rw [hz] at hr
                have sg := seenL_get m L z (by rw [ls2]; omega)
                cases hb : (seenL m L)[z]'(by rw [ls2]; omega) with
                | true =>
                  obtain ⟨u, hu1, hu2⟩ := sg.1 hb
                  (have gx := And.intro (@List.length_map.{0,0}) (And.intro (@List.getElem_map.{0,0}) (And.intro ((hy).symm) (And.intro (@SEdgeD.k.eq_1) (And.intro (@hz) (And.intro (@booK.eq_1) (And.intro @hb @ls2)))))); refine go ?_; (repeat' (first | exact Ef.mk | refine Lf.mk ?_ ?_ | refine fun (K : KT) hK hE hT => ?_ | refine fun (KS : Eff → Prop) hKS => ?_ | refine fun (D : List Keys → Prop) hD => ?_ | refine fun (hg : (_ : Prop)) => ?_ | fail)); all_goals (first | (refine Wr.mk ?_; (try clear gx); repeat (first | (clear hK hE hT; clear K) | (clear hR hE hT; clear K))) | assumption | skip))
                  all_goals (have hj : ¬ JoinOk n l := (hbad (okL_hit ho2 hu1 hu2 hz)); first | exact absurd hq hj | (refine post_a hres (.inl rfl) ?_; simp only [RSB, ENB, seval, tiAll, true_and]; simp only [MAB, seval]; refine ⟨rfl, rfl, ?_, ?_, ?_⟩ <;> (first | rfl | (simp [WKB, Nat.add_comm, true_and]; done) | (simp only [WKB, seval]))) | fail)
                | false =>
                  (have gx := And.intro (@List.length_map.{0,0}) (And.intro (@List.getElem_map.{0,0}) (And.intro ((hy).symm) (And.intro (@SEdgeD.k.eq_1) (And.intro (@EdgeD.k.eq_1) (And.intro (@hz) (And.intro (@booK.eq_1) (And.intro (@hb) (And.intro @ls2 @le2)))))))); refine go ?_; (repeat' (first | exact Ef.mk | refine Lf.mk ?_ ?_ | refine fun (K : KT) hK hE hT => ?_ | refine fun (KS : Eff → Prop) hKS => ?_ | refine fun (D : List Keys → Prop) hD => ?_ | refine fun (hg : (_ : Prop)) => ?_ | fail)); all_goals (first | (refine Wr.mk ?_; (try clear gx); repeat (first | (clear hK hE hT; clear K) | (clear hR hE hT; clear K))) | assumption | skip))
                  refine hR2.out ⟨i + 1, by omega, ⟨?_⟩⟩ _ _ _ (by simp only; omega) ?_
                  · rw [hLs]
                    refine okL_snoc.2 ⟨ho2, ⟨by omega, hr.1, by rw [hz]; exact hr.2⟩, fun u hu hne => ?_⟩
                    have : (seenL m L)[z]'(by rw [ls2]; omega) = true := sg.2 ⟨u, hu, by rw [hne, hz]; rfl⟩
                    rw [hb] at this; cases this
                  · have e4 := seenL_set (m := m) (L := L) hz
                    have e5 := edgesL_set (m := m) (L := L) hz
                    (refine wk_a ?_; simp only [MAB, seval]; refine ⟨rfl, rfl, (by decide), ?_, ?_⟩; all_goals (first | (simp only [WKB, seval, hLs, e4, e5, EdgeD.k, Nat.reduceLT, Nat.zero_lt_succ]; done) | (simp [WKB, seval, hLs, e4, e5, EdgeD.k]; done) | simp only [WKB, seval]))))

set_option maxHeartbeats 16000000 in
theorem specJoinedN_k (n : Int) (l : List ShardD) (hl : l.length ≤ 1048576) (hs : ∀ s ∈ l, s.Edges.length ≤ 1048576) (hq : ¬ JoinOk n l) : FnOK Try.prog 118 ⟨1, [(0, some (.ro (l.map (ShardD.k 98))))], [.c (.v (.int .i64 n)), .c (.sl 0 3 0 l.length)], .tup [.inr [.v (.int .i64 0), .nil], .inl (.v (.bool false))], [], 1⟩ := by
  refine fnOK_of true mixed Try.func118 rfl (by rfl) (by rfl) ?_
  have hres := congrArg Array.toList Try.results118
  simp only [Try.ntmps118, BGB, seval]
  (have gx := @List.length_map.{0,0}; refine go ?_; (repeat' (first | exact Ef.mk | refine Lf.mk ?_ ?_ | refine fun (K : KT) hK hE hT => ?_ | refine fun (KS : Eff → Prop) hKS => ?_ | refine fun (D : List Keys → Prop) hD => ?_ | refine fun (hg : (_ : Prop)) => ?_ | fail)); all_goals (first | (refine Wr.mk ?_; (try clear gx); repeat (first | (clear hK hE hT; clear K) | (clear hR hE hT; clear K))) | assumption | skip))
  all_goals first
    | (have hj : ¬ JoinOk n l := (jx1 (by omega)); first | exact absurd hq hj | (refine post_a hres (.inl rfl) ?_; simp only [RSB, ENB, seval, tiAll, true_and]; simp only [MAB, seval]; refine ⟨rfl, rfl, ?_, ?_, ?_⟩ <;> (first | rfl | (simp [WKB, Nat.add_comm, true_and]; done) | (simp only [WKB, seval]))) | fail)
    | skip
  all_goals (
  refine loop_v (X := {k : Nat // k ≤ l.length ∧ Rnd (jn1 l k)}) [] (fun x => [(18, .c (.v (.int .i64 ((x.1 : Nat) : Int)))), (7, .c (.v (.int .i64 (lastH l x.1)))), (6, .c (.v (.int .i64 ((edSum (l.take x.1) : Nat) : Int))))]) (fun x => [(0, some (.ro (l.map (ShardD.k 98)))), (1, some (.box 89 [.v (.int .i64 0), .nil]))]) 2 (fun x => l.length - x.1) ⟨0, by omega, ⟨jn1_zero l⟩⟩ ?_
  simp only [KPB, seval]
  refine ⟨?_, ?_⟩
  · (refine wk_a ?_; simp only [MAB, seval]; refine ⟨rfl, rfl, (by decide), ?_, ?_⟩; all_goals (first | (simp only [WKB, seval, lastH_zero, List.take_zero, edSum, Nat.reduceLT, Nat.zero_lt_succ]; done) | (simp [WKB, seval, lastH_zero, List.take_zero, edSum]; done) | simp only [WKB, seval]))
  · rintro ⟨k, hk, hi⟩ K hR hE hT
    have hsum := jn1_sum hi.out hk
    rcases Nat.lt_or_ge k l.length with hlt | hge
    case inl =>
      have c := specShardOk_k l[k] (hs _ (List.getElem_mem hlt))
      by_cases hv : ShOk l[k]
      case neg =>
        rw [pB_f hv] at c
        (have gx := And.intro (@List.length_map.{0,0}) (And.intro @List.getElem_map.{0,0} @ShardD.k.eq_1); have q1 := c; refine go ?_; (repeat' (first | exact Ef.mk | refine Lf.mk ?_ ?_ | refine fun (K : KT) hK hE hT => ?_ | refine fun (KS : Eff → Prop) hKS => ?_ | refine fun (D : List Keys → Prop) hD => ?_ | refine fun (hg : (_ : Prop)) => ?_ | fail)); all_goals (first | (refine Wr.mk ?_; (try clear gx); (try clear q1); repeat (first | (clear hK hE hT; clear K) | (clear hR hE hT; clear K))) | assumption | skip))
        all_goals (have hj : ¬ JoinOk n l := (fun h => hv (h.2.2.1 k hlt hlt).1); first | exact absurd hq hj | (refine post_a hres (.inl rfl) ?_; simp only [RSB, ENB, seval, tiAll, true_and]; simp only [MAB, seval]; refine ⟨rfl, rfl, ?_, ?_, ?_⟩ <;> (first | rfl | (simp [WKB, Nat.add_comm, true_and]; done) | (simp only [WKB, seval]))) | fail)
      case pos =>
        rw [pB_t hv] at c
        have hv4 := hv.1.2.2.2
        by_cases hlo : l[k].Lo = lastH l k
        case neg =>
          (have gx := And.intro (@List.length_map.{0,0}) (And.intro @List.getElem_map.{0,0} @ShardD.k.eq_1); have q1 := c; refine go ?_; (repeat' (first | exact Ef.mk | refine Lf.mk ?_ ?_ | refine fun (K : KT) hK hE hT => ?_ | refine fun (KS : Eff → Prop) hKS => ?_ | refine fun (D : List Keys → Prop) hD => ?_ | refine fun (hg : (_ : Prop)) => ?_ | fail)); all_goals (first | (refine Wr.mk ?_; (try clear gx); (try clear q1); repeat (first | (clear hK hE hT; clear K) | (clear hR hE hT; clear K))) | assumption | skip))
          all_goals (have hj : ¬ JoinOk n l := (fun h => hlo (h.2.2.1 k hlt hlt).2); first | exact absurd hq hj | (refine post_a hres (.inl rfl) ?_; simp only [RSB, ENB, seval, tiAll, true_and]; simp only [MAB, seval]; refine ⟨rfl, rfl, ?_, ?_, ?_⟩ <;> (first | rfl | (simp [WKB, Nat.add_comm, true_and]; done) | (simp only [WKB, seval]))) | fail)
        case pos =>
          have e2 : ((edSum (l.take k) : Nat) : Int) + (l[k].Edges.length : Int) = ((edSum (l.take (k + 1)) : Nat) : Int) := by rw [edSum_snoc hlt]; omega
          (have gx := And.intro (@List.length_map.{0,0}) (And.intro @List.getElem_map.{0,0} @ShardD.k.eq_1); have q1 := c; refine go ?_; (repeat' (first | exact Ef.mk | refine Lf.mk ?_ ?_ | refine fun (K : KT) hK hE hT => ?_ | refine fun (KS : Eff → Prop) hKS => ?_ | refine fun (D : List Keys → Prop) hD => ?_ | refine fun (hg : (_ : Prop)) => ?_ | fail)); all_goals (first | (refine Wr.mk ?_; (try clear gx); (try clear q1); repeat (first | (clear hK hE hT; clear K) | (clear hR hE hT; clear K))) | assumption | skip))
          (refine hR.out ⟨k + 1, by omega, ⟨jn1_succ hi.out hlt hv hlo⟩⟩ _ _ _ (by simp only; omega) ?_; (refine wk_a ?_; simp only [MAB, seval]; refine ⟨rfl, rfl, (by decide), ?_, ?_⟩; all_goals (first | (simp only [WKB, seval, lastH_succ hlt, e2, Nat.reduceLT, Nat.zero_lt_succ]; done) | (simp [WKB, seval, lastH_succ hlt, e2]; done) | simp only [WKB, seval])))
    case inr =>
      obtain rfl : k = l.length := by omega
      rw [List.take_length] at *
      obtain ⟨m, hm⟩ : ∃ m, m = edSum l := ⟨_, rfl⟩
      rw [← hm]
      (have gx := @List.length_map.{0,0}; refine go ?_; (repeat' (first | exact Ef.mk | refine Lf.mk ?_ ?_ | refine fun (K : KT) hK hE hT => ?_ | refine fun (KS : Eff → Prop) hKS => ?_ | refine fun (D : List Keys → Prop) hD => ?_ | refine fun (hg : (_ : Prop)) => ?_ | fail)); all_goals (first | (refine Wr.mk ?_; (try clear gx); repeat (first | (clear hK hE hT; clear K) | (clear hR hE hT; clear K))) | assumption | skip))
      all_goals first
        | (have hj : ¬ JoinOk n l := (jx2 (by omega)); first | exact absurd hq hj | (refine post_a hres (.inl rfl) ?_; simp only [RSB, ENB, seval, tiAll, true_and]; simp only [MAB, seval]; refine ⟨rfl, rfl, ?_, ?_, ?_⟩ <;> (first | rfl | (simp [WKB, Nat.add_comm, true_and]; done) | (simp only [WKB, seval]))) | fail)
        | skip
      all_goals (
      refine loop_v (X := {p : Nat // p ≤ l.length ∧ Rnd (okL n m (allE (l.take p)))}) [] (fun x => [(64, .c (.v (.int .i64 ((x.1 : Nat) : Int))))]) (fun x => [(0, some (.ro (l.map (ShardD.k 98)))), (1, some (.box 89 [.v (.int .i64 0), .nil])), (2, some (.row 175 ((edgesL m (allE (l.take x.1))).map EdgeD.k))), (3, some (.box 89 [.v (.int .i64 n), .sl 2 3 0 m])), (4, some (.row 4 ((seenL m (allE (l.take x.1))).map booK)))]) 5 (fun x => l.length - x.1) ⟨0, by omega, ⟨okL_nil n m⟩⟩ ?_
      simp only [KPB, seval]
      refine ⟨?_, ?_⟩
      · (refine wk_a ?_; simp only [MAB, seval]; refine ⟨rfl, rfl, (by decide), ?_, ?_⟩; all_goals (first | (simp only [WKB, seval, List.take_zero, allE, List.flatMap_nil, edgesL, seenL, List.foldl_nil, List.map_replicate, EdgeD.k, booK, Nat.reduceLT, Nat.zero_lt_succ]; done) | (simp [WKB, seval, List.take_zero, allE, List.flatMap_nil, edgesL, seenL, List.foldl_nil, List.map_replicate, EdgeD.k, booK]; done) | simp only [WKB, seval]))
      · rintro ⟨p, hp, ho⟩ K hR hE hT
        have le := edgesL_len m (allE (l.take p))
        have ls := seenL_len m (allE (l.take p))
        rcases Nat.lt_or_ge p l.length with hlt | hge
        case inr =>
          obtain rfl : p = l.length := by omega
          rw [List.take_length] at *
          have hj : JoinOk n l := ⟨by omega, by omega, hi.out, by omega, by omega, by rw [← hm]; exact ho.out⟩
          try exact absurd hj hq
          all_goals (have gx := @List.length_map.{0,0}; refine go ?_; (repeat' (first | exact Ef.mk | refine Lf.mk ?_ ?_ | refine fun (K : KT) hK hE hT => ?_ | refine fun (KS : Eff → Prop) hKS => ?_ | refine fun (D : List Keys → Prop) hD => ?_ | refine fun (hg : (_ : Prop)) => ?_ | fail)); all_goals (first | (refine Wr.mk ?_; (try clear gx); repeat (first | (clear hK hE hT; clear K) | (clear hR hE hT; clear K))) | assumption | skip))
          all_goals (refine post_a hres (.inl rfl) ?_; simp only [RSB, ENB, seval, tiAll, hm]; simp only [MAB, seval]; refine ⟨rfl, rfl, ?_, ?_, ?_⟩ <;> (first | rfl | (simp [WKB, Nat.add_comm, hm]; done) | (simp only [WKB, seval])))
        case inl =>
          have hok := (hi.out p hlt hlt).1
          have hok4 : l[p].Edges.length ≤ 400 := hok.1.2.2.2
          (have gx := And.intro (@List.length_map.{0,0}) (And.intro @List.getElem_map.{0,0} @ShardD.k.eq_1); refine go ?_; (repeat' (first | exact Ef.mk | refine Lf.mk ?_ ?_ | refine fun (K : KT) hK hE hT => ?_ | refine fun (KS : Eff → Prop) hKS => ?_ | refine fun (D : List Keys → Prop) hD => ?_ | refine fun (hg : (_ : Prop)) => ?_ | fail)); all_goals (first | (refine Wr.mk ?_; (try clear gx); repeat (first | (clear hK hE hT; clear K) | (clear hR hE hT; clear K))) | assumption | skip))
          refine loop_v (X := {i : Nat // i ≤ l[p].Edges.length ∧ Rnd (okL n m (allE (l.take p) ++ l[p].Edges.take i))}) [] (fun x => [(71, .c (.v (.int .i64 ((x.1 : Nat) : Int))))]) (fun x => [(0, some (.ro (l.map (ShardD.k 98)))), (1, some (.box 89 [.v (.int .i64 0), .nil])), (2, some (.row 175 ((edgesL m (allE (l.take p) ++ l[p].Edges.take x.1)).map EdgeD.k))), (3, some (.box 89 [.v (.int .i64 n), .sl 2 3 0 m])), (4, some (.row 4 ((seenL m (allE (l.take p) ++ l[p].Edges.take x.1)).map booK))), (5, some (.ro (l[p].Edges.map SEdgeD.k)))]) 7 (fun x => l[p].Edges.length - x.1) ⟨0, by omega, ⟨by rw [List.take_zero, List.append_nil]; exact ho.out⟩⟩ ?_
          simp only [KPB, seval]
          refine ⟨?_, ?_⟩
          · (refine wk_a ?_; simp only [MAB, seval]; refine ⟨rfl, rfl, (by decide), ?_, ?_⟩; all_goals (first | (simp only [WKB, seval, List.take_zero, List.append_nil, Nat.reduceLT, Nat.zero_lt_succ]; done) | (simp [WKB, seval, List.take_zero, List.append_nil]; done) | simp only [WKB, seval]))
          · rintro ⟨i, hil, ho2⟩ K hR2 hE hT
            obtain ⟨L, hL⟩ : ∃ L, L = allE (l.take p) ++ l[p].Edges.take i := ⟨_, rfl⟩
            have le2 := edgesL_len m L
            have ls2 := seenL_len m L
            have ho2 := ho2.out
            simp only [← hL] at ho2 ⊢
            rcases Nat.lt_or_ge i l[p].Edges.length with hit | hig
            case inr =>
              obtain rfl : i = l[p].Edges.length := by omega
              have e3 : L = allE (l.take (p + 1)) := by rw [hL, List.take_length, allE_snoc hlt]
              subst e3
              (have gx := @List.length_map.{0,0}; refine go ?_; (repeat' (first | exact Ef.mk | refine Lf.mk ?_ ?_ | refine fun (K : KT) hK hE hT => ?_ | refine fun (KS : Eff → Prop) hKS => ?_ | refine fun (D : List Keys → Prop) hD => ?_ | refine fun (hg : (_ : Prop)) => ?_ | fail)); all_goals (first | (refine Wr.mk ?_; (try clear gx); repeat (first | (clear hK hE hT; clear K) | (clear hR hE hT; clear K))) | assumption | skip))
              (refine hR.out ⟨p + 1, by omega, ⟨ho2⟩⟩ _ _ _ (by simp only; omega) ?_; (refine wk_a ?_; simp only [MAB, seval]; refine ⟨rfl, rfl, (by decide), ?_, ?_⟩; all_goals (first | (simp only [WKB, seval, true_and, Nat.reduceLT, Nat.zero_lt_succ]; done) | (simp [WKB, seval, true_and]; done) | simp only [WKB, seval])))
            case inl =>
              have hed := (hok.2 i hit hit).1
              have hbad : ¬ okL n m (L ++ [l[p].Edges[i]]) → ¬ JoinOk n l := fun h => join_bad hlt hit (by rw [← hL, ← hm]; exact h)
              have hLs : allE (l.take p) ++ l[p].Edges.take (i + 1) = L ++ [l[p].Edges[i]] := by rw [List.take_succ_eq_append_getElem hit, hL, List.append_assoc]
              obtain ⟨y, hy⟩ : ∃ y, y = l[p].Edges[i] := ⟨_, rfl⟩
              rw [← hy] at hed hbad hLs
              unfold edOk at hed
              obtain ⟨z, hz⟩ : ∃ z : Nat, y.Index = (z : Int) := ⟨y.Index.toNat, by omega⟩
              by_cases hr : y.From < n ∧ y.Index < m
              case neg =>
                rw [hz] at hr
                (have gx := And.intro (@List.length_map.{0,0}) (And.intro (@List.getElem_map.{0,0}) (And.intro ((hy).symm) (And.intro @SEdgeD.k.eq_1 @hz))); refine go ?_; (repeat' (first | exact Ef.mk | refine Lf.mk ?_ ?_ | refine fun (K : KT) hK hE hT => ?_ | refine fun (KS : Eff → Prop) hKS => ?_ | refine fun (D : List Keys → Prop) hD => ?_ | refine fun (hg : (_ : Prop)) => ?_ | fail)); all_goals (first | (refine Wr.mk ?_; (try clear gx); repeat (first | (clear hK hE hT; clear K) | (clear hR hE hT; clear K))) | assumption | skip))
                all_goals (have hj : ¬ JoinOk n l := (hbad fun h => hr (by rw [← hz]; exact (okL_snoc.1 h).2.1.2)); first | exact absurd hq hj | (refine post_a hres (.inl rfl) ?_; simp only [RSB, ENB, seval, tiAll, true_and]; simp only [MAB, seval]; refine ⟨rfl, rfl, ?_, ?_, ?_⟩ <;> (first | rfl | (simp [WKB, Nat.add_comm, true_and]; done) | (simp only [WKB, seval]))) | fail)
              case pos =>
                rw [hz] at hr
                have sg := seenL_get m L z (by rw [ls2]; omega)
                cases hb : (seenL m L)[z]'(by rw [ls2]; omega) with
                | true =>
                  obtain ⟨u, hu1, hu2⟩ := sg.1 hb
                  (have gx := And.intro (@List.length_map.{0,0}) (And.intro (@List.getElem_map.{0,0}) (And.intro ((hy).symm) (And.intro (@SEdgeD.k.eq_1) (And.intro (@hz) (And.intro (@booK.eq_1) (And.intro @hb @ls2)))))); refine go ?_; (repeat' (first | exact Ef.mk | refine Lf.mk ?_ ?_ | refine fun (K : KT) hK hE hT => ?_ | refine fun (KS : Eff → Prop) hKS => ?_ | refine fun (D : List Keys → Prop) hD => ?_ | refine fun (hg : (_ : Prop)) => ?_ | fail)); all_goals (first | (refine Wr.mk ?_; (try clear gx); repeat (first | (clear hK hE hT; clear K) | (clear hR hE hT; clear K))) | assumption | skip))
                  all_goals (have hj : ¬ JoinOk n l := (hbad (okL_hit ho2 hu1 hu2 hz)); first | exact absurd hq hj | (refine post_a hres (.inl rfl) ?_; simp only [RSB, ENB, seval, tiAll, true_and]; simp only [MAB, seval]; refine ⟨rfl, rfl, ?_, ?_, ?_⟩ <;> (first | rfl | (simp [WKB, Nat.add_comm, true_and]; done) | (simp only [WKB, seval]))) | fail)
                | false =>
                  (have gx := And.intro (@List.length_map.{0,0}) (And.intro (@List.getElem_map.{0,0}) (And.intro ((hy).symm) (And.intro (@SEdgeD.k.eq_1) (And.intro (@EdgeD.k.eq_1) (And.intro (@hz) (And.intro (@booK.eq_1) (And.intro (@hb) (And.intro @ls2 @le2)))))))); refine go ?_; (repeat' (first | exact Ef.mk | refine Lf.mk ?_ ?_ | refine fun (K : KT) hK hE hT => ?_ | refine fun (KS : Eff → Prop) hKS => ?_ | refine fun (D : List Keys → Prop) hD => ?_ | refine fun (hg : (_ : Prop)) => ?_ | fail)); all_goals (first | (refine Wr.mk ?_; (try clear gx); repeat (first | (clear hK hE hT; clear K) | (clear hR hE hT; clear K))) | assumption | skip))
                  refine hR2.out ⟨i + 1, by omega, ⟨?_⟩⟩ _ _ _ (by simp only; omega) ?_
                  · rw [hLs]
                    refine okL_snoc.2 ⟨ho2, ⟨by omega, hr.1, by rw [hz]; exact hr.2⟩, fun u hu hne => ?_⟩
                    have : (seenL m L)[z]'(by rw [ls2]; omega) = true := sg.2 ⟨u, hu, by rw [hne, hz]; rfl⟩
                    rw [hb] at this; cases this
                  · have e4 := seenL_set (m := m) (L := L) hz
                    have e5 := edgesL_set (m := m) (L := L) hz
                    (refine wk_a ?_; simp only [MAB, seval]; refine ⟨rfl, rfl, (by decide), ?_, ?_⟩; all_goals (first | (simp only [WKB, seval, hLs, e4, e5, EdgeD.k, Nat.reduceLT, Nat.zero_lt_succ]; done) | (simp [WKB, seval, hLs, e4, e5, EdgeD.k]; done) | simp only [WKB, seval]))))

end Go.Proofs.Ytfkpmhnfpljakaa
