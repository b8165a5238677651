/-
  Farms: their edges counted, their edges' values. No conditions of its own.
-/
import Derived.Test.YtfkpmhnfpljakaaGO
import Derived.Test.YtfkpmhnfpljakaaN8
namespace Go.Proofs.Ytfkpmhnfpljakaa
set_option linter.unusedSimpArgs false
set_option linter.unusedVariables false
set_option linter.unusedSimpArgs false
set_option linter.unusedVariables false
set_option linter.defProp false
set_option maxRecDepth 20000
open Go.RowKit

def valsL (m : Nat) (L : List SEdgeD) : List Int := L.foldl (fun a e => a.set e.Index.toNat e.Val) (List.replicate m 0)
theorem valsL_snoc (m : Nat) (L : List SEdgeD) (y : SEdgeD) : valsL m (L ++ [y]) = (valsL m L).set y.Index.toNat y.Val := by
  unfold valsL; rw [List.foldl_append]; rfl
theorem valsL_len (m : Nat) (L : List SEdgeD) : (valsL m L).length = m := by
  unfold valsL
  have : ∀ (L : List SEdgeD) (a : List Int), (L.foldl (fun a e => a.set e.Index.toNat e.Val) a).length = a.length := by
    intro L
    induction L with
    | nil => intro a; rfl
    | cons e L ih => intro a; rw [List.foldl_cons, ih]; simp
  rw [this]; simp
theorem valsL_set {m : Nat} {L : List SEdgeD} {y : SEdgeD} {x : Nat} (hx : y.Index = (x : Int)) : ((valsL m L).map intK).set x [.v (.int .i64 y.Val)] = (valsL m (L ++ [y])).map intK := by
  rw [valsL_snoc, hx, Int.toNat_natCast, List.map_set]; rfl
theorem okL_at {n : Int} {m : Nat} {l : List ShardD} (h : okL n m (allE l)) {p i : Nat} (hp : p < l.length) (hi : i < l[p].Edges.length) : 0 ≤ l[p].Edges[i].Index ∧ l[p].Edges[i].Index < m := by
  obtain ⟨B, hB⟩ := allE_pre hp hi
  rw [hB] at h
  have h2 := (okL_snoc.1 (okL_pre h)).2.1
  exact ⟨h2.1, h2.2.2⟩

set_option maxHeartbeats 8000000 in
theorem edges_k (f : FarmD) (h : (f.Ends).length ≤ 1048576 ∧ (f.Shards).length ≤ 1048576 ∧ (∀ s ∈ f.Shards, s.Edges.length ≤ 1048576)) (hm : edSum f.Shards ≤ 1099511627776) : FnOK Try.prog 109 ⟨2, [(0, some (.ro ((f.Ends).map intK))), (1, some (.ro ((f.Shards).map (ShardD.k 98))))], [.agg [.v (.int .i64 f.N), .sl 0 1 0 (f.Ends).length, .sl 1 3 0 (f.Shards).length]], .c (.v (.int .i64 ((edSum f.Shards : Nat) : Int))), [], 2⟩ := by
  obtain ⟨h0, h1, h2⟩ := h
  refine fnOK_of true mixed Try.func109 rfl (by rfl) (by rfl) ?_
  have hres := congrArg Array.toList Try.results109
  simp only [Try.ntmps109, BGB, seval]
  (have gx := @List.length_map.{0,0}; refine go ?_; (repeat' (first | exact Ef.mk | refine Lf.mk ?_ ?_ | refine fun (K : KT) hK hE hT => ?_ | refine fun (KS : Eff → Prop) hKS => ?_ | refine fun (D : List Keys → Prop) hD => ?_ | refine fun (hg : (_ : Prop)) => ?_ | fail)); all_goals (first | (refine Wr.mk ?_; (try clear gx); repeat (first | (clear hK hE hT; clear K) | (clear hR hE hT; clear K))) | assumption | skip))
  refine loop_v (X := {k : Nat // k ≤ f.Shards.length}) [] (fun x => [(9, .c (.v (.int .i64 ((x.1 : Nat) : Int)))), (3, .c (.v (.int .i64 ((edSum (f.Shards.take x.1) : Nat) : Int))))]) (fun x => [(0, some (.ro ((f.Ends).map intK))), (1, some (.ro ((f.Shards).map (ShardD.k 98)))), (2, some (.box 33 [.v (.int .i64 f.N), .sl 0 1 0 (f.Ends).length, .sl 1 3 0 (f.Shards).length]))]) 3 (fun x => f.Shards.length - x.1) ⟨0, by omega⟩ ?_
  simp only [KPB, seval]
  refine ⟨?_, ?_⟩
  · (refine wk_a ?_; simp only [MAB, seval]; refine ⟨rfl, rfl, (by decide), ?_, ?_⟩; all_goals (first | (simp only [WKB, seval, List.take_zero, edSum, Nat.reduceLT, Nat.zero_lt_succ]; done) | (simp [WKB, seval, List.take_zero, edSum]; done) | simp only [WKB, seval]))
  · rintro ⟨k, hk⟩ K hR hE hT
    have hs := edSum_le f.Shards k
    rcases Nat.lt_or_ge k f.Shards.length with hlt | hge
    case inl =>
      have hlen := h2 _ (List.getElem_mem hlt)
      have e2 : ((edSum (f.Shards.take k) : Nat) : Int) + (f.Shards[k].Edges.length : Int) = ((edSum (f.Shards.take (k + 1)) : Nat) : Int) := by rw [edSum_snoc hlt]; omega
      (have gx := And.intro (@List.length_map.{0,0}) (And.intro @List.getElem_map.{0,0} @ShardD.k.eq_1); refine go ?_; (repeat' (first | exact Ef.mk | refine Lf.mk ?_ ?_ | refine fun (K : KT) hK hE hT => ?_ | refine fun (KS : Eff → Prop) hKS => ?_ | refine fun (D : List Keys → Prop) hD => ?_ | refine fun (hg : (_ : Prop)) => ?_ | fail)); all_goals (first | (refine Wr.mk ?_; (try clear gx); repeat (first | (clear hK hE hT; clear K) | (clear hR hE hT; clear K))) | assumption | skip))
      (refine hR.out ⟨k + 1, by omega⟩ _ _ _ (by simp only; omega) ?_; (refine wk_a ?_; simp only [MAB, seval]; refine ⟨rfl, rfl, (by decide), ?_, ?_⟩; all_goals (first | (simp only [WKB, seval, e2, Nat.reduceLT, Nat.zero_lt_succ]; done) | (simp [WKB, seval, e2]; done) | simp only [WKB, seval])))
    case inr =>
      obtain rfl : k = f.Shards.length := by omega
      (have gx := @List.length_map.{0,0}; refine go ?_; (repeat' (first | exact Ef.mk | refine Lf.mk ?_ ?_ | refine fun (K : KT) hK hE hT => ?_ | refine fun (KS : Eff → Prop) hKS => ?_ | refine fun (D : List Keys → Prop) hD => ?_ | refine fun (hg : (_ : Prop)) => ?_ | fail)); all_goals (first | (refine Wr.mk ?_; (try clear gx); repeat (first | (clear hK hE hT; clear K) | (clear hR hE hT; clear K))) | assumption | skip))
      (refine post_a hres (.inl rfl) ?_; simp only [RSB, ENB, seval, tiAll, List.take_length]; simp only [MAB, seval]; refine ⟨rfl, rfl, ?_, ?_, ?_⟩ <;> (first | rfl | (simp [WKB, Nat.add_comm, List.take_length]; done) | (simp only [WKB, seval])))

set_option maxHeartbeats 8000000 in
theorem l12Count_k (f : FarmD) (h : (f.Ends).length ≤ 1048576 ∧ (f.Shards).length ≤ 1048576 ∧ (∀ s ∈ f.Shards, s.Edges.length ≤ 1048576)) (hm : edSum f.Shards ≤ 1099511627776) : FnOK Try.prog 108 ⟨2, [(0, some (.ro ((f.Ends).map intK))), (1, some (.ro ((f.Shards).map (ShardD.k 98))))], [.agg [.v (.int .i64 f.N), .sl 0 1 0 (f.Ends).length, .sl 1 3 0 (f.Shards).length]], .c (.v (.int .i64 ((edSum f.Shards : Nat) : Int))), [], 2⟩ := by
  obtain ⟨h0, h1, h2⟩ := h
  refine fnOK_of true mixed Try.func108 rfl (by rfl) (by rfl) ?_
  have hres := congrArg Array.toList Try.results108
  simp only [Try.ntmps108, BGB, seval]
  (have gx := @List.length_map.{0,0}; refine go ?_; (repeat' (first | exact Ef.mk | refine Lf.mk ?_ ?_ | refine fun (K : KT) hK hE hT => ?_ | refine fun (KS : Eff → Prop) hKS => ?_ | refine fun (D : List Keys → Prop) hD => ?_ | refine fun (hg : (_ : Prop)) => ?_ | fail)); all_goals (first | (refine Wr.mk ?_; (try clear gx); repeat (first | (clear hK hE hT; clear K) | (clear hR hE hT; clear K))) | assumption | skip))
  refine loop_v (X := {k : Nat // k ≤ f.Shards.length}) [] (fun x => [(9, .c (.v (.int .i64 ((x.1 : Nat) : Int)))), (3, .c (.v (.int .i64 ((edSum (f.Shards.take x.1) : Nat) : Int))))]) (fun x => [(0, some (.ro ((f.Ends).map intK))), (1, some (.ro ((f.Shards).map (ShardD.k 98)))), (2, some (.box 33 [.v (.int .i64 f.N), .sl 0 1 0 (f.Ends).length, .sl 1 3 0 (f.Shards).length]))]) 3 (fun x => f.Shards.length - x.1) ⟨0, by omega⟩ ?_
  simp only [KPB, seval]
  refine ⟨?_, ?_⟩
  · (refine wk_a ?_; simp only [MAB, seval]; refine ⟨rfl, rfl, (by decide), ?_, ?_⟩; all_goals (first | (simp only [WKB, seval, List.take_zero, edSum, Nat.reduceLT, Nat.zero_lt_succ]; done) | (simp [WKB, seval, List.take_zero, edSum]; done) | simp only [WKB, seval]))
  · rintro ⟨k, hk⟩ K hR hE hT
    have hs := edSum_le f.Shards k
    rcases Nat.lt_or_ge k f.Shards.length with hlt | hge
    case inl =>
      have hlen := h2 _ (List.getElem_mem hlt)
      have e2 : ((edSum (f.Shards.take k) : Nat) : Int) + (f.Shards[k].Edges.length : Int) = ((edSum (f.Shards.take (k + 1)) : Nat) : Int) := by rw [edSum_snoc hlt]; omega
      (have gx := And.intro (@List.length_map.{0,0}) (And.intro @List.getElem_map.{0,0} @ShardD.k.eq_1); refine go ?_; (repeat' (first | exact Ef.mk | refine Lf.mk ?_ ?_ | refine fun (K : KT) hK hE hT => ?_ | refine fun (KS : Eff → Prop) hKS => ?_ | refine fun (D : List Keys → Prop) hD => ?_ | refine fun (hg : (_ : Prop)) => ?_ | fail)); all_goals (first | (refine Wr.mk ?_; (try clear gx); repeat (first | (clear hK hE hT; clear K) | (clear hR hE hT; clear K))) | assumption | skip))
      (refine hR.out ⟨k + 1, by omega⟩ _ _ _ (by simp only; omega) ?_; (refine wk_a ?_; simp only [MAB, seval]; refine ⟨rfl, rfl, (by decide), ?_, ?_⟩; all_goals (first | (simp only [WKB, seval, e2, Nat.reduceLT, Nat.zero_lt_succ]; done) | (simp [WKB, seval, e2]; done) | simp only [WKB, seval])))
    case inr =>
      obtain rfl : k = f.Shards.length := by omega
      (have gx := @List.length_map.{0,0}; refine go ?_; (repeat' (first | exact Ef.mk | refine Lf.mk ?_ ?_ | refine fun (K : KT) hK hE hT => ?_ | refine fun (KS : Eff → Prop) hKS => ?_ | refine fun (D : List Keys → Prop) hD => ?_ | refine fun (hg : (_ : Prop)) => ?_ | fail)); all_goals (first | (refine Wr.mk ?_; (try clear gx); repeat (first | (clear hK hE hT; clear K) | (clear hR hE hT; clear K))) | assumption | skip))
      (refine post_a hres (.inl rfl) ?_; simp only [RSB, ENB, seval, tiAll, List.take_length]; simp only [MAB, seval]; refine ⟨rfl, rfl, ?_, ?_, ?_⟩ <;> (first | rfl | (simp [WKB, Nat.add_comm, List.take_length]; done) | (simp only [WKB, seval])))

set_option maxHeartbeats 16000000 in
theorem vals_k (f : FarmD) (h : (f.Ends).length ≤ 1048576 ∧ (f.Shards).length ≤ 1048576 ∧ (∀ s ∈ f.Shards, s.Edges.length ≤ 1048576)) (m : Nat) (hm : m = edSum f.Shards) (hm2 : m ≤ 1048576) (ho : okL f.N m (allE f.Shards)) : FnOK Try.prog 112 ⟨2, [(0, some (.ro ((f.Ends).map intK))), (1, some (.ro ((f.Shards).map (ShardD.k 98))))], [.agg [.v (.int .i64 f.N), .sl 0 1 0 (f.Ends).length, .sl 1 3 0 (f.Shards).length]], .c (.sl 2 1 0 m), [(2, some (.row 3 ((valsL m (allE f.Shards)).map intK)))], 3⟩ := by
  have c := edges_k f h (by omega)
  obtain ⟨h0, h1, h2⟩ := h
  rw [← hm] at c
  refine fnOK_of true mixed Try.func112 rfl (by rfl) (by rfl) ?_
  have hres := congrArg Array.toList Try.results112
  simp only [Try.ntmps112, BGB, seval]
  (have gx := @List.length_map.{0,0}; have q1 := c; refine go ?_; (repeat' (first | exact Ef.mk | refine Lf.mk ?_ ?_ | refine fun (K : KT) hK hE hT => ?_ | refine fun (KS : Eff → Prop) hKS => ?_ | refine fun (D : List Keys → Prop) hD => ?_ | refine fun (hg : (_ : Prop)) => ?_ | fail)); all_goals (first | (refine Wr.mk ?_; (try clear gx); (try clear q1); repeat (first | (clear hK hE hT; clear K) | (clear hR hE hT; clear K))) | assumption | skip))
  refine loop_v (X := {p : Nat // p ≤ f.Shards.length}) [] (fun x => [(14, .c (.v (.int .i64 ((x.1 : Nat) : Int))))]) (fun x => [(0, some (.ro ((f.Ends).map intK))), (1, some (.ro ((f.Shards).map (ShardD.k 98)))), (2, some (.box 33 [.v (.int .i64 f.N), .sl 0 1 0 (f.Ends).length, .sl 1 3 0 (f.Shards).length])), (3, some (.row 3 ((valsL m (allE (f.Shards.take x.1))).map intK)))]) 4 (fun x => f.Shards.length - x.1) ⟨0, by omega⟩ ?_
  simp only [KPB, seval]
  refine ⟨?_, ?_⟩
  · (refine wk_a ?_; simp only [MAB, seval]; refine ⟨rfl, rfl, (by decide), ?_, ?_⟩; all_goals (first | (simp only [WKB, seval, List.take_zero, allE, List.flatMap_nil, valsL, List.foldl_nil, List.map_replicate, intK, Nat.reduceLT, Nat.zero_lt_succ]; done) | (simp [WKB, seval, List.take_zero, allE, List.flatMap_nil, valsL, List.foldl_nil, List.map_replicate, intK]; done) | simp only [WKB, seval]))
  · rintro ⟨p, hp⟩ K hR hE hT
    have lv := valsL_len m (allE (f.Shards.take p))
    rcases Nat.lt_or_ge p f.Shards.length with hlt | hge
    case inr =>
      obtain rfl : p = f.Shards.length := by omega
      rw [List.take_length] at *
      (have gx := @List.length_map.{0,0}; refine go ?_; (repeat' (first | exact Ef.mk | refine Lf.mk ?_ ?_ | refine fun (K : KT) hK hE hT => ?_ | refine fun (KS : Eff → Prop) hKS => ?_ | refine fun (D : List Keys → Prop) hD => ?_ | refine fun (hg : (_ : Prop)) => ?_ | fail)); all_goals (first | (refine Wr.mk ?_; (try clear gx); repeat (first | (clear hK hE hT; clear K) | (clear hR hE hT; clear K))) | assumption | skip))
      (refine post_a hres (.inl rfl) ?_; simp only [RSB, ENB, seval, tiAll, true_and]; simp only [MAB, seval]; refine ⟨rfl, rfl, ?_, ?_, ?_⟩ <;> (first | rfl | (simp [WKB, Nat.add_comm, true_and]; done) | (simp only [WKB, seval])))
    case inl =>
      have hlen := h2 _ (List.getElem_mem hlt)
      (have gx := And.intro (@List.length_map.{0,0}) (And.intro @List.getElem_map.{0,0} @ShardD.k.eq_1); refine go ?_; (repeat' (first | exact Ef.mk | refine Lf.mk ?_ ?_ | refine fun (K : KT) hK hE hT => ?_ | refine fun (KS : Eff → Prop) hKS => ?_ | refine fun (D : List Keys → Prop) hD => ?_ | refine fun (hg : (_ : Prop)) => ?_ | fail)); all_goals (first | (refine Wr.mk ?_; (try clear gx); repeat (first | (clear hK hE hT; clear K) | (clear hR hE hT; clear K))) | assumption | skip))
      refine loop_v (X := {i : Nat // i ≤ f.Shards[p].Edges.length}) [] (fun x => [(21, .c (.v (.int .i64 ((x.1 : Nat) : Int))))]) (fun x => [(0, some (.ro ((f.Ends).map intK))), (1, some (.ro ((f.Shards).map (ShardD.k 98)))), (2, some (.box 33 [.v (.int .i64 f.N), .sl 0 1 0 (f.Ends).length, .sl 1 3 0 (f.Shards).length])), (3, some (.row 3 ((valsL m (allE (f.Shards.take p) ++ f.Shards[p].Edges.take x.1)).map intK))), (4, some (.ro (f.Shards[p].Edges.map SEdgeD.k)))]) 6 (fun x => f.Shards[p].Edges.length - x.1) ⟨0, by omega⟩ ?_
      simp only [KPB, seval]
      refine ⟨?_, ?_⟩
      · (refine wk_a ?_; simp only [MAB, seval]; refine ⟨rfl, rfl, (by decide), ?_, ?_⟩; all_goals (first | (simp only [WKB, seval, List.take_zero, List.append_nil, Nat.reduceLT, Nat.zero_lt_succ]; done) | (simp [WKB, seval, List.take_zero, List.append_nil]; done) | simp only [WKB, seval]))
      · rintro ⟨i, hil⟩ K hR2 hE hT
        obtain ⟨L, hL⟩ : ∃ L, L = allE (f.Shards.take p) ++ f.Shards[p].Edges.take i := ⟨_, rfl⟩
        have lv2 := valsL_len m L
        simp only [← hL]
        rcases Nat.lt_or_ge i f.Shards[p].Edges.length with hit | hig
        case inr =>
          obtain rfl : i = f.Shards[p].Edges.length := by omega
          have e3 : L = allE (f.Shards.take (p + 1)) := by rw [hL, List.take_length, allE_snoc hlt]
          subst e3
          (have gx := @List.length_map.{0,0}; refine go ?_; (repeat' (first | exact Ef.mk | refine Lf.mk ?_ ?_ | refine fun (K : KT) hK hE hT => ?_ | refine fun (KS : Eff → Prop) hKS => ?_ | refine fun (D : List Keys → Prop) hD => ?_ | refine fun (hg : (_ : Prop)) => ?_ | fail)); all_goals (first | (refine Wr.mk ?_; (try clear gx); repeat (first | (clear hK hE hT; clear K) | (clear hR hE hT; clear K))) | assumption | skip))
          (refine hR.out ⟨p + 1, by omega⟩ _ _ _ (by simp only; omega) ?_; (refine wk_a ?_; simp only [MAB, seval]; refine ⟨rfl, rfl, (by decide), ?_, ?_⟩; all_goals (first | (simp only [WKB, seval, true_and, Nat.reduceLT, Nat.zero_lt_succ]; done) | (simp [WKB, seval, true_and]; done) | simp only [WKB, seval])))
        case inl =>
          have hr := okL_at ho hlt hit
          have hLs : allE (f.Shards.take p) ++ f.Shards[p].Edges.take (i + 1) = L ++ [f.Shards[p].Edges[i]] := by rw [List.take_succ_eq_append_getElem hit, hL, List.append_assoc]
          obtain ⟨y, hy⟩ : ∃ y, y = f.Shards[p].Edges[i] := ⟨_, rfl⟩
          rw [← hy] at hr hLs
          obtain ⟨z, hz⟩ : ∃ z : Nat, y.Index = (z : Int) := ⟨y.Index.toNat, by omega⟩
          rw [hz] at hr
          have e4 := valsL_set (m := m) (L := L) hz
          (have gx := And.intro (@List.length_map.{0,0}) (And.intro (@List.getElem_map.{0,0}) (And.intro ((hy).symm) (And.intro (@SEdgeD.k.eq_1) (And.intro (@intK.eq_1) (And.intro @hz @lv2))))); refine go ?_; (repeat' (first | exact Ef.mk | refine Lf.mk ?_ ?_ | refine fun (K : KT) hK hE hT => ?_ | refine fun (KS : Eff → Prop) hKS => ?_ | refine fun (D : List Keys → Prop) hD => ?_ | refine fun (hg : (_ : Prop)) => ?_ | fail)); all_goals (first | (refine Wr.mk ?_; (try clear gx); repeat (first | (clear hK hE hT; clear K) | (clear hR hE hT; clear K))) | assumption | skip))
          refine hR2.out ⟨i + 1, by omega⟩ _ _ _ (by simp only; omega) ?_
          (refine wk_a ?_; simp only [MAB, seval]; refine ⟨rfl, rfl, (by decide), ?_, ?_⟩; all_goals (first | (simp only [WKB, seval, hLs, e4, intK, Nat.reduceLT, Nat.zero_lt_succ]; done) | (simp [WKB, seval, hLs, e4, intK]; done) | simp only [WKB, seval]))

end Go.Proofs.Ytfkpmhnfpljakaa
