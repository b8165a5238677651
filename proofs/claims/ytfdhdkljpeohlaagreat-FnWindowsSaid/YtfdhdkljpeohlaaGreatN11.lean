/-
  Farms: FarmVals and FarmGraph of both. No conditions of its own.
-/
import Derived.Test.YtfdhdkljpeohlaaGreatGO
import Derived.Test.YtfdhdkljpeohlaaGreatMNC
import Derived.Test.YtfdhdkljpeohlaaGreatMNB
import Derived.Test.YtfdhdkljpeohlaaGreatMGD
namespace Go.Proofs.YtfdhdkljpeohlaaGreat
set_option linter.unusedSimpArgs false
set_option linter.unusedVariables false
set_option linter.unusedSimpArgs false
set_option linter.unusedVariables false
set_option linter.defProp false
set_option maxRecDepth 20000
open Go.RowKit

noncomputable def fvL (f : FarmD) : List Int := if pB (FarmOk f) then valsL (edSum f.Shards) (allE f.Shards) else []
noncomputable def fgR (f : FarmD) : GraphD := if pB (FarmOk f) then ⟨f.N, edgesL (edSum f.Shards) (allE f.Shards)⟩ else ⟨0, []⟩

theorem fvL_len (f : FarmD) : (fvL f).length ≤ 400 := by
  unfold fvL
  split
  · rename_i h
    have hf := pB_i h
    rw [valsL_len]; exact hf.2.2.2.2.2.2.2.1
  · simp
theorem fgR_len (f : FarmD) : (fgR f).Edges.length ≤ 400 := by
  unfold fgR
  split
  · rename_i h
    have hf := pB_i h
    rw [edgesL_len]; exact hf.2.2.2.2.2.2.2.1
  · simp
set_option maxHeartbeats 16000000 in
theorem specFarmVals_k (f : FarmD) (h : (f.Ends).length ≤ 1048576 ∧ (f.Shards).length ≤ 1048576 ∧ (∀ s ∈ f.Shards, s.Edges.length ≤ 1048576)) : FnOK Tryz.prog 75 ⟨2, [(0, some (.ro ((f.Ends).map intK))), (1, some (.ro ((f.Shards).map (ShardD.k 112))))], [.agg [.v (.int .i64 f.N), .sl 0 1 0 (f.Ends).length, .sl 1 3 0 (f.Shards).length]], .c (.sl 2 1 0 (fvL f).length), [(2, some (.row 3 ((fvL f).map intK)))], 3⟩ := by
  have c := specFarmOk_k f h
  by_cases hf : FarmOk f
  · obtain ⟨m, hm⟩ : ∃ m, m = edSum f.Shards := ⟨_, rfl⟩
    have hm2 : m ≤ 400 := by have := hf.2.2.2.2.2.2.2.1; omega
    have ho := hf.2.2.2.2.2.2.2.2
    have c2 := l12Count_k f h (by omega)
    rw [← hm] at c2 ho
    have e : fvL f = valsL m (allE f.Shards) := by unfold fvL; rw [pB_t hf, if_pos rfl, hm]
    rw [e, valsL_len]
    rw [pB_t hf] at c
    obtain ⟨h0, h1, h2⟩ := h
    refine fnOK_of true mixed Tryz.func75 rfl (by rfl) (by rfl) ?_
    have hres := congrArg Array.toList Tryz.results75
    simp only [Tryz.ntmps75, BGB, seval]
    (have gx := @List.length_map.{0,0}; have q1 := c; have q2 := c2; refine go ?_; (repeat' first | exact Ef.mk | apply Lf.mk | refine fun (K : KT) hK hE hT => ?_ | refine fun (KS : KE) hKS => ?_ | refine fun (D : KD) hD => ?_ | refine fun (hg : (_ : Prop)) => ?_ | fail); all_goals (first | (refine Wr.mk ?_; (try clear gx q1 q2); repeat first | clear hK hE hT K | clear hR hE hT K) | assumption | skip))
    (have gx := @List.length_map.{0,0}; have q1 := c2; refine go ?_; (repeat' first | exact Ef.mk | apply Lf.mk | refine fun (K : KT) hK hE hT => ?_ | refine fun (KS : KE) hKS => ?_ | refine fun (D : KD) hD => ?_ | refine fun (hg : (_ : Prop)) => ?_ | fail); all_goals (first | (refine Wr.mk ?_; (try clear gx q1); repeat first | clear hK hE hT K | clear hR hE hT K) | assumption | skip))
    refine loop_v (X := {p : Nat // p ≤ f.Shards.length}) [] (fun x => [(17, .c (.v (.int .i64 ((x.1 : Nat) : Int))))]) (fun x => [(0, some (.ro ((f.Ends).map intK))), (1, some (.ro ((f.Shards).map (ShardD.k 112)))), (2, some (.box 30 [.v (.int .i64 f.N), .sl 0 1 0 (f.Ends).length, .sl 1 3 0 (f.Shards).length])), (3, some (.row 3 ((valsL m (allE (f.Shards.take x.1))).map intK)))]) 4 (fun x => f.Shards.length - x.1) ⟨0, by omega⟩ ?_
    simp only [KPB, seval]
    refine ⟨?_, ?_⟩
    · (refine wk_a ?_; simp only [MAB, seval]; refine ⟨rfl, rfl, (by decide), ?_, ?_⟩; all_goals (first | (simp only [WKB, seval, List.take_zero, allE, List.flatMap_nil, valsL, List.foldl_nil, List.map_replicate, intK]; done) | (simp [WKB, seval, List.take_zero, allE, List.flatMap_nil, valsL, List.foldl_nil, List.map_replicate, intK]; done) | simp only [WKB, seval]))
    · rintro ⟨p, hp⟩ K hR hE hT
      have lv := valsL_len m (allE (f.Shards.take p))
      rcases Nat.lt_or_ge p f.Shards.length with hlt | hge
      case inr =>
        obtain rfl : p = f.Shards.length := by omega
        rw [List.take_length] at *
        (have gx := @List.length_map.{0,0}; refine go ?_; (repeat' first | exact Ef.mk | apply Lf.mk | refine fun (K : KT) hK hE hT => ?_ | refine fun (KS : KE) hKS => ?_ | refine fun (D : KD) hD => ?_ | refine fun (hg : (_ : Prop)) => ?_ | fail); all_goals (first | (refine Wr.mk ?_; (try clear gx); repeat first | clear hK hE hT K | clear hR hE hT K) | assumption | skip))
        (refine post_a hres (.inl rfl) ?_; simp only [RSB, ENB, seval, tiAll, true_and]; simp only [MAB, seval]; refine ⟨rfl, rfl, ?_, ?_, ?_⟩ <;> (first | rfl | (simp [WKB, Nat.add_comm, true_and]; done) | (simp only [WKB, seval])))
      case inl =>
        have hlen := h2 _ (List.getElem_mem hlt)
        (have gx := And.intro (@List.length_map.{0,0}) (And.intro @List.getElem_map.{0,0} @ShardD.k.eq_1); refine go ?_; (repeat' first | exact Ef.mk | apply Lf.mk | refine fun (K : KT) hK hE hT => ?_ | refine fun (KS : KE) hKS => ?_ | refine fun (D : KD) hD => ?_ | refine fun (hg : (_ : Prop)) => ?_ | fail); all_goals (first | (refine Wr.mk ?_; (try clear gx); repeat first | clear hK hE hT K | clear hR hE hT K) | assumption | skip))
        refine loop_v (X := {i : Nat // i ≤ f.Shards[p].Edges.length}) [] (fun x => [(24, .c (.v (.int .i64 ((x.1 : Nat) : Int))))]) (fun x => [(0, some (.ro ((f.Ends).map intK))), (1, some (.ro ((f.Shards).map (ShardD.k 112)))), (2, some (.box 30 [.v (.int .i64 f.N), .sl 0 1 0 (f.Ends).length, .sl 1 3 0 (f.Shards).length])), (3, some (.row 3 ((valsL m (allE (f.Shards.take p) ++ f.Shards[p].Edges.take x.1)).map intK))), (4, some (.ro (f.Shards[p].Edges.map SEdgeD.k)))]) 6 (fun x => f.Shards[p].Edges.length - x.1) ⟨0, by omega⟩ ?_
        simp only [KPB, seval]
        refine ⟨?_, ?_⟩
        · (refine wk_a ?_; simp only [MAB, seval]; refine ⟨rfl, rfl, (by decide), ?_, ?_⟩; all_goals (first | (simp only [WKB, seval, List.take_zero, List.append_nil]; done) | (simp [WKB, seval, List.take_zero, List.append_nil]; done) | simp only [WKB, seval]))
        · rintro ⟨i, hil⟩ K hR2 hE hT
          obtain ⟨L, hL⟩ : ∃ L, L = allE (f.Shards.take p) ++ f.Shards[p].Edges.take i := ⟨_, rfl⟩
          have lv2 := valsL_len m L
          simp only [← hL]
          rcases Nat.lt_or_ge i f.Shards[p].Edges.length with hit | hig
          case inr =>
            obtain rfl : i = f.Shards[p].Edges.length := by omega
            have e3 : L = allE (f.Shards.take (p + 1)) := by rw [hL, List.take_length, allE_snoc hlt]
            subst e3
            (have gx := @List.length_map.{0,0}; refine go ?_; (repeat' first | exact Ef.mk | apply Lf.mk | refine fun (K : KT) hK hE hT => ?_ | refine fun (KS : KE) hKS => ?_ | refine fun (D : KD) hD => ?_ | refine fun (hg : (_ : Prop)) => ?_ | fail); all_goals (first | (refine Wr.mk ?_; (try clear gx); repeat first | clear hK hE hT K | clear hR hE hT K) | assumption | skip))
            (refine hR.out ⟨p + 1, by omega⟩ _ _ _ (by simp only; omega) ?_; (refine wk_a ?_; simp only [MAB, seval]; refine ⟨rfl, rfl, (by decide), ?_, ?_⟩; all_goals (first | (simp only [WKB, seval, true_and]; done) | (simp [WKB, seval, true_and]; done) | simp only [WKB, seval])))
          case inl =>
            have hr := okL_at ho hlt hit
            have hLs : allE (f.Shards.take p) ++ f.Shards[p].Edges.take (i + 1) = L ++ [f.Shards[p].Edges[i]] := by rw [List.take_succ_eq_append_getElem hit, hL, List.append_assoc]
            obtain ⟨y, hy⟩ : ∃ y, y = f.Shards[p].Edges[i] := ⟨_, rfl⟩
            rw [← hy] at hr hLs
            obtain ⟨z, hz⟩ : ∃ z : Nat, y.Index = (z : Int) := ⟨y.Index.toNat, by omega⟩
            rw [hz] at hr
            have e4 := valsL_set (m := m) (L := L) hz
            (have gx := And.intro (@List.length_map.{0,0}) (And.intro (@List.getElem_map.{0,0}) (And.intro ((hy).symm) (And.intro (@SEdgeD.k.eq_1) (And.intro (@intK.eq_1) (And.intro @hz @lv2))))); refine go ?_; (repeat' first | exact Ef.mk | apply Lf.mk | refine fun (K : KT) hK hE hT => ?_ | refine fun (KS : KE) hKS => ?_ | refine fun (D : KD) hD => ?_ | refine fun (hg : (_ : Prop)) => ?_ | fail); all_goals (first | (refine Wr.mk ?_; (try clear gx); repeat first | clear hK hE hT K | clear hR hE hT K) | assumption | skip))
            refine hR2.out ⟨i + 1, by omega⟩ _ _ _ (by simp only; omega) ?_
            (refine wk_a ?_; simp only [MAB, seval]; refine ⟨rfl, rfl, (by decide), ?_, ?_⟩; all_goals (first | (simp only [WKB, seval, hLs, e4, intK]; done) | (simp [WKB, seval, hLs, e4, intK]; done) | simp only [WKB, seval]))
  · have e : fvL f = [] := by unfold fvL; rw [pB_f hf]; rfl
    rw [e]
    rw [pB_f hf] at c
    refine fnOK_of true mixed Tryz.func75 rfl (by rfl) (by rfl) ?_
    have hres := congrArg Array.toList Tryz.results75
    simp only [Tryz.ntmps75, BGB, seval]
    (have gx := @List.length_map.{0,0}; have q1 := c; refine go ?_; (repeat' first | exact Ef.mk | apply Lf.mk | refine fun (K : KT) hK hE hT => ?_ | refine fun (KS : KE) hKS => ?_ | refine fun (D : KD) hD => ?_ | refine fun (hg : (_ : Prop)) => ?_ | fail); all_goals (first | (refine Wr.mk ?_; (try clear gx q1); repeat first | clear hK hE hT K | clear hR hE hT K) | assumption | skip))
    all_goals (refine post_a hres (.inl rfl) ?_; simp only [RSB, ENB, seval, tiAll, true_and]; simp only [MAB, seval]; refine ⟨rfl, rfl, ?_, ?_, ?_⟩ <;> (first | rfl | (simp [WKB, Nat.add_comm, true_and]; done) | (simp only [WKB, seval])))

set_option maxHeartbeats 16000000 in
theorem implFarmGraph_k (f : FarmD) (h : (f.Ends).length ≤ 1048576 ∧ (f.Shards).length ≤ 1048576 ∧ (∀ s ∈ f.Shards, s.Edges.length ≤ 1048576)) : FnOK Tryz.prog 39 ⟨2, [(0, some (.ro ((f.Ends).map intK))), (1, some (.ro ((f.Shards).map (ShardD.k 112))))], [.agg [.v (.int .i64 f.N), .sl 0 1 0 (f.Ends).length, .sl 1 3 0 (f.Shards).length]], .agg [.v (.int .i64 (fgR f).N), .sl 2 3 0 ((fgR f).Edges).length], [(2, some (.row 94 (((fgR f).Edges).map EdgeD.k)))], 3⟩ := by
  have c := implFarmOk_k f h
  obtain ⟨h0, h1, h2⟩ := h
  by_cases hf : FarmOk f
  · have c2 := implJoinedY_k f.N f.Shards h1 h2 hf.2.2.2
    have e : fgR f = ⟨f.N, edgesL (edSum f.Shards) (allE f.Shards)⟩ := by unfold fgR; rw [pB_t hf, if_pos rfl]
    have le := edgesL_len (edSum f.Shards) (allE f.Shards)
    rw [e]
    rw [pB_t hf] at c
    refine fnOK_of true mixed Tryz.func39 rfl (by rfl) (by rfl) ?_
    have hres := congrArg Array.toList Tryz.results39
    simp only [Tryz.ntmps39, BGB, seval]
    (have gx := @List.length_map.{0,0}; have q1 := c; have q2 := c2; refine go ?_; (repeat' first | exact Ef.mk | apply Lf.mk | refine fun (K : KT) hK hE hT => ?_ | refine fun (KS : KE) hKS => ?_ | refine fun (D : KD) hD => ?_ | refine fun (hg : (_ : Prop)) => ?_ | fail); all_goals (first | (refine Wr.mk ?_; (try clear gx q1 q2); repeat first | clear hK hE hT K | clear hR hE hT K) | assumption | skip))
    all_goals (refine post_a hres (.inl rfl) ?_; simp only [RSB, ENB, seval, tiAll, le]; simp only [MAB, seval]; refine ⟨rfl, rfl, ?_, ?_, ?_⟩ <;> (first | rfl | (simp [WKB, Nat.add_comm, le]; done) | (simp only [WKB, seval])))
  · have e : fgR f = ⟨0, []⟩ := by unfold fgR; rw [pB_f hf]; rfl
    rw [e]
    rw [pB_f hf] at c
    refine fnOK_of true mixed Tryz.func39 rfl (by rfl) (by rfl) ?_
    have hres := congrArg Array.toList Tryz.results39
    simp only [Tryz.ntmps39, BGB, seval]
    (have gx := @List.length_map.{0,0}; have q1 := c; refine go ?_; (repeat' first | exact Ef.mk | apply Lf.mk | refine fun (K : KT) hK hE hT => ?_ | refine fun (KS : KE) hKS => ?_ | refine fun (D : KD) hD => ?_ | refine fun (hg : (_ : Prop)) => ?_ | fail); all_goals (first | (refine Wr.mk ?_; (try clear gx q1); repeat first | clear hK hE hT K | clear hR hE hT K) | assumption | skip))
    all_goals (refine post_a hres (.inl rfl) ?_; simp only [RSB, ENB, seval, tiAll, true_and]; simp only [MAB, seval]; refine ⟨rfl, rfl, ?_, ?_, ?_⟩ <;> (first | rfl | (simp [WKB, Nat.add_comm, true_and]; done) | (simp only [WKB, seval])))

set_option maxHeartbeats 16000000 in
theorem specFarmGraph_k (f : FarmD) (h : (f.Ends).length ≤ 1048576 ∧ (f.Shards).length ≤ 1048576 ∧ (∀ s ∈ f.Shards, s.Edges.length ≤ 1048576)) : FnOK Tryz.prog 8 ⟨2, [(0, some (.ro ((f.Ends).map intK))), (1, some (.ro ((f.Shards).map (ShardD.k 112))))], [.agg [.v (.int .i64 f.N), .sl 0 1 0 (f.Ends).length, .sl 1 3 0 (f.Shards).length]], .agg [.v (.int .i64 (fgR f).N), .sl 2 3 0 ((fgR f).Edges).length], [(2, some (.row 94 (((fgR f).Edges).map EdgeD.k)))], 3⟩ := by
  have c := specFarmOk_k f h
  obtain ⟨h0, h1, h2⟩ := h
  by_cases hf : FarmOk f
  · have c2 := specJoinedY_k f.N f.Shards h1 h2 hf.2.2.2
    have e : fgR f = ⟨f.N, edgesL (edSum f.Shards) (allE f.Shards)⟩ := by unfold fgR; rw [pB_t hf, if_pos rfl]
    have le := edgesL_len (edSum f.Shards) (allE f.Shards)
    rw [e]
    rw [pB_t hf] at c
    refine fnOK_of true mixed Tryz.func8 rfl (by rfl) (by rfl) ?_
    have hres := congrArg Array.toList Tryz.results8
    simp only [Tryz.ntmps8, BGB, seval]
    (have gx := @List.length_map.{0,0}; have q1 := c; have q2 := c2; refine go ?_; (repeat' first | exact Ef.mk | apply Lf.mk | refine fun (K : KT) hK hE hT => ?_ | refine fun (KS : KE) hKS => ?_ | refine fun (D : KD) hD => ?_ | refine fun (hg : (_ : Prop)) => ?_ | fail); all_goals (first | (refine Wr.mk ?_; (try clear gx q1 q2); repeat first | clear hK hE hT K | clear hR hE hT K) | assumption | skip))
    all_goals (refine post_a hres (.inl rfl) ?_; simp only [RSB, ENB, seval, tiAll, le]; simp only [MAB, seval]; refine ⟨rfl, rfl, ?_, ?_, ?_⟩ <;> (first | rfl | (simp [WKB, Nat.add_comm, le]; done) | (simp only [WKB, seval])))
  · have e : fgR f = ⟨0, []⟩ := by unfold fgR; rw [pB_f hf]; rfl
    rw [e]
    rw [pB_f hf] at c
    refine fnOK_of true mixed Tryz.func8 rfl (by rfl) (by rfl) ?_
    have hres := congrArg Array.toList Tryz.results8
    simp only [Tryz.ntmps8, BGB, seval]
    (have gx := @List.length_map.{0,0}; have q1 := c; refine go ?_; (repeat' first | exact Ef.mk | apply Lf.mk | refine fun (K : KT) hK hE hT => ?_ | refine fun (KS : KE) hKS => ?_ | refine fun (D : KD) hD => ?_ | refine fun (hg : (_ : Prop)) => ?_ | fail); all_goals (first | (refine Wr.mk ?_; (try clear gx q1); repeat first | clear hK hE hT K | clear hR hE hT K) | assumption | skip))
    all_goals (refine post_a hres (.inl rfl) ?_; simp only [RSB, ENB, seval, tiAll, true_and]; simp only [MAB, seval]; refine ⟨rfl, rfl, ?_, ?_, ?_⟩ <;> (first | rfl | (simp [WKB, Nat.add_comm, true_and]; done) | (simp only [WKB, seval])))

end Go.Proofs.YtfdhdkljpeohlaaGreat

