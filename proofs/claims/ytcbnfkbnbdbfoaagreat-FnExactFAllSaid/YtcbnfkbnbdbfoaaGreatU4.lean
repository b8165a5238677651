/-
  Contracts: the program's update. No conditions of its own.
-/
import Derived.Test.YtcbnfkbnbdbfoaaGreatGO
import Derived.Test.YtcbnfkbnbdbfoaaGreatU2
import Derived.Test.YtcbnfkbnbdbfoaaGreatU3
namespace Go.Proofs.YtcbnfkbnbdbfoaaGreat
set_option linter.unusedSimpArgs false
set_option linter.unusedVariables false
set_option linter.unusedSimpArgs false
set_option linter.unusedVariables false
set_option linter.defProp false
open Go.RowKit

theorem updOk_no {j : JobD} {v val : Int} {l : List ViewD} (h : ¬ (1 ≤ j.Prog ∧ j.Prog ≤ 4 ∧ 0 ≤ v ∧ v < 150 ∧ 0 ≤ val ∧ val ≤ 1099511627776 ∧ l.length ≤ 400)) : updOk j v val l = false := by
  unfold updOk
  rw [decide_eq_false h, Bool.false_and]
theorem updOk_bad {j : JobD} {v val : Int} {l : List ViewD} (h : l.all viewOk = false) : updOk j v val l = false := by
  unfold updOk
  rw [h, Bool.and_false]
theorem updOk_yes {j : JobD} {v val : Int} {l : List ViewD} (h : 1 ≤ j.Prog ∧ j.Prog ≤ 4 ∧ 0 ≤ v ∧ v < 150 ∧ 0 ≤ val ∧ val ≤ 1099511627776 ∧ l.length ≤ 400) (h2 : l.all viewOk = true) : updOk j v val l = true := by
  unfold updOk
  rw [decide_eq_true h, h2, Bool.true_and]
theorem updOk_out {j : JobD} {v val : Int} {l : List ViewD} (h : updOk j v val l = true) : (1 ≤ j.Prog ∧ j.Prog ≤ 4 ∧ 0 ≤ v ∧ v < 150 ∧ 0 ≤ val ∧ val ≤ 1099511627776 ∧ l.length ≤ 400) ∧ l.all viewOk = true := by
  unfold updOk at h
  simpa only [Bool.and_eq_true, decide_eq_true_eq] using h

theorem isVal_k (z : Int) : FnOK Tryz.prog 60 ⟨0, [], [.c (.v (.int .i64 z))], .c (.v (.bool (decide (0 ≤ z ∧ z ≤ 1099511627776)))), [], 0⟩ := implisValue_k z

set_option maxHeartbeats 2000000 in
theorem updatable_k (j : JobD) (v val : Int) (l : List ViewD) (hl : l.length ≤ 9223372036854775807) : FnOK Tryz.prog 173 ⟨1, [(0, some (.ro (l.map ViewD.k)))], [.agg [.v (.int .i64 j.Prog), .v (.int .i64 j.Src)], .c (.v (.int .i64 v)), .c (.v (.int .i64 val)), .c (.sl 0 4 0 l.length)], .c (.v (.bool (updOk j v val l))), [], 1⟩ := by
  refine fnOK_of true mixed Tryz.func173 rfl (by rfl) (by rfl) ?_
  have hres := congrArg Array.toList Tryz.results173
  simp only [Tryz.ntmps173, BGB, seval]
  (have gx := And.intro (@List.length_map.{0,0}) (And.intro @List.getElem_map.{0,0} @ViewD.k.eq_1); have q1 := implisProg_k j.Prog; have q2 := isVertex_k v; have q3 := isVal_k val; refine go ?_; (repeat' (first | exact Ef.mk | refine Lf.mk ?_ ?_ | refine fun (K : KT) hK hE hT => ?_ | refine fun (KS : Eff → Prop) hKS => ?_ | refine fun (D : List Keys → Prop) hD => ?_ | refine fun (hg : (_ : Prop)) => ?_ | fail)); all_goals (first | (refine Wr.mk ?_; (try clear gx); (try clear q1 q2 q3); repeat (first | (clear hK hE hT; clear K) | (clear hR hE hT; clear K))) | assumption | skip))
  all_goals first
    | (have e : updOk j v val l = false := updOk_no (by omega)
       (refine post_a hres (.inl rfl) ?_; simp only [RSB, ENB, seval, tiAll, e]; simp only [MAB, seval]; refine ⟨rfl, rfl, ?_, ?_, ?_⟩ <;> (first | rfl | (simp [WKB, Nat.add_comm, e]; done) | (simp only [WKB, seval]))))
    | skip
  refine loop_v (X := {k : Nat // k ≤ l.length ∧ Rnd (∀ i (hi : i < l.length), i < k → viewOk l[i] = true)}) [] (fun x => [(32, .c (.v (.int .i64 ((x.1 : Nat) : Int))))]) (fun x => [(0, some (.ro (l.map ViewD.k))), (1, some (.box 39 [.v (.int .i64 j.Prog), .v (.int .i64 j.Src)]))]) 2 (fun x => l.length - x.1) ⟨0, by omega, ⟨fun i hi h => by omega⟩⟩ ?_
  simp only [KPB, seval]
  refine ⟨?_, ?_⟩
  · (refine wk_a ?_; simp only [MAB, seval]; refine ⟨rfl, rfl, (by decide), ?_, ?_⟩; all_goals (first | (simp only [WKB, seval, true_and, Nat.reduceLT, Nat.zero_lt_succ]; done) | (simp [WKB, seval, true_and]; done) | simp only [WKB, seval]))
  · rintro ⟨k, hk, hi⟩ K hR hE hT
    (have gx := And.intro (@List.length_map.{0,0}) (And.intro @List.getElem_map.{0,0} @ViewD.k.eq_1); have q1 := fun hq1 => isVal_k (l[k]'hq1).Val; refine go ?_; (repeat' (first | exact Ef.mk | refine Lf.mk ?_ ?_ | refine fun (K : KT) hK hE hT => ?_ | refine fun (KS : Eff → Prop) hKS => ?_ | refine fun (D : List Keys → Prop) hD => ?_ | refine fun (hg : (_ : Prop)) => ?_ | fail)); all_goals (first | (refine Wr.mk ?_; (try clear gx); (try clear q1); repeat (first | (clear hK hE hT; clear K) | (clear hR hE hT; clear K))) | assumption | skip))
    all_goals first
      | (have e : viewOk (l[k]'(by omega)) = false := viewOk_no (by first | (refine .inr (.inr (.inr (.inr ⟨?_, ?_⟩))) <;> assumption) | omega)
         have e2 : updOk j v val l = false := updOk_bad (all_no (by omega) e)
         (refine post_a hres (.inl rfl) ?_; simp only [RSB, ENB, seval, tiAll, e2]; simp only [MAB, seval]; refine ⟨rfl, rfl, ?_, ?_, ?_⟩ <;> (first | rfl | (simp [WKB, Nat.add_comm, e2]; done) | (simp only [WKB, seval]))))
      | (have e : viewOk (l[k]'(by omega)) = true := viewOk_yes (by omega) (by omega) (by omega) (by omega) (by first | exact .inl (by assumption) | exact .inr (by assumption))
         (refine hR.out ⟨k + 1, by omega, ⟨all_more hi.out (by omega) e⟩⟩ _ _ _ (by simp only; omega) ?_; (refine wk_a ?_; simp only [MAB, seval]; refine ⟨rfl, rfl, (by decide), ?_, ?_⟩; all_goals (first | (simp only [WKB, seval, true_and, Nat.reduceLT, Nat.zero_lt_succ]; done) | (simp [WKB, seval, true_and]; done) | simp only [WKB, seval]))))
      | (have e : updOk j v val l = true := updOk_yes (by omega) (all_yes (p := viewOk) (k := k) (by omega) hi.out)
         (refine post_a hres (.inl rfl) ?_; simp only [RSB, ENB, seval, tiAll, e]; simp only [MAB, seval]; refine ⟨rfl, rfl, ?_, ?_, ?_⟩ <;> (first | rfl | (simp [WKB, Nat.add_comm, e]; done) | (simp only [WKB, seval]))))

theorem edge1_out {n o : Int} {x : ViewD} (h : x.Out = true) : edgeV 1 n o x = n / o := by unfold edgeV; rw [if_pos rfl, if_pos h]
theorem edge1_in {n o : Int} {x : ViewD} (h : x.Out = false) : edgeV 1 n o x = x.Val := by unfold edgeV; rw [if_pos rfl, if_neg (by simp [h])]
theorem edge2 {n o : Int} {x : ViewD} : edgeV 2 n o x = min x.Val n := by unfold edgeV; rw [if_neg (by decide), if_pos rfl]; omega
theorem edge3_out {n o : Int} {x : ViewD} (h : x.Out = true) : edgeV 3 n o x = n := by unfold edgeV; rw [if_neg (by decide), if_neg (by decide), if_pos rfl, if_pos h]
theorem edge3_in {n o : Int} {x : ViewD} (h : x.Out = false) : edgeV 3 n o x = x.Val := by unfold edgeV; rw [if_neg (by decide), if_neg (by decide), if_pos rfl, if_neg (by simp [h])]
theorem edge4 {n o : Int} {x : ViewD} : edgeV 4 n o x = labE n x := by unfold edgeV; rw [if_neg (by decide), if_neg (by decide), if_neg (by decide)]

set_option maxHeartbeats 2000000 in
theorem updateRank_k (l : List ViewD) (hl : l.length ≤ 400) : FnOK Tryz.prog 174 ⟨1, [(0, some (.ro (l.map ViewD.k)))], [.c (.sl 0 4 0 l.length)], .tup [.inl (.v (.int .i64 (rankV l))), .inl (.sl 1 1 0 (l.map (edgeV 1 (rankV l) (outsN l))).length)],
    [(1, some (.row 3 ((l.map (edgeV 1 (rankV l) (outsN l))).map intK)))], 2⟩ := by
  refine fnOK_of true mixed Tryz.func174 rfl (by rfl) (by rfl) ?_
  have hres := congrArg Array.toList Tryz.results174
  simp only [Tryz.ntmps174, BGB, seval]
  (have gx := true_and True; refine go ?_; (repeat' (first | exact Ef.mk | refine Lf.mk ?_ ?_ | refine fun (K : KT) hK hE hT => ?_ | refine fun (KS : Eff → Prop) hKS => ?_ | refine fun (D : List Keys → Prop) hD => ?_ | refine fun (hg : (_ : Prop)) => ?_ | fail)); all_goals (first | (refine Wr.mk ?_; (try clear gx); repeat (first | (clear hK hE hT; clear K) | (clear hR hE hT; clear K))) | assumption | skip))
  refine loop_v (X := {k : Nat // k ≤ l.length}) [] (fun x => [(4, .c (.v (.int .i64 (fk stS 0 l x.1)))), (5, .c (.v (.int .i64 (fk stN 0 l x.1)))), (14, .c (.v (.int .i64 ((x.1 : Nat) : Int))))]) (fun x => [(0, some (.ro (l.map ViewD.k)))]) 1 (fun x => l.length - x.1) ⟨0, by omega⟩ ?_
  simp only [KPB, seval]
  refine ⟨?_, ?_⟩
  · (refine wk_a ?_; simp only [MAB, seval]; refine ⟨rfl, rfl, (by decide), ?_, ?_⟩; all_goals (first | (simp only [WKB, seval, fk_zero, Nat.reduceLT, Nat.zero_lt_succ]; done) | (simp [WKB, seval, fk_zero]; done) | simp only [WKB, seval]))
  · rintro ⟨k, hk⟩ K hR hE hT
    have s1 := sum_rng l k
    have s2 := outs_rng l k
    (have gx := And.intro (@List.length_map.{0,0}) (And.intro @List.getElem_map.{0,0} @ViewD.k.eq_1); have q1 := fun hq1 => implAddCap_k (fk stS 0 l k) (l[k]'hq1).Val; refine go ?_; (repeat' (first | exact Ef.mk | refine Lf.mk ?_ ?_ | refine fun (K : KT) hK hE hT => ?_ | refine fun (KS : Eff → Prop) hKS => ?_ | refine fun (D : List Keys → Prop) hD => ?_ | refine fun (hg : (_ : Prop)) => ?_ | fail)); all_goals (first | (refine Wr.mk ?_; (try clear gx); (try clear q1); repeat (first | (clear hK hE hT; clear K) | (clear hR hE hT; clear K))) | assumption | skip))
    · have e := sum_in (show k < l.length by first | assumption | omega) (by assumption)
      have e' := outs_in (show k < l.length by first | assumption | omega) (by assumption)
      (refine hR.out ⟨k + 1, by omega⟩ _ _ _ (by simp only; omega) ?_; (refine wk_a ?_; simp only [MAB, seval]; refine ⟨rfl, rfl, (by decide), ?_, ?_⟩; all_goals (first | (simp only [WKB, seval, e, e', Nat.reduceLT, Nat.zero_lt_succ]; done) | (simp [WKB, seval, e, e']; done) | simp only [WKB, seval])))
    · have e := sum_in (show k < l.length by first | assumption | omega) (by assumption)
      have e' := outs_out (show k < l.length by first | assumption | omega) (by assumption)
      (refine hR.out ⟨k + 1, by omega⟩ _ _ _ (by simp only; omega) ?_; (refine wk_a ?_; simp only [MAB, seval]; refine ⟨rfl, rfl, (by decide), ?_, ?_⟩; all_goals (first | (simp only [WKB, seval, e, e', Nat.reduceLT, Nat.zero_lt_succ]; done) | (simp [WKB, seval, e, e']; done) | simp only [WKB, seval])))
    · have e := sum_out (show k < l.length by first | assumption | omega) (by assumption)
      have e' := outs_in (show k < l.length by first | assumption | omega) (by assumption)
      (refine hR.out ⟨k + 1, by omega⟩ _ _ _ (by simp only; omega) ?_; (refine wk_a ?_; simp only [MAB, seval]; refine ⟨rfl, rfl, (by decide), ?_, ?_⟩; all_goals (first | (simp only [WKB, seval, e, e', Nat.reduceLT, Nat.zero_lt_succ]; done) | (simp [WKB, seval, e, e']; done) | simp only [WKB, seval])))
    · have e := sum_out (show k < l.length by first | assumption | omega) (by assumption)
      have e' := outs_out (show k < l.length by first | assumption | omega) (by assumption)
      (refine hR.out ⟨k + 1, by omega⟩ _ _ _ (by simp only; omega) ?_; (refine wk_a ?_; simp only [MAB, seval]; refine ⟨rfl, rfl, (by decide), ?_, ?_⟩; all_goals (first | (simp only [WKB, seval, e, e', Nat.reduceLT, Nat.zero_lt_succ]; done) | (simp [WKB, seval, e, e']; done) | simp only [WKB, seval])))
    · obtain rfl : k = l.length := by omega
      refine loop_v (X := {k : Nat // k ≤ l.length}) [] (fun x => [(9, .c (.sl 1 1 0 ((l.take x.1).map (edgeV 1 (rankV l) (outsN l))).length)), (36, .c (.v (.int .i64 ((x.1 : Nat) : Int))))]) (fun x => [(0, some (.ro (l.map ViewD.k))), (1, some (.row 3 (((l.take x.1).map (edgeV 1 (rankV l) (outsN l))).map intK)))]) 2 (fun x => l.length - x.1) ⟨0, by omega⟩ ?_
      simp only [KPB, seval]
      refine ⟨?_, ?_⟩
      · (refine wk_a ?_; simp only [MAB, seval]; refine ⟨rfl, rfl, (by decide), ?_, ?_⟩; all_goals (first | (simp only [WKB, seval, List.take_zero, List.map_nil, List.length_nil, Nat.reduceLT, Nat.zero_lt_succ]; done) | (simp [WKB, seval, List.take_zero, List.map_nil, List.length_nil]; done) | simp only [WKB, seval]))
      · rintro ⟨k, hk⟩ K hR hE hT
        have l1 : (l.take k).length ≤ 400 := by rw [List.length_take]; omega
        rcases Nat.lt_or_ge k l.length with hlt | hge
        · have e := take_succ_map (edgeV 1 (rankV l) (outsN l)) hlt
          rcases Bool.eq_false_or_eq_true l[k].Out with hout | hout
          · have op := outs_pos hlt hout
            unfold outsN at op
            rw [edge1_out hout] at e
            replace e : (l.take (k + 1)).map (edgeV 1 (rankV l) (outsN l)) = (l.take k).map (edgeV 1 (rankV l) (outsN l)) ++ [min (157286 + 17 * fk stS 0 l l.length / 20) 1099511627776 / fk stN 0 l l.length] := e
            (have gx := And.intro (@List.length_map.{0,0}) (And.intro @List.getElem_map.{0,0} @ViewD.k.eq_1); refine go ?_; (repeat' (first | exact Ef.mk | refine Lf.mk ?_ ?_ | refine fun (K : KT) hK hE hT => ?_ | refine fun (KS : Eff → Prop) hKS => ?_ | refine fun (D : List Keys → Prop) hD => ?_ | refine fun (hg : (_ : Prop)) => ?_ | fail)); all_goals (first | (refine Wr.mk ?_; (try clear gx); repeat (first | (clear hK hE hT; clear K) | (clear hR hE hT; clear K))) | assumption | skip))
            (refine hR.out ⟨k + 1, by omega⟩ _ _ _ (by simp only; omega) ?_; (refine wk_a ?_; simp only [MAB, seval]; refine ⟨rfl, rfl, (by decide), ?_, ?_⟩; all_goals (first | (simp only [WKB, seval, e, intK, Nat.reduceLT, Nat.zero_lt_succ]; done) | (simp [WKB, seval, e, intK]; done) | simp only [WKB, seval])))
          · rw [edge1_in hout] at e
            (have gx := And.intro (@List.length_map.{0,0}) (And.intro @List.getElem_map.{0,0} @ViewD.k.eq_1); refine go ?_; (repeat' (first | exact Ef.mk | refine Lf.mk ?_ ?_ | refine fun (K : KT) hK hE hT => ?_ | refine fun (KS : Eff → Prop) hKS => ?_ | refine fun (D : List Keys → Prop) hD => ?_ | refine fun (hg : (_ : Prop)) => ?_ | fail)); all_goals (first | (refine Wr.mk ?_; (try clear gx); repeat (first | (clear hK hE hT; clear K) | (clear hR hE hT; clear K))) | assumption | skip))
            (refine hR.out ⟨k + 1, by omega⟩ _ _ _ (by simp only; omega) ?_; (refine wk_a ?_; simp only [MAB, seval]; refine ⟨rfl, rfl, (by decide), ?_, ?_⟩; all_goals (first | (simp only [WKB, seval, e, intK, Nat.reduceLT, Nat.zero_lt_succ]; done) | (simp [WKB, seval, e, intK]; done) | simp only [WKB, seval])))
        · obtain rfl : k = l.length := by omega
          (have gx := And.intro (@List.length_map.{0,0}) (And.intro @List.getElem_map.{0,0} @ViewD.k.eq_1); refine go ?_; (repeat' (first | exact Ef.mk | refine Lf.mk ?_ ?_ | refine fun (K : KT) hK hE hT => ?_ | refine fun (KS : Eff → Prop) hKS => ?_ | refine fun (D : List Keys → Prop) hD => ?_ | refine fun (hg : (_ : Prop)) => ?_ | fail)); all_goals (first | (refine Wr.mk ?_; (try clear gx); repeat (first | (clear hK hE hT; clear K) | (clear hR hE hT; clear K))) | assumption | skip))
          (refine post_a hres (.inl rfl) ?_; simp only [RSB, ENB, seval, tiAll, List.take_length, rankV]; simp only [MAB, seval]; refine ⟨rfl, rfl, ?_, ?_, ?_⟩ <;> (first | rfl | (simp [WKB, Nat.add_comm, List.take_length, rankV]; done) | (simp only [WKB, seval])))

set_option maxHeartbeats 2000000 in
theorem updateConn_k (val o : Int) (l : List ViewD) (hl : l.length ≤ 400) : FnOK Tryz.prog 175 ⟨1, [(0, some (.ro (l.map ViewD.k)))], [.c (.v (.int .i64 val)), .c (.sl 0 4 0 l.length)], .tup [.inl (.v (.int .i64 (fk stC val l l.length))), .inl (.sl 1 1 0 (l.map (edgeV 2 (fk stC val l l.length) o)).length)],
    [(1, some (.row 3 ((l.map (edgeV 2 (fk stC val l l.length) o)).map intK)))], 2⟩ := by
  refine fnOK_of true mixed Tryz.func175 rfl (by rfl) (by rfl) ?_
  have hres := congrArg Array.toList Tryz.results175
  simp only [Tryz.ntmps175, BGB, seval]
  (have gx := true_and True; refine go ?_; (repeat' (first | exact Ef.mk | refine Lf.mk ?_ ?_ | refine fun (K : KT) hK hE hT => ?_ | refine fun (KS : Eff → Prop) hKS => ?_ | refine fun (D : List Keys → Prop) hD => ?_ | refine fun (hg : (_ : Prop)) => ?_ | fail)); all_goals (first | (refine Wr.mk ?_; (try clear gx); repeat (first | (clear hK hE hT; clear K) | (clear hR hE hT; clear K))) | assumption | skip))
  refine loop_v (X := {k : Nat // k ≤ l.length}) [] (fun x => [(0, .c (.v (.int .i64 (fk stC val l x.1)))), (13, .c (.v (.int .i64 ((x.1 : Nat) : Int))))]) (fun x => [(0, some (.ro (l.map ViewD.k)))]) 1 (fun x => l.length - x.1) ⟨0, by omega⟩ ?_
  simp only [KPB, seval]
  refine ⟨?_, ?_⟩
  · (refine wk_a ?_; simp only [MAB, seval]; refine ⟨rfl, rfl, (by decide), ?_, ?_⟩; all_goals (first | (simp only [WKB, seval, fk_zero, Nat.reduceLT, Nat.zero_lt_succ]; done) | (simp [WKB, seval, fk_zero]; done) | simp only [WKB, seval]))
  · rintro ⟨k, hk⟩ K hR hE hT
    (have gx := And.intro (@List.length_map.{0,0}) (And.intro @List.getElem_map.{0,0} @ViewD.k.eq_1); refine go ?_; (repeat' (first | exact Ef.mk | refine Lf.mk ?_ ?_ | refine fun (K : KT) hK hE hT => ?_ | refine fun (KS : Eff → Prop) hKS => ?_ | refine fun (D : List Keys → Prop) hD => ?_ | refine fun (hg : (_ : Prop)) => ?_ | fail)); all_goals (first | (refine Wr.mk ?_; (try clear gx); repeat (first | (clear hK hE hT; clear K) | (clear hR hE hT; clear K))) | assumption | skip))
    · have e := conn_step (val := val) (show k < l.length by first | assumption | omega)
      (refine hR.out ⟨k + 1, by omega⟩ _ _ _ (by simp only; omega) ?_; (refine wk_a ?_; simp only [MAB, seval]; refine ⟨rfl, rfl, (by decide), ?_, ?_⟩; all_goals (first | (simp only [WKB, seval, e, Nat.reduceLT, Nat.zero_lt_succ]; done) | (simp [WKB, seval, e]; done) | simp only [WKB, seval])))
    · obtain rfl : k = l.length := by omega
      refine loop_v (X := {k : Nat // k ≤ l.length}) [] (fun x => [(8, .c (.sl 1 1 0 ((l.take x.1).map (edgeV 2 (fk stC val l l.length) o)).length)), (24, .c (.v (.int .i64 ((x.1 : Nat) : Int))))]) (fun x => [(0, some (.ro (l.map ViewD.k))), (1, some (.row 3 (((l.take x.1).map (edgeV 2 (fk stC val l l.length) o)).map intK)))]) 2 (fun x => l.length - x.1) ⟨0, by omega⟩ ?_
      simp only [KPB, seval]
      refine ⟨?_, ?_⟩
      · (refine wk_a ?_; simp only [MAB, seval]; refine ⟨rfl, rfl, (by decide), ?_, ?_⟩; all_goals (first | (simp only [WKB, seval, List.take_zero, List.map_nil, List.length_nil, Nat.reduceLT, Nat.zero_lt_succ]; done) | (simp [WKB, seval, List.take_zero, List.map_nil, List.length_nil]; done) | simp only [WKB, seval]))
      · rintro ⟨k, hk⟩ K hR hE hT
        have l1 : (l.take k).length ≤ 400 := by rw [List.length_take]; omega
        rcases Nat.lt_or_ge k l.length with hlt | hge
        · have e := take_succ_map (edgeV 2 (fk stC val l l.length) o) hlt
          rw [edge2] at e
          (have gx := And.intro (@List.length_map.{0,0}) (And.intro @List.getElem_map.{0,0} @ViewD.k.eq_1); refine go ?_; (repeat' (first | exact Ef.mk | refine Lf.mk ?_ ?_ | refine fun (K : KT) hK hE hT => ?_ | refine fun (KS : Eff → Prop) hKS => ?_ | refine fun (D : List Keys → Prop) hD => ?_ | refine fun (hg : (_ : Prop)) => ?_ | fail)); all_goals (first | (refine Wr.mk ?_; (try clear gx); repeat (first | (clear hK hE hT; clear K) | (clear hR hE hT; clear K))) | assumption | skip))
          (refine hR.out ⟨k + 1, by omega⟩ _ _ _ (by simp only; omega) ?_; (refine wk_a ?_; simp only [MAB, seval]; refine ⟨rfl, rfl, (by decide), ?_, ?_⟩; all_goals (first | (simp only [WKB, seval, e, intK, Nat.reduceLT, Nat.zero_lt_succ]; done) | (simp [WKB, seval, e, intK]; done) | simp only [WKB, seval])))
        · obtain rfl : k = l.length := by omega
          (have gx := And.intro (@List.length_map.{0,0}) (And.intro @List.getElem_map.{0,0} @ViewD.k.eq_1); refine go ?_; (repeat' (first | exact Ef.mk | refine Lf.mk ?_ ?_ | refine fun (K : KT) hK hE hT => ?_ | refine fun (KS : Eff → Prop) hKS => ?_ | refine fun (D : List Keys → Prop) hD => ?_ | refine fun (hg : (_ : Prop)) => ?_ | fail)); all_goals (first | (refine Wr.mk ?_; (try clear gx); repeat (first | (clear hK hE hT; clear K) | (clear hR hE hT; clear K))) | assumption | skip))
          (refine post_a hres (.inl rfl) ?_; simp only [RSB, ENB, seval, tiAll, List.take_length]; simp only [MAB, seval]; refine ⟨rfl, rfl, ?_, ?_, ?_⟩ <;> (first | rfl | (simp [WKB, Nat.add_comm, List.take_length]; done) | (simp only [WKB, seval])))

set_option maxHeartbeats 2000000 in
theorem updatePath_k (val o : Int) (l : List ViewD) (hl : l.length ≤ 400) : FnOK Tryz.prog 176 ⟨1, [(0, some (.ro (l.map ViewD.k)))], [.c (.v (.int .i64 val)), .c (.sl 0 4 0 l.length)], .tup [.inl (.v (.int .i64 (fk stP val l l.length))), .inl (.sl 1 1 0 (l.map (edgeV 3 (fk stP val l l.length) o)).length)],
    [(1, some (.row 3 ((l.map (edgeV 3 (fk stP val l l.length) o)).map intK)))], 2⟩ := by
  refine fnOK_of true mixed Tryz.func176 rfl (by rfl) (by rfl) ?_
  have hres := congrArg Array.toList Tryz.results176
  simp only [Tryz.ntmps176, BGB, seval]
  (have gx := true_and True; refine go ?_; (repeat' (first | exact Ef.mk | refine Lf.mk ?_ ?_ | refine fun (K : KT) hK hE hT => ?_ | refine fun (KS : Eff → Prop) hKS => ?_ | refine fun (D : List Keys → Prop) hD => ?_ | refine fun (hg : (_ : Prop)) => ?_ | fail)); all_goals (first | (refine Wr.mk ?_; (try clear gx); repeat (first | (clear hK hE hT; clear K) | (clear hR hE hT; clear K))) | assumption | skip))
  refine loop_v (X := {k : Nat // k ≤ l.length}) [] (fun x => [(0, .c (.v (.int .i64 (fk stP val l x.1)))), (13, .c (.v (.int .i64 ((x.1 : Nat) : Int))))]) (fun x => [(0, some (.ro (l.map ViewD.k)))]) 1 (fun x => l.length - x.1) ⟨0, by omega⟩ ?_
  simp only [KPB, seval]
  refine ⟨?_, ?_⟩
  · (refine wk_a ?_; simp only [MAB, seval]; refine ⟨rfl, rfl, (by decide), ?_, ?_⟩; all_goals (first | (simp only [WKB, seval, fk_zero, Nat.reduceLT, Nat.zero_lt_succ]; done) | (simp [WKB, seval, fk_zero]; done) | simp only [WKB, seval]))
  · rintro ⟨k, hk⟩ K hR hE hT
    (have gx := And.intro (@List.length_map.{0,0}) (And.intro @List.getElem_map.{0,0} @ViewD.k.eq_1); have q1 := fun hq1 hq2 => implAddCap_k (l[k]'hq1).Val (l[k]'hq2).W; refine go ?_; (repeat' (first | exact Ef.mk | refine Lf.mk ?_ ?_ | refine fun (K : KT) hK hE hT => ?_ | refine fun (KS : Eff → Prop) hKS => ?_ | refine fun (D : List Keys → Prop) hD => ?_ | refine fun (hg : (_ : Prop)) => ?_ | fail)); all_goals (first | (refine Wr.mk ?_; (try clear gx); (try clear q1); repeat (first | (clear hK hE hT; clear K) | (clear hR hE hT; clear K))) | assumption | skip))
    · have e := path_in (val := val) (show k < l.length by first | assumption | omega) (by assumption)
      (refine hR.out ⟨k + 1, by omega⟩ _ _ _ (by simp only; omega) ?_; (refine wk_a ?_; simp only [MAB, seval]; refine ⟨rfl, rfl, (by decide), ?_, ?_⟩; all_goals (first | (simp only [WKB, seval, e, Nat.reduceLT, Nat.zero_lt_succ]; done) | (simp [WKB, seval, e]; done) | simp only [WKB, seval])))
    · have e := path_out (val := val) (show k < l.length by first | assumption | omega) (by assumption)
      (refine hR.out ⟨k + 1, by omega⟩ _ _ _ (by simp only; omega) ?_; (refine wk_a ?_; simp only [MAB, seval]; refine ⟨rfl, rfl, (by decide), ?_, ?_⟩; all_goals (first | (simp only [WKB, seval, e, Nat.reduceLT, Nat.zero_lt_succ]; done) | (simp [WKB, seval, e]; done) | simp only [WKB, seval])))
    · obtain rfl : k = l.length := by omega
      refine loop_v (X := {k : Nat // k ≤ l.length}) [] (fun x => [(8, .c (.sl 1 1 0 ((l.take x.1).map (edgeV 3 (fk stP val l l.length) o)).length)), (29, .c (.v (.int .i64 ((x.1 : Nat) : Int))))]) (fun x => [(0, some (.ro (l.map ViewD.k))), (1, some (.row 3 (((l.take x.1).map (edgeV 3 (fk stP val l l.length) o)).map intK)))]) 2 (fun x => l.length - x.1) ⟨0, by omega⟩ ?_
      simp only [KPB, seval]
      refine ⟨?_, ?_⟩
      · (refine wk_a ?_; simp only [MAB, seval]; refine ⟨rfl, rfl, (by decide), ?_, ?_⟩; all_goals (first | (simp only [WKB, seval, List.take_zero, List.map_nil, List.length_nil, Nat.reduceLT, Nat.zero_lt_succ]; done) | (simp [WKB, seval, List.take_zero, List.map_nil, List.length_nil]; done) | simp only [WKB, seval]))
      · rintro ⟨k, hk⟩ K hR hE hT
        have l1 : (l.take k).length ≤ 400 := by rw [List.length_take]; omega
        rcases Nat.lt_or_ge k l.length with hlt | hge
        · have e := take_succ_map (edgeV 3 (fk stP val l l.length) o) hlt
          rcases Bool.eq_false_or_eq_true l[k].Out with hout | hout
          · rw [edge3_out hout] at e
            (have gx := And.intro (@List.length_map.{0,0}) (And.intro @List.getElem_map.{0,0} @ViewD.k.eq_1); refine go ?_; (repeat' (first | exact Ef.mk | refine Lf.mk ?_ ?_ | refine fun (K : KT) hK hE hT => ?_ | refine fun (KS : Eff → Prop) hKS => ?_ | refine fun (D : List Keys → Prop) hD => ?_ | refine fun (hg : (_ : Prop)) => ?_ | fail)); all_goals (first | (refine Wr.mk ?_; (try clear gx); repeat (first | (clear hK hE hT; clear K) | (clear hR hE hT; clear K))) | assumption | skip))
            (refine hR.out ⟨k + 1, by omega⟩ _ _ _ (by simp only; omega) ?_; (refine wk_a ?_; simp only [MAB, seval]; refine ⟨rfl, rfl, (by decide), ?_, ?_⟩; all_goals (first | (simp only [WKB, seval, e, intK, Nat.reduceLT, Nat.zero_lt_succ]; done) | (simp [WKB, seval, e, intK]; done) | simp only [WKB, seval])))
          · rw [edge3_in hout] at e
            (have gx := And.intro (@List.length_map.{0,0}) (And.intro @List.getElem_map.{0,0} @ViewD.k.eq_1); refine go ?_; (repeat' (first | exact Ef.mk | refine Lf.mk ?_ ?_ | refine fun (K : KT) hK hE hT => ?_ | refine fun (KS : Eff → Prop) hKS => ?_ | refine fun (D : List Keys → Prop) hD => ?_ | refine fun (hg : (_ : Prop)) => ?_ | fail)); all_goals (first | (refine Wr.mk ?_; (try clear gx); repeat (first | (clear hK hE hT; clear K) | (clear hR hE hT; clear K))) | assumption | skip))
            (refine hR.out ⟨k + 1, by omega⟩ _ _ _ (by simp only; omega) ?_; (refine wk_a ?_; simp only [MAB, seval]; refine ⟨rfl, rfl, (by decide), ?_, ?_⟩; all_goals (first | (simp only [WKB, seval, e, intK, Nat.reduceLT, Nat.zero_lt_succ]; done) | (simp [WKB, seval, e, intK]; done) | simp only [WKB, seval])))
        · obtain rfl : k = l.length := by omega
          (have gx := And.intro (@List.length_map.{0,0}) (And.intro @List.getElem_map.{0,0} @ViewD.k.eq_1); refine go ?_; (repeat' (first | exact Ef.mk | refine Lf.mk ?_ ?_ | refine fun (K : KT) hK hE hT => ?_ | refine fun (KS : Eff → Prop) hKS => ?_ | refine fun (D : List Keys → Prop) hD => ?_ | refine fun (hg : (_ : Prop)) => ?_ | fail)); all_goals (first | (refine Wr.mk ?_; (try clear gx); repeat (first | (clear hK hE hT; clear K) | (clear hR hE hT; clear K))) | assumption | skip))
          (refine post_a hres (.inl rfl) ?_; simp only [RSB, ENB, seval, tiAll, List.take_length]; simp only [MAB, seval]; refine ⟨rfl, rfl, ?_, ?_, ?_⟩ <;> (first | rfl | (simp [WKB, Nat.add_comm, List.take_length]; done) | (simp only [WKB, seval])))

theorem labMap (n o : Int) (l : List ViewD) : l.map (edgeV 4 n o) = l.map (labE n) := List.map_congr_left fun x _ => edge4

set_option maxHeartbeats 2000000 in
theorem implUpdate_k (j : JobD) (v val : Int) (l : List ViewD) (hl : l.length ≤ 1048576) : FnOK Tryz.prog 129 ⟨1, [(0, some (.ro (l.map ViewD.k)))], [.agg [.v (.int .i64 j.Prog), .v (.int .i64 j.Src)], .c (.v (.int .i64 v)), .c (.v (.int .i64 val)), .c (.sl 0 4 0 l.length)],
    .tup [.inl (.v (.int .i64 (updN j v val l))), .inl (.sl 1 1 0 (updL j v val l).length)], [(1, some (.row 3 ((updL j v val l).map intK)))], 2⟩ := by
  have cu := updatable_k j v val l (by omega)
  cases ho : updOk j v val l with
  | false =>
    rw [ho] at cu
    have e1 : updN j v val l = 0 := by unfold updN; rw [ho]; rfl
    have e2 : updL j v val l = [] := by unfold updL; rw [ho]; rfl
    rw [e1, e2]
    refine fnOK_of true mixed Tryz.func129 rfl (by rfl) (by rfl) ?_
    have hres := congrArg Array.toList Tryz.results129
    simp only [Tryz.ntmps129, BGB, seval]
    (have gx := @List.length_map.{0,0}; have q1 := cu; refine go ?_; (repeat' (first | exact Ef.mk | refine Lf.mk ?_ ?_ | refine fun (K : KT) hK hE hT => ?_ | refine fun (KS : Eff → Prop) hKS => ?_ | refine fun (D : List Keys → Prop) hD => ?_ | refine fun (hg : (_ : Prop)) => ?_ | fail)); all_goals (first | (refine Wr.mk ?_; (try clear gx); (try clear q1); repeat (first | (clear hK hE hT; clear K) | (clear hR hE hT; clear K))) | assumption | skip))
    all_goals (refine post_a hres (.inl rfl) ?_; simp only [RSB, ENB, seval, tiAll, true_and]; simp only [MAB, seval]; refine ⟨rfl, rfl, ?_, ?_, ?_⟩ <;> (first | rfl | (simp [WKB, Nat.add_comm, true_and]; done) | (simp only [WKB, seval])))
  | true =>
    rw [ho] at cu
    obtain ⟨⟨p1, p2, _, _, v1, v2, hl4⟩, hall⟩ := updOk_out ho
    have e1 : updN j v val l = updVal j.Prog val l := by unfold updN; rw [ho]; rfl
    have e2 : updL j v val l = l.map (edgeV j.Prog (updVal j.Prog val l) (outsN l)) := by unfold updL; rw [ho]; rfl
    rw [e1, e2]
    obtain ⟨p, s⟩ := j
    dsimp only at p1 p2 cu ⊢
    clear e1 e2 ho
    rcases (by omega : p = 1 ∨ p = 2 ∨ p = 3 ∨ p = 4) with rfl | rfl | rfl | rfl
    · have e3 : updVal 1 val l = rankV l := by unfold updVal; rw [if_pos rfl]
      rw [e3]
      refine fnOK_of true mixed Tryz.func129 rfl (by rfl) (by rfl) ?_
      have hres := congrArg Array.toList Tryz.results129
      simp only [Tryz.ntmps129, BGB, seval]
      (have gx := @List.length_map.{0,0}; have q1 := cu; have q2 := updateRank_k l hl4; refine go ?_; (repeat' (first | exact Ef.mk | refine Lf.mk ?_ ?_ | refine fun (K : KT) hK hE hT => ?_ | refine fun (KS : Eff → Prop) hKS => ?_ | refine fun (D : List Keys → Prop) hD => ?_ | refine fun (hg : (_ : Prop)) => ?_ | fail)); all_goals (first | (refine Wr.mk ?_; (try clear gx); (try clear q1 q2); repeat (first | (clear hK hE hT; clear K) | (clear hR hE hT; clear K))) | assumption | skip))
      all_goals (refine post_a hres (.inl rfl) ?_; simp only [RSB, ENB, seval, tiAll, true_and]; simp only [MAB, seval]; refine ⟨rfl, rfl, ?_, ?_, ?_⟩ <;> (first | rfl | (simp [WKB, Nat.add_comm, true_and]; done) | (simp only [WKB, seval])))
    · have e3 : updVal 2 val l = fk stC val l l.length := by unfold updVal; rw [if_neg (by decide), if_neg (by decide), if_pos rfl]
      rw [e3]
      refine fnOK_of true mixed Tryz.func129 rfl (by rfl) (by rfl) ?_
      have hres := congrArg Array.toList Tryz.results129
      simp only [Tryz.ntmps129, BGB, seval]
      (have gx := @List.length_map.{0,0}; have q1 := cu; have q2 := updateConn_k val (outsN l) l hl4; refine go ?_; (repeat' (first | exact Ef.mk | refine Lf.mk ?_ ?_ | refine fun (K : KT) hK hE hT => ?_ | refine fun (KS : Eff → Prop) hKS => ?_ | refine fun (D : List Keys → Prop) hD => ?_ | refine fun (hg : (_ : Prop)) => ?_ | fail)); all_goals (first | (refine Wr.mk ?_; (try clear gx); (try clear q1 q2); repeat (first | (clear hK hE hT; clear K) | (clear hR hE hT; clear K))) | assumption | skip))
      all_goals (refine post_a hres (.inl rfl) ?_; simp only [RSB, ENB, seval, tiAll, true_and]; simp only [MAB, seval]; refine ⟨rfl, rfl, ?_, ?_, ?_⟩ <;> (first | rfl | (simp [WKB, Nat.add_comm, true_and]; done) | (simp only [WKB, seval])))
    · have e3 : updVal 3 val l = fk stP val l l.length := by unfold updVal; rw [if_neg (by decide), if_neg (by decide), if_neg (by decide)]
      rw [e3]
      refine fnOK_of true mixed Tryz.func129 rfl (by rfl) (by rfl) ?_
      have hres := congrArg Array.toList Tryz.results129
      simp only [Tryz.ntmps129, BGB, seval]
      (have gx := @List.length_map.{0,0}; have q1 := cu; have q2 := updatePath_k val (outsN l) l hl4; refine go ?_; (repeat' (first | exact Ef.mk | refine Lf.mk ?_ ?_ | refine fun (K : KT) hK hE hT => ?_ | refine fun (KS : Eff → Prop) hKS => ?_ | refine fun (D : List Keys → Prop) hD => ?_ | refine fun (hg : (_ : Prop)) => ?_ | fail)); all_goals (first | (refine Wr.mk ?_; (try clear gx); (try clear q1 q2); repeat (first | (clear hK hE hT; clear K) | (clear hR hE hT; clear K))) | assumption | skip))
      all_goals (refine post_a hres (.inl rfl) ?_; simp only [RSB, ENB, seval, tiAll, true_and]; simp only [MAB, seval]; refine ⟨rfl, rfl, ?_, ?_, ?_⟩ <;> (first | rfl | (simp [WKB, Nat.add_comm, true_and]; done) | (simp only [WKB, seval])))
    · have e3 : updVal 4 val l = mostOf (told l) val := by unfold updVal; rw [if_neg (by decide), if_pos rfl]
      rw [e3, labMap]
      refine fnOK_of true mixed Tryz.func129 rfl (by rfl) (by rfl) ?_
      have hres := congrArg Array.toList Tryz.results129
      simp only [Tryz.ntmps129, BGB, seval]
      (have gx := @List.length_map.{0,0}; have q1 := cu; have q2 := updateLabel_k val l ⟨v1, v2⟩ hl4 hall; refine go ?_; (repeat' (first | exact Ef.mk | refine Lf.mk ?_ ?_ | refine fun (K : KT) hK hE hT => ?_ | refine fun (KS : Eff → Prop) hKS => ?_ | refine fun (D : List Keys → Prop) hD => ?_ | refine fun (hg : (_ : Prop)) => ?_ | fail)); all_goals (first | (refine Wr.mk ?_; (try clear gx); (try clear q1 q2); repeat (first | (clear hK hE hT; clear K) | (clear hR hE hT; clear K))) | assumption | skip))
      all_goals (refine post_a hres (.inl rfl) ?_; simp only [RSB, ENB, seval, tiAll, true_and]; simp only [MAB, seval]; refine ⟨rfl, rfl, ?_, ?_, ?_⟩ <;> (first | rfl | (simp [WKB, Nat.add_comm, true_and]; done) | (simp only [WKB, seval])))

end Go.Proofs.YtcbnfkbnbdbfoaaGreat
