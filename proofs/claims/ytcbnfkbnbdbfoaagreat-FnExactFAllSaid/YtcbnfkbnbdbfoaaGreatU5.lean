/-
  Contracts: the reference's update. No conditions of its own.
-/
import Derived.Test.YtcbnfkbnbdbfoaaGreatGO
import Derived.Test.YtcbnfkbnbdbfoaaGreatU4
namespace Go.Proofs.YtcbnfkbnbdbfoaaGreat
set_option linter.unusedSimpArgs false
set_option linter.unusedVariables false
set_option linter.unusedSimpArgs false
set_option linter.unusedVariables false
set_option linter.defProp false
open Go.RowKit

theorem conn_min {l : List ViewD} {k : Nat} {val : Int} (h : k < l.length) : fk stC val l (k + 1) = min (fk stC val l k) l[k].Val := conn_step h

set_option maxHeartbeats 4000000 in
theorem l10Value_k (j : JobD) (val : Int) (l : List ViewD) (hp : 1 ≤ j.Prog ∧ j.Prog ≤ 4) (hv : 0 ≤ val ∧ val ≤ 1099511627776) (hl : l.length ≤ 400) (hall : l.all viewOk = true) :
    FnOK Tryz.prog 166 ⟨1, [(0, some (.ro (l.map ViewD.k)))], [.agg [.v (.int .i64 j.Prog), .v (.int .i64 j.Src)], .c (.v (.int .i64 val)), .c (.sl 0 4 0 l.length)], .c (.v (.int .i64 (updVal j.Prog val l))), [], 1⟩ := by
  obtain ⟨p, s⟩ := j
  dsimp only at hp ⊢
  rcases (by omega : p = 1 ∨ p = 4 ∨ p = 2 ∨ p = 3) with rfl | rfl | rfl | rfl
  · have e3 : updVal 1 val l = rankV l := by unfold updVal; rw [if_pos rfl]
    rw [e3]
    refine fnOK_of true mixed Tryz.func166 rfl (by rfl) (by rfl) ?_
    have hres := congrArg Array.toList Tryz.results166
    simp only [Tryz.ntmps166, BGB, seval]
    (have gx := @List.length_map.{0,0}; have q1 := l10Rank_k l hl; refine go ?_; (repeat' (first | exact Ef.mk | refine Lf.mk ?_ ?_ | refine fun (K : KT) hK hE hT => ?_ | refine fun (KS : Eff → Prop) hKS => ?_ | refine fun (D : List Keys → Prop) hD => ?_ | refine fun (hg : (_ : Prop)) => ?_ | fail)); all_goals (first | (refine Wr.mk ?_; (try clear gx); (try clear q1); repeat (first | (clear hK hE hT; clear K) | (clear hR hE hT; clear K))) | assumption | skip))
    all_goals (refine post_a hres (.inl rfl) ?_; simp only [RSB, ENB, seval, tiAll, true_and]; simp only [MAB, seval]; refine ⟨rfl, rfl, ?_, ?_, ?_⟩ <;> (first | rfl | (simp [WKB, Nat.add_comm, true_and]; done) | (simp only [WKB, seval])))
  · have e3 : updVal 4 val l = mostOf (told l) val := by unfold updVal; rw [if_neg (by decide), if_pos rfl]
    rw [e3]
    have tl : (told l).length ≤ 800 := by have := told_len l; omega
    refine fnOK_of true mixed Tryz.func166 rfl (by rfl) (by rfl) ?_
    have hres := congrArg Array.toList Tryz.results166
    simp only [Tryz.ntmps166, BGB, seval]
    (have gx := @List.length_map.{0,0}; have q1 := l10Told_k l hl hall; have q2 := l10Most_k (told l) val (told_rng hall) hv tl; refine go ?_; (repeat' (first | exact Ef.mk | refine Lf.mk ?_ ?_ | refine fun (K : KT) hK hE hT => ?_ | refine fun (KS : Eff → Prop) hKS => ?_ | refine fun (D : List Keys → Prop) hD => ?_ | refine fun (hg : (_ : Prop)) => ?_ | fail)); all_goals (first | (refine Wr.mk ?_; (try clear gx); (try clear q1 q2); repeat (first | (clear hK hE hT; clear K) | (clear hR hE hT; clear K))) | assumption | skip))
    all_goals (refine post_a hres (.inl rfl) ?_; simp only [RSB, ENB, seval, tiAll, true_and]; simp only [MAB, seval]; refine ⟨rfl, rfl, ?_, ?_, ?_⟩ <;> (first | rfl | (simp [WKB, Nat.add_comm, true_and]; done) | (simp only [WKB, seval])))
  · have e3 : updVal 2 val l = fk stC val l l.length := by unfold updVal; rw [if_neg (by decide), if_neg (by decide), if_pos rfl]
    rw [e3]
    refine fnOK_of true mixed Tryz.func166 rfl (by rfl) (by rfl) ?_
    have hres := congrArg Array.toList Tryz.results166
    simp only [Tryz.ntmps166, BGB, seval]
    (have gx := @List.length_map.{0,0}; refine go ?_; (repeat' (first | exact Ef.mk | refine Lf.mk ?_ ?_ | refine fun (K : KT) hK hE hT => ?_ | refine fun (KS : Eff → Prop) hKS => ?_ | refine fun (D : List Keys → Prop) hD => ?_ | refine fun (hg : (_ : Prop)) => ?_ | fail)); all_goals (first | (refine Wr.mk ?_; (try clear gx); repeat (first | (clear hK hE hT; clear K) | (clear hR hE hT; clear K))) | assumption | skip))
    refine loop_v (X := {k : Nat // k ≤ l.length}) [] (fun x => [(1, .c (.v (.int .i64 (fk stC val l x.1)))), (23, .c (.v (.int .i64 ((x.1 : Nat) : Int))))]) (fun x => [(0, some (.ro (l.map ViewD.k))), (1, some (.box 39 [.v (.int .i64 2), .v (.int .i64 s)]))]) 2 (fun x => l.length - x.1) ⟨0, by omega⟩ ?_
    simp only [KPB, seval]
    refine ⟨?_, ?_⟩
    · (refine wk_a ?_; simp only [MAB, seval]; refine ⟨rfl, rfl, (by decide), ?_, ?_⟩; all_goals (first | (simp only [WKB, seval, fk_zero, Nat.reduceLT, Nat.zero_lt_succ]; done) | (simp [WKB, seval, fk_zero]; done) | simp only [WKB, seval]))
    · rintro ⟨k, hk⟩ K hR hE hT
      (have gx := And.intro (@List.length_map.{0,0}) (And.intro @List.getElem_map.{0,0} @ViewD.k.eq_1); have q1 := fun hq1 => l10Min_k (fk stC val l k) (l[k]'hq1).Val; refine go ?_; (repeat' (first | exact Ef.mk | refine Lf.mk ?_ ?_ | refine fun (K : KT) hK hE hT => ?_ | refine fun (KS : Eff → Prop) hKS => ?_ | refine fun (D : List Keys → Prop) hD => ?_ | refine fun (hg : (_ : Prop)) => ?_ | fail)); all_goals (first | (refine Wr.mk ?_; (try clear gx); (try clear q1); repeat (first | (clear hK hE hT; clear K) | (clear hR hE hT; clear K))) | assumption | skip))
      · have e := conn_step (val := val) (show k < l.length by first | assumption | omega)
        (refine hR.out ⟨k + 1, by omega⟩ _ _ _ (by simp only; omega) ?_; (refine wk_a ?_; simp only [MAB, seval]; refine ⟨rfl, rfl, (by decide), ?_, ?_⟩; all_goals (first | (simp only [WKB, seval, e, Nat.reduceLT, Nat.zero_lt_succ]; done) | (simp [WKB, seval, e]; done) | simp only [WKB, seval])))
      · obtain rfl : k = l.length := by omega
        (refine post_a hres (.inl rfl) ?_; simp only [RSB, ENB, seval, tiAll, true_and]; simp only [MAB, seval]; refine ⟨rfl, rfl, ?_, ?_, ?_⟩ <;> (first | rfl | (simp [WKB, Nat.add_comm, true_and]; done) | (simp only [WKB, seval])))
  · have e3 : updVal 3 val l = fk stP val l l.length := by unfold updVal; rw [if_neg (by decide), if_neg (by decide), if_neg (by decide)]
    rw [e3]
    refine fnOK_of true mixed Tryz.func166 rfl (by rfl) (by rfl) ?_
    have hres := congrArg Array.toList Tryz.results166
    simp only [Tryz.ntmps166, BGB, seval]
    (have gx := @List.length_map.{0,0}; refine go ?_; (repeat' (first | exact Ef.mk | refine Lf.mk ?_ ?_ | refine fun (K : KT) hK hE hT => ?_ | refine fun (KS : Eff → Prop) hKS => ?_ | refine fun (D : List Keys → Prop) hD => ?_ | refine fun (hg : (_ : Prop)) => ?_ | fail)); all_goals (first | (refine Wr.mk ?_; (try clear gx); repeat (first | (clear hK hE hT; clear K) | (clear hR hE hT; clear K))) | assumption | skip))
    refine loop_v (X := {k : Nat // k ≤ l.length}) [] (fun x => [(1, .c (.v (.int .i64 (fk stP val l x.1)))), (23, .c (.v (.int .i64 ((x.1 : Nat) : Int))))]) (fun x => [(0, some (.ro (l.map ViewD.k))), (1, some (.box 39 [.v (.int .i64 3), .v (.int .i64 s)]))]) 2 (fun x => l.length - x.1) ⟨0, by omega⟩ ?_
    simp only [KPB, seval]
    refine ⟨?_, ?_⟩
    · (refine wk_a ?_; simp only [MAB, seval]; refine ⟨rfl, rfl, (by decide), ?_, ?_⟩; all_goals (first | (simp only [WKB, seval, fk_zero, Nat.reduceLT, Nat.zero_lt_succ]; done) | (simp [WKB, seval, fk_zero]; done) | simp only [WKB, seval]))
    · rintro ⟨k, hk⟩ K hR hE hT
      (have gx := And.intro (@List.length_map.{0,0}) (And.intro @List.getElem_map.{0,0} @ViewD.k.eq_1); have q1 := fun hq1 hq2 => specAddCap_k (l[k]'hq1).Val (l[k]'hq2).W; have q2 := fun hq1 hq2 => l10Min_k (fk stP val l k) (addCap (l[k]'hq1).Val (l[k]'hq2).W); refine go ?_; (repeat' (first | exact Ef.mk | refine Lf.mk ?_ ?_ | refine fun (K : KT) hK hE hT => ?_ | refine fun (KS : Eff → Prop) hKS => ?_ | refine fun (D : List Keys → Prop) hD => ?_ | refine fun (hg : (_ : Prop)) => ?_ | fail)); all_goals (first | (refine Wr.mk ?_; (try clear gx); (try clear q1 q2); repeat (first | (clear hK hE hT; clear K) | (clear hR hE hT; clear K))) | assumption | skip))
      · have e := path_in (val := val) (show k < l.length by first | assumption | omega) (by assumption)
        (refine hR.out ⟨k + 1, by omega⟩ _ _ _ (by simp only; omega) ?_; (refine wk_a ?_; simp only [MAB, seval]; refine ⟨rfl, rfl, (by decide), ?_, ?_⟩; all_goals (first | (simp only [WKB, seval, e, Nat.reduceLT, Nat.zero_lt_succ]; done) | (simp [WKB, seval, e]; done) | simp only [WKB, seval])))
      · have e := path_out (val := val) (show k < l.length by first | assumption | omega) (by assumption)
        (refine hR.out ⟨k + 1, by omega⟩ _ _ _ (by simp only; omega) ?_; (refine wk_a ?_; simp only [MAB, seval]; refine ⟨rfl, rfl, (by decide), ?_, ?_⟩; all_goals (first | (simp only [WKB, seval, e, Nat.reduceLT, Nat.zero_lt_succ]; done) | (simp [WKB, seval, e]; done) | simp only [WKB, seval])))
      · obtain rfl : k = l.length := by omega
        (refine post_a hres (.inl rfl) ?_; simp only [RSB, ENB, seval, tiAll, true_and]; simp only [MAB, seval]; refine ⟨rfl, rfl, ?_, ?_, ?_⟩ <;> (first | rfl | (simp [WKB, Nat.add_comm, true_and]; done) | (simp only [WKB, seval])))

theorem labE_tt {n : Int} {x : ViewD} (h1 : x.In = true) (h2 : x.Out = true) (h : 0 ≤ n) : capI (n * 1000 + n) = labE n x := by rw [lab_tt h1 h2]; unfold capI; omega
theorem labE_tf {n : Int} {x : ViewD} (h1 : x.In = true) (h2 : x.Out = false) (h : 0 ≤ n) (hx : 0 ≤ x.Val) : capI (x.Val / 1000 * 1000 + n) = labE n x := by rw [lab_tf h1 h2]; unfold capI; omega
theorem labE_ft {n : Int} {x : ViewD} (h1 : x.In = false) (h2 : x.Out = true) (h : 0 ≤ n) (hx : 0 ≤ x.Val) : capI (n * 1000 + x.Val % 1000) = labE n x := by rw [lab_ft h1 h2]; unfold capI; omega
theorem labE_ff {n : Int} {x : ViewD} (h1 : x.In = false) (h2 : x.Out = false) (hx : 0 ≤ x.Val) : capI (x.Val / 1000 * 1000 + x.Val % 1000) = labE n x := by rw [lab_ff h1 h2]; unfold capI; omega

set_option maxHeartbeats 4000000 in
theorem l10Edge_k (j : JobD) (n o : Int) (x : ViewD) (hp : 1 ≤ j.Prog ∧ j.Prog ≤ 4) (hn : 0 ≤ n ∧ n ≤ 1099511627776) (hx : 0 ≤ x.Val ∧ x.Val ≤ 1099511627776) (ho : x.Out = true → 0 < o) :
    FnOK Tryz.prog 167 ⟨0, [], [.agg [.v (.int .i64 j.Prog), .v (.int .i64 j.Src)], .c (.v (.int .i64 n)), .c (.v (.int .i64 o)), .agg [.v (.bool x.In), .v (.bool x.Out), .v (.int .i64 x.W), .v (.int .i64 x.Val)]], .c (.v (.int .i64 (edgeV j.Prog n o x))), [], 0⟩ := by
  obtain ⟨p, s⟩ := j
  dsimp only at hp ⊢
  obtain ⟨xi, xo, xw, xv⟩ := x
  dsimp only at hx ho ⊢
  rcases (by omega : p = 1 ∨ p = 4 ∨ p = 2 ∨ p = 3) with rfl | rfl | rfl | rfl
  · cases xo with
    | true =>
      have op := ho rfl
      rw [edge1_out rfl]
      refine fnOK_of true mixed Tryz.func167 rfl (by rfl) (by rfl) ?_
      have hres := congrArg Array.toList Tryz.results167
      simp only [Tryz.ntmps167, BGB, seval]
      (have gx := true_and True; refine go ?_; (repeat' (first | exact Ef.mk | refine Lf.mk ?_ ?_ | refine fun (K : KT) hK hE hT => ?_ | refine fun (KS : Eff → Prop) hKS => ?_ | refine fun (D : List Keys → Prop) hD => ?_ | refine fun (hg : (_ : Prop)) => ?_ | fail)); all_goals (first | (refine Wr.mk ?_; (try clear gx); repeat (first | (clear hK hE hT; clear K) | (clear hR hE hT; clear K))) | assumption | skip))
      all_goals (refine post_a hres (.inl rfl) ?_; simp only [RSB, ENB, seval, tiAll, true_and]; simp only [MAB, seval]; refine ⟨rfl, rfl, ?_, ?_, ?_⟩ <;> (first | rfl | (simp [WKB, Nat.add_comm, true_and]; done) | (simp only [WKB, seval])))
    | false =>
      rw [edge1_in rfl]
      refine fnOK_of true mixed Tryz.func167 rfl (by rfl) (by rfl) ?_
      have hres := congrArg Array.toList Tryz.results167
      simp only [Tryz.ntmps167, BGB, seval]
      (have gx := true_and True; refine go ?_; (repeat' (first | exact Ef.mk | refine Lf.mk ?_ ?_ | refine fun (K : KT) hK hE hT => ?_ | refine fun (KS : Eff → Prop) hKS => ?_ | refine fun (D : List Keys → Prop) hD => ?_ | refine fun (hg : (_ : Prop)) => ?_ | fail)); all_goals (first | (refine Wr.mk ?_; (try clear gx); repeat (first | (clear hK hE hT; clear K) | (clear hR hE hT; clear K))) | assumption | skip))
      all_goals (refine post_a hres (.inl rfl) ?_; simp only [RSB, ENB, seval, tiAll, true_and]; simp only [MAB, seval]; refine ⟨rfl, rfl, ?_, ?_, ?_⟩ <;> (first | rfl | (simp [WKB, Nat.add_comm, true_and]; done) | (simp only [WKB, seval])))
  · rw [edge4]
    clear ho
    cases xi with
    | true => cases xo with
      | true =>
        rw [← labE_tt rfl rfl hn.1]
        refine fnOK_of true mixed Tryz.func167 rfl (by rfl) (by rfl) ?_
        have hres := congrArg Array.toList Tryz.results167
        simp only [Tryz.ntmps167, BGB, seval]
        (have gx := true_and True; have q1 := l10Cap_k (n * 1000 + n); refine go ?_; (repeat' (first | exact Ef.mk | refine Lf.mk ?_ ?_ | refine fun (K : KT) hK hE hT => ?_ | refine fun (KS : Eff → Prop) hKS => ?_ | refine fun (D : List Keys → Prop) hD => ?_ | refine fun (hg : (_ : Prop)) => ?_ | fail)); all_goals (first | (refine Wr.mk ?_; (try clear gx); (try clear q1); repeat (first | (clear hK hE hT; clear K) | (clear hR hE hT; clear K))) | assumption | skip))
        all_goals (refine post_a hres (.inl rfl) ?_; simp only [RSB, ENB, seval, tiAll, true_and]; simp only [MAB, seval]; refine ⟨rfl, rfl, ?_, ?_, ?_⟩ <;> (first | rfl | (simp [WKB, Nat.add_comm, true_and]; done) | (simp only [WKB, seval])))
      | false =>
        rw [← labE_tf rfl rfl hn.1 hx.1]
        refine fnOK_of true mixed Tryz.func167 rfl (by rfl) (by rfl) ?_
        have hres := congrArg Array.toList Tryz.results167
        simp only [Tryz.ntmps167, BGB, seval]
        (have gx := true_and True; have q1 := l10Cap_k (xv / 1000 * 1000 + n); refine go ?_; (repeat' (first | exact Ef.mk | refine Lf.mk ?_ ?_ | refine fun (K : KT) hK hE hT => ?_ | refine fun (KS : Eff → Prop) hKS => ?_ | refine fun (D : List Keys → Prop) hD => ?_ | refine fun (hg : (_ : Prop)) => ?_ | fail)); all_goals (first | (refine Wr.mk ?_; (try clear gx); (try clear q1); repeat (first | (clear hK hE hT; clear K) | (clear hR hE hT; clear K))) | assumption | skip))
        all_goals (refine post_a hres (.inl rfl) ?_; simp only [RSB, ENB, seval, tiAll, true_and]; simp only [MAB, seval]; refine ⟨rfl, rfl, ?_, ?_, ?_⟩ <;> (first | rfl | (simp [WKB, Nat.add_comm, true_and]; done) | (simp only [WKB, seval])))
    | false => cases xo with
      | true =>
        rw [← labE_ft rfl rfl hn.1 hx.1]
        refine fnOK_of true mixed Tryz.func167 rfl (by rfl) (by rfl) ?_
        have hres := congrArg Array.toList Tryz.results167
        simp only [Tryz.ntmps167, BGB, seval]
        (have gx := true_and True; have q1 := l10Cap_k (n * 1000 + xv % 1000); refine go ?_; (repeat' (first | exact Ef.mk | refine Lf.mk ?_ ?_ | refine fun (K : KT) hK hE hT => ?_ | refine fun (KS : Eff → Prop) hKS => ?_ | refine fun (D : List Keys → Prop) hD => ?_ | refine fun (hg : (_ : Prop)) => ?_ | fail)); all_goals (first | (refine Wr.mk ?_; (try clear gx); (try clear q1); repeat (first | (clear hK hE hT; clear K) | (clear hR hE hT; clear K))) | assumption | skip))
        all_goals (refine post_a hres (.inl rfl) ?_; simp only [RSB, ENB, seval, tiAll, true_and]; simp only [MAB, seval]; refine ⟨rfl, rfl, ?_, ?_, ?_⟩ <;> (first | rfl | (simp [WKB, Nat.add_comm, true_and]; done) | (simp only [WKB, seval])))
      | false =>
        rw [← labE_ff rfl rfl hx.1]
        refine fnOK_of true mixed Tryz.func167 rfl (by rfl) (by rfl) ?_
        have hres := congrArg Array.toList Tryz.results167
        simp only [Tryz.ntmps167, BGB, seval]
        (have gx := true_and True; have q1 := l10Cap_k (xv / 1000 * 1000 + xv % 1000); refine go ?_; (repeat' (first | exact Ef.mk | refine Lf.mk ?_ ?_ | refine fun (K : KT) hK hE hT => ?_ | refine fun (KS : Eff → Prop) hKS => ?_ | refine fun (D : List Keys → Prop) hD => ?_ | refine fun (hg : (_ : Prop)) => ?_ | fail)); all_goals (first | (refine Wr.mk ?_; (try clear gx); (try clear q1); repeat (first | (clear hK hE hT; clear K) | (clear hR hE hT; clear K))) | assumption | skip))
        all_goals (refine post_a hres (.inl rfl) ?_; simp only [RSB, ENB, seval, tiAll, true_and]; simp only [MAB, seval]; refine ⟨rfl, rfl, ?_, ?_, ?_⟩ <;> (first | rfl | (simp [WKB, Nat.add_comm, true_and]; done) | (simp only [WKB, seval])))
  · rw [edge2]
    refine fnOK_of true mixed Tryz.func167 rfl (by rfl) (by rfl) ?_
    have hres := congrArg Array.toList Tryz.results167
    simp only [Tryz.ntmps167, BGB, seval]
    (have gx := true_and True; have q1 := l10Min_k n xv; refine go ?_; (repeat' (first | exact Ef.mk | refine Lf.mk ?_ ?_ | refine fun (K : KT) hK hE hT => ?_ | refine fun (KS : Eff → Prop) hKS => ?_ | refine fun (D : List Keys → Prop) hD => ?_ | refine fun (hg : (_ : Prop)) => ?_ | fail)); all_goals (first | (refine Wr.mk ?_; (try clear gx); (try clear q1); repeat (first | (clear hK hE hT; clear K) | (clear hR hE hT; clear K))) | assumption | skip))
    all_goals (refine post_a hres (.inl rfl) ?_; simp only [RSB, ENB, seval, tiAll, Int.min_comm]; simp only [MAB, seval]; refine ⟨rfl, rfl, ?_, ?_, ?_⟩ <;> (first | rfl | (simp [WKB, Nat.add_comm, Int.min_comm]; done) | (simp only [WKB, seval])))
  · cases xo with
    | true =>
      rw [edge3_out rfl]
      refine fnOK_of true mixed Tryz.func167 rfl (by rfl) (by rfl) ?_
      have hres := congrArg Array.toList Tryz.results167
      simp only [Tryz.ntmps167, BGB, seval]
      (have gx := true_and True; refine go ?_; (repeat' (first | exact Ef.mk | refine Lf.mk ?_ ?_ | refine fun (K : KT) hK hE hT => ?_ | refine fun (KS : Eff → Prop) hKS => ?_ | refine fun (D : List Keys → Prop) hD => ?_ | refine fun (hg : (_ : Prop)) => ?_ | fail)); all_goals (first | (refine Wr.mk ?_; (try clear gx); repeat (first | (clear hK hE hT; clear K) | (clear hR hE hT; clear K))) | assumption | skip))
      all_goals (refine post_a hres (.inl rfl) ?_; simp only [RSB, ENB, seval, tiAll, true_and]; simp only [MAB, seval]; refine ⟨rfl, rfl, ?_, ?_, ?_⟩ <;> (first | rfl | (simp [WKB, Nat.add_comm, true_and]; done) | (simp only [WKB, seval])))
    | false =>
      rw [edge3_in rfl]
      refine fnOK_of true mixed Tryz.func167 rfl (by rfl) (by rfl) ?_
      have hres := congrArg Array.toList Tryz.results167
      simp only [Tryz.ntmps167, BGB, seval]
      (have gx := true_and True; refine go ?_; (repeat' (first | exact Ef.mk | refine Lf.mk ?_ ?_ | refine fun (K : KT) hK hE hT => ?_ | refine fun (KS : Eff → Prop) hKS => ?_ | refine fun (D : List Keys → Prop) hD => ?_ | refine fun (hg : (_ : Prop)) => ?_ | fail)); all_goals (first | (refine Wr.mk ?_; (try clear gx); repeat (first | (clear hK hE hT; clear K) | (clear hR hE hT; clear K))) | assumption | skip))
      all_goals (refine post_a hres (.inl rfl) ?_; simp only [RSB, ENB, seval, tiAll, true_and]; simp only [MAB, seval]; refine ⟨rfl, rfl, ?_, ?_, ?_⟩ <;> (first | rfl | (simp [WKB, Nat.add_comm, true_and]; done) | (simp only [WKB, seval])))

theorem updVal_rng {p val : Int} {l : List ViewD} (hv : 0 ≤ val ∧ val ≤ 1099511627776) (hall : l.all viewOk = true) : 0 ≤ updVal p val l ∧ updVal p val l ≤ 1099511627776 := by
  unfold updVal
  split
  · have := sum_rng l l.length
    unfold rankV
    omega
  · split
    · exact (most_rng (told_rng hall) hv _).1
    · split
      · exact conn_rng hall hv _
      · exact path_rng hv _

theorem lviews_out {l : List ViewD} (h : lviews l = true) : l.all viewOk = true ∧ l.length ≤ 400 := by
  unfold lviews at h
  simpa using h

set_option maxHeartbeats 4000000 in
theorem specUpdate_k (j : JobD) (v val : Int) (l : List ViewD) (hl : l.length ≤ 1048576) : FnOK Tryz.prog 120 ⟨1, [(0, some (.ro (l.map ViewD.k)))], [.agg [.v (.int .i64 j.Prog), .v (.int .i64 j.Src)], .c (.v (.int .i64 v)), .c (.v (.int .i64 val)), .c (.sl 0 4 0 l.length)],
    .tup [.inl (.v (.int .i64 (updN j v val l))), .inl (.sl 1 1 0 (updL j v val l).length)], [(1, some (.row 3 ((updL j v val l).map intK)))], 2⟩ := by
  have cw := l10Views_k l (by omega)
  cases ho : updOk j v val l with
  | false =>
    have e1 : updN j v val l = 0 := by unfold updN; rw [ho]; rfl
    have e2 : updL j v val l = [] := by unfold updL; rw [ho]; rfl
    rw [e1, e2]
    cases hw : lviews l with
    | false =>
      rw [hw] at cw
      refine fnOK_of true mixed Tryz.func120 rfl (by rfl) (by rfl) ?_
      have hres := congrArg Array.toList Tryz.results120
      simp only [Tryz.ntmps120, BGB, seval]
      (have gx := @List.length_map.{0,0}; have q1 := cw; have q2 := l10Vertex_k v; refine go ?_; (repeat' (first | exact Ef.mk | refine Lf.mk ?_ ?_ | refine fun (K : KT) hK hE hT => ?_ | refine fun (KS : Eff → Prop) hKS => ?_ | refine fun (D : List Keys → Prop) hD => ?_ | refine fun (hg : (_ : Prop)) => ?_ | fail)); all_goals (first | (refine Wr.mk ?_; (try clear gx); (try clear q1 q2); repeat (first | (clear hK hE hT; clear K) | (clear hR hE hT; clear K))) | assumption | skip))
      all_goals (refine post_a hres (.inl rfl) ?_; simp only [RSB, ENB, seval, tiAll, true_and]; simp only [MAB, seval]; refine ⟨rfl, rfl, ?_, ?_, ?_⟩ <;> (first | rfl | (simp [WKB, Nat.add_comm, true_and]; done) | (simp only [WKB, seval])))
    | true =>
      rw [hw] at cw
      obtain ⟨w1, w2⟩ := lviews_out hw
      have hno : ¬ (1 ≤ j.Prog ∧ j.Prog ≤ 4 ∧ 0 ≤ v ∧ v < 150 ∧ 0 ≤ val ∧ val ≤ 1099511627776) := fun h => by
        rw [updOk_yes (by omega) w1] at ho
        cases ho
      refine fnOK_of true mixed Tryz.func120 rfl (by rfl) (by rfl) ?_
      have hres := congrArg Array.toList Tryz.results120
      simp only [Tryz.ntmps120, BGB, seval]
      (have gx := @List.length_map.{0,0}; have q1 := cw; have q2 := l10Vertex_k v; refine go ?_; (repeat' (first | exact Ef.mk | refine Lf.mk ?_ ?_ | refine fun (K : KT) hK hE hT => ?_ | refine fun (KS : Eff → Prop) hKS => ?_ | refine fun (D : List Keys → Prop) hD => ?_ | refine fun (hg : (_ : Prop)) => ?_ | fail)); all_goals (first | (refine Wr.mk ?_; (try clear gx); (try clear q1 q2); repeat (first | (clear hK hE hT; clear K) | (clear hR hE hT; clear K))) | assumption | skip))
      all_goals (refine post_a hres (.inl rfl) ?_; simp only [RSB, ENB, seval, tiAll, true_and]; simp only [MAB, seval]; refine ⟨rfl, rfl, ?_, ?_, ?_⟩ <;> (first | rfl | (simp [WKB, Nat.add_comm, true_and]; done) | (simp only [WKB, seval])))
  | true =>
    obtain ⟨⟨p1, p2, p3, p4, v1, v2, hl4⟩, hall⟩ := updOk_out ho
    have hw : lviews l = true := by unfold lviews; rw [hall, decide_eq_true hl4]; rfl
    rw [hw] at cw
    have e1 : updN j v val l = updVal j.Prog val l := by unfold updN; rw [ho]; rfl
    have e2 : updL j v val l = l.map (edgeV j.Prog (updVal j.Prog val l) (outsN l)) := by unfold updL; rw [ho]; rfl
    rw [e1, e2]
    clear e1 e2 ho hw
    have un := updVal_rng (p := j.Prog) ⟨v1, v2⟩ hall
    have cv := l10Value_k j val l ⟨p1, p2⟩ ⟨v1, v2⟩ hl4 hall
    obtain ⟨n, hn⟩ : ∃ n, n = updVal j.Prog val l := ⟨_, rfl⟩
    rw [← hn] at un cv ⊢
    clear hn
    refine fnOK_of true mixed Tryz.func120 rfl (by rfl) (by rfl) ?_
    have hres := congrArg Array.toList Tryz.results120
    simp only [Tryz.ntmps120, BGB, seval]
    (have gx := @List.length_map.{0,0}; have q1 := cw; have q2 := l10Vertex_k v; refine go ?_; (repeat' (first | exact Ef.mk | refine Lf.mk ?_ ?_ | refine fun (K : KT) hK hE hT => ?_ | refine fun (KS : Eff → Prop) hKS => ?_ | refine fun (D : List Keys → Prop) hD => ?_ | refine fun (hg : (_ : Prop)) => ?_ | fail)); all_goals (first | (refine Wr.mk ?_; (try clear gx); (try clear q1 q2); repeat (first | (clear hK hE hT; clear K) | (clear hR hE hT; clear K))) | assumption | skip))
    refine loop_v (X := {k : Nat // k ≤ l.length}) [] (fun x => [(10, .c (.v (.int .i64 (fk stN 0 l x.1)))), (45, .c (.v (.int .i64 ((x.1 : Nat) : Int))))]) (fun x => [(0, some (.ro (l.map ViewD.k))), (1, some (.box 39 [.v (.int .i64 j.Prog), .v (.int .i64 j.Src)]))]) 2 (fun x => l.length - x.1) ⟨0, by omega⟩ ?_
    simp only [KPB, seval]
    refine ⟨?_, ?_⟩
    · (refine wk_a ?_; simp only [MAB, seval]; refine ⟨rfl, rfl, (by decide), ?_, ?_⟩; all_goals (first | (simp only [WKB, seval, fk_zero, Nat.reduceLT, Nat.zero_lt_succ]; done) | (simp [WKB, seval, fk_zero]; done) | simp only [WKB, seval]))
    · rintro ⟨k, hk⟩ K hR hE hT
      have s2 := outs_rng l k
      (have gx := And.intro (@List.length_map.{0,0}) (And.intro @List.getElem_map.{0,0} @ViewD.k.eq_1); have q1 := cv; refine go ?_; (repeat' (first | exact Ef.mk | refine Lf.mk ?_ ?_ | refine fun (K : KT) hK hE hT => ?_ | refine fun (KS : Eff → Prop) hKS => ?_ | refine fun (D : List Keys → Prop) hD => ?_ | refine fun (hg : (_ : Prop)) => ?_ | fail)); all_goals (first | (refine Wr.mk ?_; (try clear gx); (try clear q1); repeat (first | (clear hK hE hT; clear K) | (clear hR hE hT; clear K))) | assumption | skip))
      · have e := outs_in (show k < l.length by first | assumption | omega) (by assumption)
        (refine hR.out ⟨k + 1, by omega⟩ _ _ _ (by simp only; omega) ?_; (refine wk_a ?_; simp only [MAB, seval]; refine ⟨rfl, rfl, (by decide), ?_, ?_⟩; all_goals (first | (simp only [WKB, seval, e, Nat.reduceLT, Nat.zero_lt_succ]; done) | (simp [WKB, seval, e]; done) | simp only [WKB, seval])))
      · have e := outs_out (show k < l.length by first | assumption | omega) (by assumption)
        (refine hR.out ⟨k + 1, by omega⟩ _ _ _ (by simp only; omega) ?_; (refine wk_a ?_; simp only [MAB, seval]; refine ⟨rfl, rfl, (by decide), ?_, ?_⟩; all_goals (first | (simp only [WKB, seval, e, Nat.reduceLT, Nat.zero_lt_succ]; done) | (simp [WKB, seval, e]; done) | simp only [WKB, seval])))
      · obtain rfl : k = l.length := by omega
        refine loop_v (X := {k : Nat // k ≤ l.length}) [58] (fun x => [(14, .c (.sl 2 1 0 ((l.take x.1).map (edgeV j.Prog n (outsN l))).length)), (61, .c (.v (.int .i64 ((x.1 : Nat) : Int))))]) (fun x => [(0, some (.ro (l.map ViewD.k))), (1, some (.box 39 [.v (.int .i64 j.Prog), .v (.int .i64 j.Src)])), (2, some (.row 3 (((l.take x.1).map (edgeV j.Prog n (outsN l))).map intK)))]) 3 (fun x => l.length - x.1) ⟨0, by omega⟩ ?_
        simp only [KPB, seval]
        refine ⟨?_, ?_⟩
        · (refine wk_a ?_; simp only [MAB, seval]; refine ⟨rfl, rfl, (by decide), ?_, ?_⟩; all_goals (first | (simp only [WKB, seval, List.take_zero, List.map_nil, List.length_nil, Nat.reduceLT, Nat.zero_lt_succ]; done) | (simp [WKB, seval, List.take_zero, List.map_nil, List.length_nil]; done) | simp only [WKB, seval]))
        · rintro ⟨k, hk⟩ K hR hE hT
          have l1 : (l.take k).length ≤ 400 := by rw [List.length_take]; omega
          rcases Nat.lt_or_ge k l.length with hlt | hge
          · have e := take_succ_map (edgeV j.Prog n (outsN l)) hlt
            obtain ⟨x1, x2, _, _, _⟩ := viewOk_out (List.all_eq_true.1 hall l[k] (List.getElem_mem hlt))
            have ce := l10Edge_k j n (outsN l) l[k] ⟨p1, p2⟩ un ⟨x1, x2⟩ (outs_pos hlt)
            (have gx := And.intro (@List.length_map.{0,0}) (And.intro @List.getElem_map.{0,0} @ViewD.k.eq_1); have q1 := ce; refine go ?_; (repeat' (first | exact Ef.mk | refine Lf.mk ?_ ?_ | refine fun (K : KT) hK hE hT => ?_ | refine fun (KS : Eff → Prop) hKS => ?_ | refine fun (D : List Keys → Prop) hD => ?_ | refine fun (hg : (_ : Prop)) => ?_ | fail)); all_goals (first | (refine Wr.mk ?_; (try clear gx); (try clear q1); repeat (first | (clear hK hE hT; clear K) | (clear hR hE hT; clear K))) | assumption | skip))
            (refine hR.out ⟨k + 1, by omega⟩ _ _ _ (by simp only; omega) ?_; (refine wk_a ?_; simp only [MAB, seval]; refine ⟨rfl, rfl, (by decide), ?_, ?_⟩; all_goals (first | (simp only [WKB, seval, e, intK, Nat.reduceLT, Nat.zero_lt_succ]; done) | (simp [WKB, seval, e, intK]; done) | simp only [WKB, seval])))
          · obtain rfl : k = l.length := by omega
            (have gx := And.intro (@List.length_map.{0,0}) (And.intro @List.getElem_map.{0,0} @ViewD.k.eq_1); refine go ?_; (repeat' (first | exact Ef.mk | refine Lf.mk ?_ ?_ | refine fun (K : KT) hK hE hT => ?_ | refine fun (KS : Eff → Prop) hKS => ?_ | refine fun (D : List Keys → Prop) hD => ?_ | refine fun (hg : (_ : Prop)) => ?_ | fail)); all_goals (first | (refine Wr.mk ?_; (try clear gx); repeat (first | (clear hK hE hT; clear K) | (clear hR hE hT; clear K))) | assumption | skip))
            (refine post_a hres (.inl rfl) ?_; simp only [RSB, ENB, seval, tiAll, List.take_length]; simp only [MAB, seval]; refine ⟨rfl, rfl, ?_, ?_, ?_⟩ <;> (first | rfl | (simp [WKB, Nat.add_comm, List.take_length]; done) | (simp only [WKB, seval])))

end Go.Proofs.YtcbnfkbnbdbfoaaGreat
