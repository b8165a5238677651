/-
  Contracts: what an update asks, the reference's update. No conditions of its own.
-/
import Derived.Test.YtcbnfkbnbdbfoaaGreatGO
import Derived.Test.YtcbnfkbnbdbfoaaGreatU1
import Derived.Test.YtcbnfkbnbdbfoaaGreatMKA
namespace Go.Proofs.YtcbnfkbnbdbfoaaGreat
set_option linter.unusedSimpArgs false
set_option linter.unusedVariables false
set_option linter.unusedSimpArgs false
set_option linter.unusedVariables false
set_option linter.defProp false
open Go.RowKit


theorem implclamp_k (a b : Int) : FnOK Tryz.prog 241 ⟨0, [], [.c (.v (.int .i64 a)), .c (.v (.int .i64 b))], .c (.v (.int .i64 (max 0 (min a b)))), [], 0⟩ := by
  refine fnOK_of true mixed Tryz.func241 rfl (by rfl) (by rfl) ?_
  have hres := congrArg Array.toList Tryz.results241
  simp only [Tryz.ntmps241, BGB, seval]
  (have gx := true_and True; refine go ?_; (repeat' (first | exact Ef.mk | refine Lf.mk ?_ ?_ | refine fun (K : KT) hK hE hT => ?_ | refine fun (KS : Eff → Prop) hKS => ?_ | refine fun (D : List Keys → Prop) hD => ?_ | refine fun (hg : (_ : Prop)) => ?_ | fail)); all_goals (first | (refine Wr.mk ?_; (try clear gx); repeat (first | (clear hK hE hT; clear K) | (clear hR hE hT; clear K))) | assumption | skip))
  (refine post_a hres (.inl rfl) ?_; simp only [RSB, ENB, seval, tiAll, true_and]; simp only [MAB, seval]; refine ⟨rfl, rfl, ?_, ?_, ?_⟩ <;> (first | rfl | (simp [WKB, Nat.add_comm, true_and]; done) | (simp only [WKB, seval])))

theorem implcap_k (a : Int) : FnOK Tryz.prog 241 ⟨0, [], [.c (.v (.int .i64 a)), .c (.v (.int .i64 1099511627776))], .c (.v (.int .i64 (capI a))), [], 0⟩ := implclamp_k a _

theorem implAddCap_k (a b : Int) : FnOK Tryz.prog 207 ⟨0, [], [.c (.v (.int .i64 a)), .c (.v (.int .i64 b))], .c (.v (.int .i64 (addCap a b))), [], 0⟩ := by
  have h1 := capI_rng a
  have h2 := capI_rng b
  refine fnOK_of true mixed Tryz.func207 rfl (by rfl) (by rfl) ?_
  have hres := congrArg Array.toList Tryz.results207
  simp only [Tryz.ntmps207, BGB, seval]
  (have gx := true_and True; have q1 := implcap_k a; have q2 := implcap_k b; refine go ?_; (repeat' (first | exact Ef.mk | refine Lf.mk ?_ ?_ | refine fun (K : KT) hK hE hT => ?_ | refine fun (KS : Eff → Prop) hKS => ?_ | refine fun (D : List Keys → Prop) hD => ?_ | refine fun (hg : (_ : Prop)) => ?_ | fail)); all_goals (first | (refine Wr.mk ?_; (try clear gx); (try clear q1 q2); repeat (first | (clear hK hE hT; clear K) | (clear hR hE hT; clear K))) | assumption | skip))
  (refine post_a hres (.inl rfl) ?_; simp only [RSB, ENB, seval, tiAll, addCap]; simp only [MAB, seval]; refine ⟨rfl, rfl, ?_, ?_, ?_⟩ <;> (first | rfl | (simp [WKB, Nat.add_comm, addCap]; done) | (simp only [WKB, seval])))

theorem l10Cap_k (a : Int) : FnOK Tryz.prog 205 ⟨0, [], [.c (.v (.int .i64 a))], .c (.v (.int .i64 (capI a))), [], 0⟩ := by
  have c : FnOK Tryz.prog 240 ⟨0, [], [.c (.v (.int .i64 a)), .c (.v (.int .i64 1099511627776))], .c (.v (.int .i64 (capI a))), [], 0⟩ := by
    refine fnOK_of true mixed Tryz.func240 rfl (by rfl) (by rfl) ?_
    have hres := congrArg Array.toList Tryz.results240
    simp only [Tryz.ntmps240, BGB, seval]
    (have gx := true_and True; refine go ?_; (repeat' (first | exact Ef.mk | refine Lf.mk ?_ ?_ | refine fun (K : KT) hK hE hT => ?_ | refine fun (KS : Eff → Prop) hKS => ?_ | refine fun (D : List Keys → Prop) hD => ?_ | refine fun (hg : (_ : Prop)) => ?_ | fail)); all_goals (first | (refine Wr.mk ?_; (try clear gx); repeat (first | (clear hK hE hT; clear K) | (clear hR hE hT; clear K))) | assumption | skip))
    all_goals (refine post_a hres (.inl rfl) ?_; simp only [RSB, ENB, seval, tiAll, true_and]; simp only [MAB, seval]; refine ⟨rfl, rfl, ?_, ?_, ?_⟩ <;> (first | rfl | (simp [WKB, Nat.add_comm, true_and]; done) | (simp only [WKB, seval])))
    all_goals (refine congrArg (fun b => SV.c (CV.v (Value.int IntKind.i64 b))) ?_; unfold capI; omega)
  refine fnOK_of true mixed Tryz.func205 rfl (by rfl) (by rfl) ?_
  have hres := congrArg Array.toList Tryz.results205
  simp only [Tryz.ntmps205, BGB, seval]
  (have gx := true_and True; have q1 := c; refine go ?_; (repeat' (first | exact Ef.mk | refine Lf.mk ?_ ?_ | refine fun (K : KT) hK hE hT => ?_ | refine fun (KS : Eff → Prop) hKS => ?_ | refine fun (D : List Keys → Prop) hD => ?_ | refine fun (hg : (_ : Prop)) => ?_ | fail)); all_goals (first | (refine Wr.mk ?_; (try clear gx); (try clear q1); repeat (first | (clear hK hE hT; clear K) | (clear hR hE hT; clear K))) | assumption | skip))
  (refine post_a hres (.inl rfl) ?_; simp only [RSB, ENB, seval, tiAll, true_and]; simp only [MAB, seval]; refine ⟨rfl, rfl, ?_, ?_, ?_⟩ <;> (first | rfl | (simp [WKB, Nat.add_comm, true_and]; done) | (simp only [WKB, seval])))

theorem capI_add (a b : Int) : capI (capI a + capI b) = addCap a b := by
  have h1 := capI_rng a
  have h2 := capI_rng b
  show max 0 (min (capI a + capI b) 1099511627776) = min (capI a + capI b) 1099511627776
  omega

theorem specAddCap_k (a b : Int) : FnOK Tryz.prog 204 ⟨0, [], [.c (.v (.int .i64 a)), .c (.v (.int .i64 b))], .c (.v (.int .i64 (addCap a b))), [], 0⟩ := by
  have h1 := capI_rng a
  have h2 := capI_rng b
  have c := l10Cap_k (capI a + capI b)
  rw [capI_add] at c
  refine fnOK_of true mixed Tryz.func204 rfl (by rfl) (by rfl) ?_
  have hres := congrArg Array.toList Tryz.results204
  simp only [Tryz.ntmps204, BGB, seval]
  (have gx := true_and True; have q1 := l10Cap_k a; have q2 := l10Cap_k b; have q3 := c; refine go ?_; (repeat' (first | exact Ef.mk | refine Lf.mk ?_ ?_ | refine fun (K : KT) hK hE hT => ?_ | refine fun (KS : Eff → Prop) hKS => ?_ | refine fun (D : List Keys → Prop) hD => ?_ | refine fun (hg : (_ : Prop)) => ?_ | fail)); all_goals (first | (refine Wr.mk ?_; (try clear gx); (try clear q1 q2 q3); repeat (first | (clear hK hE hT; clear K) | (clear hR hE hT; clear K))) | assumption | skip))
  (refine post_a hres (.inl rfl) ?_; simp only [RSB, ENB, seval, tiAll, true_and]; simp only [MAB, seval]; refine ⟨rfl, rfl, ?_, ?_, ?_⟩ <;> (first | rfl | (simp [WKB, Nat.add_comm, true_and]; done) | (simp only [WKB, seval])))

theorem l10Min_k (a b : Int) : FnOK Tryz.prog 203 ⟨0, [], [.c (.v (.int .i64 a)), .c (.v (.int .i64 b))], .c (.v (.int .i64 (min a b))), [], 0⟩ := by
  refine fnOK_of true mixed Tryz.func203 rfl (by rfl) (by rfl) ?_
  have hres := congrArg Array.toList Tryz.results203
  simp only [Tryz.ntmps203, BGB, seval]
  (have gx := true_and True; refine go ?_; (repeat' (first | exact Ef.mk | refine Lf.mk ?_ ?_ | refine fun (K : KT) hK hE hT => ?_ | refine fun (KS : Eff → Prop) hKS => ?_ | refine fun (D : List Keys → Prop) hD => ?_ | refine fun (hg : (_ : Prop)) => ?_ | fail)); all_goals (first | (refine Wr.mk ?_; (try clear gx); repeat (first | (clear hK hE hT; clear K) | (clear hR hE hT; clear K))) | assumption | skip))
  all_goals (refine post_a hres (.inl rfl) ?_; simp only [RSB, ENB, seval, tiAll, true_and]; simp only [MAB, seval]; refine ⟨rfl, rfl, ?_, ?_, ?_⟩ <;> (first | rfl | (simp [WKB, Nat.add_comm, true_and]; done) | (simp only [WKB, seval])))
  all_goals (refine congrArg (fun b => SV.c (CV.v (Value.int IntKind.i64 b))) ?_; omega)

theorem l10Vertex_k (a : Int) : FnOK Tryz.prog 164 ⟨0, [], [.c (.v (.int .i64 a))], .c (.v (.bool (decide (0 ≤ a ∧ a < 150)))), [], 0⟩ := by
  refine fnOK_of true mixed Tryz.func164 rfl (by rfl) (by rfl) ?_
  have hres := congrArg Array.toList Tryz.results164
  simp only [Tryz.ntmps164, BGB, seval]
  (have gx := true_and True; refine go ?_; (repeat' (first | exact Ef.mk | refine Lf.mk ?_ ?_ | refine fun (K : KT) hK hE hT => ?_ | refine fun (KS : Eff → Prop) hKS => ?_ | refine fun (D : List Keys → Prop) hD => ?_ | refine fun (hg : (_ : Prop)) => ?_ | fail)); all_goals (first | (refine Wr.mk ?_; (try clear gx); repeat (first | (clear hK hE hT; clear K) | (clear hR hE hT; clear K))) | assumption | skip))
  all_goals (refine post_a hres (.inl rfl) ?_; simp only [RSB, ENB, seval, tiAll, true_and]; simp only [MAB, seval]; refine ⟨rfl, rfl, ?_, ?_, ?_⟩ <;> (first | rfl | (simp [WKB, Nat.add_comm, true_and]; done) | (simp only [WKB, seval])))
  all_goals (refine congrArg (fun b => SV.c (CV.v (Value.bool b))) ?_; symm; first | (rw [decide_eq_false_iff_not]; omega) | (rw [decide_eq_true_eq]; omega) | (rw [decide_eq_decide]; omega) | (rw [Bool.eq_iff_iff]; simp only [decide_eq_true_eq, beq_iff_eq]; omega))

theorem isVertex_k (a : Int) : FnOK Tryz.prog 142 ⟨0, [], [.c (.v (.int .i64 a))], .c (.v (.bool (decide (0 ≤ a ∧ a < 150)))), [], 0⟩ := by
  refine fnOK_of true mixed Tryz.func142 rfl (by rfl) (by rfl) ?_
  have hres := congrArg Array.toList Tryz.results142
  simp only [Tryz.ntmps142, BGB, seval]
  (have gx := true_and True; refine go ?_; (repeat' (first | exact Ef.mk | refine Lf.mk ?_ ?_ | refine fun (K : KT) hK hE hT => ?_ | refine fun (KS : Eff → Prop) hKS => ?_ | refine fun (D : List Keys → Prop) hD => ?_ | refine fun (hg : (_ : Prop)) => ?_ | fail)); all_goals (first | (refine Wr.mk ?_; (try clear gx); repeat (first | (clear hK hE hT; clear K) | (clear hR hE hT; clear K))) | assumption | skip))
  all_goals (refine post_a hres (.inl rfl) ?_; simp only [RSB, ENB, seval, tiAll, true_and]; simp only [MAB, seval]; refine ⟨rfl, rfl, ?_, ?_, ?_⟩ <;> (first | rfl | (simp [WKB, Nat.add_comm, true_and]; done) | (simp only [WKB, seval])))
  all_goals (refine congrArg (fun b => SV.c (CV.v (Value.bool b))) ?_; symm; first | (rw [decide_eq_false_iff_not]; omega) | (rw [decide_eq_true_eq]; omega) | (rw [decide_eq_decide]; omega) | (rw [Bool.eq_iff_iff]; simp only [decide_eq_true_eq, beq_iff_eq]; omega))

theorem viewOk_no {x : ViewD} (h : x.Val < 0 ∨ 1099511627776 < x.Val ∨ x.W < 0 ∨ 1000 < x.W ∨ (x.In = false ∧ x.Out = false)) : viewOk x = false := by
  unfold viewOk
  rw [decide_eq_false_iff_not]
  rintro ⟨h1, h2, h3, h4, h5⟩
  rcases h with h | h | h | h | ⟨h, h'⟩
  · omega
  · omega
  · omega
  · omega
  · rw [h, h'] at h5; simp at h5

theorem viewOk_yes {x : ViewD} (h1 : 0 ≤ x.Val) (h2 : x.Val ≤ 1099511627776) (h3 : 0 ≤ x.W) (h4 : x.W ≤ 1000) (h5 : x.In = true ∨ x.Out = true) : viewOk x = true := by
  unfold viewOk
  rw [decide_eq_true_eq]
  exact ⟨h1, h2, h3, h4, h5⟩

def lviews (l : List ViewD) : Bool := l.all viewOk && decide (l.length ≤ 400)

set_option maxHeartbeats 1000000 in
theorem l10Views_k (l : List ViewD) (hl : l.length ≤ 9223372036854775807) : FnOK Tryz.prog 165 ⟨1, [(0, some (.ro (l.map ViewD.k)))], [.c (.sl 0 4 0 l.length)], .c (.v (.bool (lviews l))), [], 1⟩ := by
  refine fnOK_of true mixed Tryz.func165 rfl (by rfl) (by rfl) ?_
  have hres := congrArg Array.toList Tryz.results165
  simp only [Tryz.ntmps165, BGB, seval]
  (have gx := true_and True; refine go ?_; (repeat' (first | exact Ef.mk | refine Lf.mk ?_ ?_ | refine fun (K : KT) hK hE hT => ?_ | refine fun (KS : Eff → Prop) hKS => ?_ | refine fun (D : List Keys → Prop) hD => ?_ | refine fun (hg : (_ : Prop)) => ?_ | fail)); all_goals (first | (refine Wr.mk ?_; (try clear gx); repeat (first | (clear hK hE hT; clear K) | (clear hR hE hT; clear K))) | assumption | skip))
  refine loop_v (X := {k : Nat // k ≤ l.length ∧ Rnd (∀ i (hi : i < l.length), i < k → viewOk l[i] = true)}) [] (fun x => [(7, .c (.v (.int .i64 ((x.1 : Nat) : Int))))]) (fun x => [(0, some (.ro (l.map ViewD.k)))]) 1 (fun x => l.length - x.1) ⟨0, by omega, ⟨fun i hi h => by omega⟩⟩ ?_
  simp only [KPB, seval]
  refine ⟨?_, ?_⟩
  · (refine wk_a ?_; simp only [MAB, seval]; refine ⟨rfl, rfl, (by decide), ?_, ?_⟩; all_goals (first | (simp only [WKB, seval, true_and, Nat.reduceLT, Nat.zero_lt_succ]; done) | (simp [WKB, seval, true_and]; done) | simp only [WKB, seval]))
  · rintro ⟨k, hk, hi⟩ K hR hE hT
    (have gx := And.intro (@List.length_map.{0,0}) (And.intro @List.getElem_map.{0,0} @ViewD.k.eq_1); refine go ?_; (repeat' (first | exact Ef.mk | refine Lf.mk ?_ ?_ | refine fun (K : KT) hK hE hT => ?_ | refine fun (KS : Eff → Prop) hKS => ?_ | refine fun (D : List Keys → Prop) hD => ?_ | refine fun (hg : (_ : Prop)) => ?_ | fail)); all_goals (first | (refine Wr.mk ?_; (try clear gx); repeat (first | (clear hK hE hT; clear K) | (clear hR hE hT; clear K))) | assumption | skip))
    all_goals first
      | (have e : viewOk (l[k]'(by omega)) = false := viewOk_no (by first | (refine .inr (.inr (.inr (.inr ⟨?_, ?_⟩))) <;> assumption) | omega)
         have e2 : lviews l = false := by unfold lviews; rw [all_no (by omega) e, Bool.false_and]
         (refine post_a hres (.inl rfl) ?_; simp only [RSB, ENB, seval, tiAll, e2]; simp only [MAB, seval]; refine ⟨rfl, rfl, ?_, ?_, ?_⟩ <;> (first | rfl | (simp [WKB, Nat.add_comm, e2]; done) | (simp only [WKB, seval]))))
      | (have e : viewOk (l[k]'(by omega)) = true := viewOk_yes (by omega) (by omega) (by omega) (by omega) (by first | exact .inl (by assumption) | exact .inr (by assumption))
         (refine hR.out ⟨k + 1, by omega, ⟨all_more hi.out (by omega) e⟩⟩ _ _ _ (by simp only; omega) ?_; (refine wk_a ?_; simp only [MAB, seval]; refine ⟨rfl, rfl, (by decide), ?_, ?_⟩; all_goals (first | (simp only [WKB, seval, true_and, Nat.reduceLT, Nat.zero_lt_succ]; done) | (simp [WKB, seval, true_and]; done) | simp only [WKB, seval]))))
      | (have e : lviews l = decide (l.length ≤ 400) := by unfold lviews; rw [all_yes (p := viewOk) (k := k) (by omega) hi.out, Bool.true_and]
         (refine post_a hres (.inl rfl) ?_; simp only [RSB, ENB, seval, tiAll, e]; simp only [MAB, seval]; refine ⟨rfl, rfl, ?_, ?_, ?_⟩ <;> (first | rfl | (simp [WKB, Nat.add_comm, e]; done) | (simp only [WKB, seval])))
         all_goals (refine congrArg (fun b => SV.c (CV.v (Value.bool b))) ?_; symm; first | (rw [decide_eq_false_iff_not]; omega) | (rw [decide_eq_true_eq]; omega) | (rw [decide_eq_decide]; omega) | (rw [Bool.eq_iff_iff]; simp only [decide_eq_true_eq, beq_iff_eq]; omega)))

theorem rank_cap (l : List ViewD) : capI (157286 + 17 * fk stS 0 l l.length / 20) = rankV l := by
  have := sum_rng l l.length
  unfold rankV capI
  omega

set_option maxHeartbeats 1000000 in
theorem l10Rank_k (l : List ViewD) (hl : l.length ≤ 400) : FnOK Tryz.prog 200 ⟨1, [(0, some (.ro (l.map ViewD.k)))], [.c (.sl 0 4 0 l.length)], .c (.v (.int .i64 (rankV l))), [], 1⟩ := by
  refine fnOK_of true mixed Tryz.func200 rfl (by rfl) (by rfl) ?_
  have hres := congrArg Array.toList Tryz.results200
  simp only [Tryz.ntmps200, BGB, seval]
  (have gx := true_and True; refine go ?_; (repeat' (first | exact Ef.mk | refine Lf.mk ?_ ?_ | refine fun (K : KT) hK hE hT => ?_ | refine fun (KS : Eff → Prop) hKS => ?_ | refine fun (D : List Keys → Prop) hD => ?_ | refine fun (hg : (_ : Prop)) => ?_ | fail)); all_goals (first | (refine Wr.mk ?_; (try clear gx); repeat (first | (clear hK hE hT; clear K) | (clear hR hE hT; clear K))) | assumption | skip))
  refine loop_v (X := {k : Nat // k ≤ l.length}) [] (fun x => [(3, .c (.v (.int .i64 (fk stS 0 l x.1)))), (8, .c (.v (.int .i64 ((x.1 : Nat) : Int))))]) (fun x => [(0, some (.ro (l.map ViewD.k)))]) 1 (fun x => l.length - x.1) ⟨0, by omega⟩ ?_
  simp only [KPB, seval]
  refine ⟨?_, ?_⟩
  · (refine wk_a ?_; simp only [MAB, seval]; refine ⟨rfl, rfl, (by decide), ?_, ?_⟩; all_goals (first | (simp only [WKB, seval, fk_zero, Nat.reduceLT, Nat.zero_lt_succ]; done) | (simp [WKB, seval, fk_zero]; done) | simp only [WKB, seval]))
  · rintro ⟨k, hk⟩ K hR hE hT
    have s1 := sum_rng l k
    (have gx := And.intro (@List.length_map.{0,0}) (And.intro @List.getElem_map.{0,0} @ViewD.k.eq_1); have q1 := fun hq1 => specAddCap_k (fk stS 0 l k) (l[k]'hq1).Val; have q2 := l10Cap_k (157286 + 17 * fk stS 0 l k / 20); refine go ?_; (repeat' (first | exact Ef.mk | refine Lf.mk ?_ ?_ | refine fun (K : KT) hK hE hT => ?_ | refine fun (KS : Eff → Prop) hKS => ?_ | refine fun (D : List Keys → Prop) hD => ?_ | refine fun (hg : (_ : Prop)) => ?_ | fail)); all_goals (first | (refine Wr.mk ?_; (try clear gx); (try clear q1 q2); repeat (first | (clear hK hE hT; clear K) | (clear hR hE hT; clear K))) | assumption | skip))
    · have e := sum_in (show k < l.length by first | assumption | omega) (by assumption)
      (refine hR.out ⟨k + 1, by omega⟩ _ _ _ (by simp only; omega) ?_; (refine wk_a ?_; simp only [MAB, seval]; refine ⟨rfl, rfl, (by decide), ?_, ?_⟩; all_goals (first | (simp only [WKB, seval, e, Nat.reduceLT, Nat.zero_lt_succ]; done) | (simp [WKB, seval, e]; done) | simp only [WKB, seval])))
    · have e := sum_out (show k < l.length by first | assumption | omega) (by assumption)
      (refine hR.out ⟨k + 1, by omega⟩ _ _ _ (by simp only; omega) ?_; (refine wk_a ?_; simp only [MAB, seval]; refine ⟨rfl, rfl, (by decide), ?_, ?_⟩; all_goals (first | (simp only [WKB, seval, e, Nat.reduceLT, Nat.zero_lt_succ]; done) | (simp [WKB, seval, e]; done) | simp only [WKB, seval])))
    · obtain rfl : k = l.length := by omega
      (refine post_a hres (.inl rfl) ?_; simp only [RSB, ENB, seval, tiAll, rank_cap]; simp only [MAB, seval]; refine ⟨rfl, rfl, ?_, ?_, ?_⟩ <;> (first | rfl | (simp [WKB, Nat.add_comm, rank_cap]; done) | (simp only [WKB, seval])))

set_option maxHeartbeats 1000000 in
theorem l10Told_k (l : List ViewD) (hl : l.length ≤ 400) (ho : l.all viewOk = true) : FnOK Tryz.prog 202 ⟨1, [(0, some (.ro (l.map ViewD.k)))], [.c (.sl 0 4 0 l.length)], .c (.sl 1 1 0 (told l).length), [(1, some (.row 3 ((told l).map intK)))], 2⟩ := by
  refine fnOK_of true mixed Tryz.func202 rfl (by rfl) (by rfl) ?_
  have hres := congrArg Array.toList Tryz.results202
  simp only [Tryz.ntmps202, BGB, seval]
  (have gx := true_and True; refine go ?_; (repeat' (first | exact Ef.mk | refine Lf.mk ?_ ?_ | refine fun (K : KT) hK hE hT => ?_ | refine fun (KS : Eff → Prop) hKS => ?_ | refine fun (D : List Keys → Prop) hD => ?_ | refine fun (hg : (_ : Prop)) => ?_ | fail)); all_goals (first | (refine Wr.mk ?_; (try clear gx); repeat (first | (clear hK hE hT; clear K) | (clear hR hE hT; clear K))) | assumption | skip))
  refine loop_v (X := {k : Nat // k ≤ l.length}) [6] (fun x => [(3, .c (.sl 1 1 0 (told (l.take x.1)).length)), (9, .c (.v (.int .i64 ((x.1 : Nat) : Int))))]) (fun x => [(0, some (.ro (l.map ViewD.k))), (1, some (.row 3 ((told (l.take x.1)).map intK)))]) 2 (fun x => l.length - x.1) ⟨0, by omega⟩ ?_
  simp only [KPB, seval]
  refine ⟨?_, ?_⟩
  · (refine wk_a ?_; simp only [MAB, seval]; refine ⟨rfl, rfl, (by decide), ?_, ?_⟩; all_goals (first | (simp only [WKB, seval, told_zero, told_nil, Nat.reduceLT, Nat.zero_lt_succ]; done) | (simp [WKB, seval, told_zero, told_nil]; done) | simp only [WKB, seval]))
  · rintro ⟨k, hk⟩ K hR hE hT
    have l1 := told_take_len hl k
    rcases Nat.lt_or_ge k l.length with hlt | hge
    · obtain ⟨v1, v2, _, _, _⟩ := viewOk_out (List.all_eq_true.1 ho l[k] (List.getElem_mem hlt))
      have e := told_take hlt
      (have gx := And.intro (@List.length_map.{0,0}) (And.intro (@List.getElem_map.{0,0}) (And.intro (@List.length_append.{0}) (And.intro @List.length_singleton.{0} @ViewD.k.eq_1))); refine go ?_; (repeat' (first | exact Ef.mk | refine Lf.mk ?_ ?_ | refine fun (K : KT) hK hE hT => ?_ | refine fun (KS : Eff → Prop) hKS => ?_ | refine fun (D : List Keys → Prop) hD => ?_ | refine fun (hg : (_ : Prop)) => ?_ | fail)); all_goals (first | (refine Wr.mk ?_; (try clear gx); repeat (first | (clear hK hE hT; clear K) | (clear hR hE hT; clear K))) | assumption | skip))
      · have e2 := toldOf_tt (x := l[k]) (by assumption) (by assumption)
        rw [e2] at e
        (refine hR.out ⟨k + 1, by omega⟩ _ _ _ (by simp only; omega) ?_; (refine wk_a ?_; simp only [MAB, seval]; refine ⟨rfl, rfl, (by decide), ?_, ?_⟩; all_goals (first | (simp only [WKB, seval, e, intK, Nat.reduceLT, Nat.zero_lt_succ]; done) | (simp [WKB, seval, e, intK]; done) | simp only [WKB, seval])))
      · have e2 := toldOf_tf (x := l[k]) (by assumption) (by assumption)
        rw [e2] at e
        (refine hR.out ⟨k + 1, by omega⟩ _ _ _ (by simp only; omega) ?_; (refine wk_a ?_; simp only [MAB, seval]; refine ⟨rfl, rfl, (by decide), ?_, ?_⟩; all_goals (first | (simp only [WKB, seval, e, intK, Nat.reduceLT, Nat.zero_lt_succ]; done) | (simp [WKB, seval, e, intK]; done) | simp only [WKB, seval])))
      · have e2 := toldOf_ft (x := l[k]) (by assumption) (by assumption)
        rw [e2] at e
        (refine hR.out ⟨k + 1, by omega⟩ _ _ _ (by simp only; omega) ?_; (refine wk_a ?_; simp only [MAB, seval]; refine ⟨rfl, rfl, (by decide), ?_, ?_⟩; all_goals (first | (simp only [WKB, seval, e, intK, Nat.reduceLT, Nat.zero_lt_succ]; done) | (simp [WKB, seval, e, intK]; done) | simp only [WKB, seval])))
      · have e2 := toldOf_ff (x := l[k]) (by assumption) (by assumption)
        rw [e2, List.append_nil] at e
        (refine hR.out ⟨k + 1, by omega⟩ _ _ _ (by simp only; omega) ?_; (refine wk_a ?_; simp only [MAB, seval]; refine ⟨rfl, rfl, (by decide), ?_, ?_⟩; all_goals (first | (simp only [WKB, seval, e, Nat.reduceLT, Nat.zero_lt_succ]; done) | (simp [WKB, seval, e]; done) | simp only [WKB, seval])))
    · obtain rfl : k = l.length := by omega
      (have gx := And.intro (@List.length_map.{0,0}) (And.intro @List.getElem_map.{0,0} @ViewD.k.eq_1); refine go ?_; (repeat' (first | exact Ef.mk | refine Lf.mk ?_ ?_ | refine fun (K : KT) hK hE hT => ?_ | refine fun (KS : Eff → Prop) hKS => ?_ | refine fun (D : List Keys → Prop) hD => ?_ | refine fun (hg : (_ : Prop)) => ?_ | fail)); all_goals (first | (refine Wr.mk ?_; (try clear gx); repeat (first | (clear hK hE hT; clear K) | (clear hR hE hT; clear K))) | assumption | skip))
      (refine post_a hres (.inl rfl) ?_; simp only [RSB, ENB, seval, tiAll, List.take_length]; simp only [MAB, seval]; refine ⟨rfl, rfl, ?_, ?_, ?_⟩ <;> (first | rfl | (simp [WKB, Nat.add_comm, List.take_length]; done) | (simp only [WKB, seval])))

set_option maxHeartbeats 2000000 in
theorem l10Most_k (t : List Int) (val : Int) (ht : ∀ a ∈ t, 0 ≤ a ∧ a ≤ 1099511627776) (hv : 0 ≤ val ∧ val ≤ 1099511627776) (hl : t.length ≤ 800) : FnOK Tryz.prog 201 ⟨1, [(0, some (.ro (t.map intK)))], [.c (.sl 0 1 0 t.length), .c (.v (.int .i64 val))], .c (.v (.int .i64 (mostOf t val))), [], 1⟩ := by
  refine fnOK_of true mixed Tryz.func201 rfl (by rfl) (by rfl) ?_
  have hres := congrArg Array.toList Tryz.results201
  simp only [Tryz.ntmps201, BGB, seval]
  (have gx := true_and True; refine go ?_; (repeat' (first | exact Ef.mk | refine Lf.mk ?_ ?_ | refine fun (K : KT) hK hE hT => ?_ | refine fun (KS : Eff → Prop) hKS => ?_ | refine fun (D : List Keys → Prop) hD => ?_ | refine fun (hg : (_ : Prop)) => ?_ | fail)); all_goals (first | (refine Wr.mk ?_; (try clear gx); repeat (first | (clear hK hE hT; clear K) | (clear hR hE hT; clear K))) | assumption | skip))
  refine loop_v (X := {k : Nat // k ≤ t.length}) [] (fun x => [(5, .c (.v (.int .i64 (fk (stM t) (val, 0) t x.1).1))), (6, .c (.v (.int .i64 (fk (stM t) (val, 0) t x.1).2))), (15, .c (.v (.int .i64 ((x.1 : Nat) : Int))))]) (fun x => [(0, some (.ro (t.map intK)))]) 1 (fun x => t.length - x.1) ⟨0, by omega⟩ ?_
  simp only [KPB, seval]
  refine ⟨?_, ?_⟩
  · (refine wk_a ?_; simp only [MAB, seval]; refine ⟨rfl, rfl, (by decide), ?_, ?_⟩; all_goals (first | (simp only [WKB, seval, fk_zero, Nat.reduceLT, Nat.zero_lt_succ]; done) | (simp [WKB, seval, fk_zero]; done) | simp only [WKB, seval]))
  · rintro ⟨k, hk⟩ K hR hE hT
    obtain ⟨m1, m2⟩ := most_rng ht hv k
    rcases Nat.lt_or_ge k t.length with hlt | hge
    case inr =>
      obtain rfl : k = t.length := by omega
      (have gx := And.intro (@List.length_map.{0,0}) (And.intro @List.getElem_map.{0,0} @intK.eq_1); refine go ?_; (repeat' (first | exact Ef.mk | refine Lf.mk ?_ ?_ | refine fun (K : KT) hK hE hT => ?_ | refine fun (KS : Eff → Prop) hKS => ?_ | refine fun (D : List Keys → Prop) hD => ?_ | refine fun (hg : (_ : Prop)) => ?_ | fail)); all_goals (first | (refine Wr.mk ?_; (try clear gx); repeat (first | (clear hK hE hT; clear K) | (clear hR hE hT; clear K))) | assumption | skip))
      (refine post_a hres (.inl rfl) ?_; simp only [RSB, ENB, seval, tiAll, mostOf]; simp only [MAB, seval]; refine ⟨rfl, rfl, ?_, ?_, ?_⟩ <;> (first | rfl | (simp [WKB, Nat.add_comm, mostOf]; done) | (simp only [WKB, seval])))
    case inl =>
      (have gx := And.intro (@List.length_map.{0,0}) (And.intro @List.getElem_map.{0,0} @intK.eq_1); refine go ?_; (repeat' (first | exact Ef.mk | refine Lf.mk ?_ ?_ | refine fun (K : KT) hK hE hT => ?_ | refine fun (KS : Eff → Prop) hKS => ?_ | refine fun (D : List Keys → Prop) hD => ?_ | refine fun (hg : (_ : Prop)) => ?_ | fail)); all_goals (first | (refine Wr.mk ?_; (try clear gx); repeat (first | (clear hK hE hT; clear K) | (clear hR hE hT; clear K))) | assumption | skip))
      refine loop_v (X := {i : Nat // i ≤ t.length}) [] (fun x => [(9, .c (.v (.int .i64 (((t.take x.1).count t[k] : Nat) : Int)))), (21, .c (.v (.int .i64 ((x.1 : Nat) : Int))))]) (fun x => [(0, some (.ro (t.map intK)))]) 1 (fun x => t.length - x.1) ⟨0, by omega⟩ ?_
      simp only [KPB, seval]
      refine ⟨?_, ?_⟩
      · (refine wk_a ?_; simp only [MAB, seval]; refine ⟨rfl, rfl, (by decide), ?_, ?_⟩; all_goals (first | (simp only [WKB, seval, List.take_zero, List.count_nil, Nat.reduceLT, Nat.zero_lt_succ]; done) | (simp [WKB, seval, List.take_zero, List.count_nil]; done) | simp only [WKB, seval]))
      · rintro ⟨i, hi⟩ K hR hE hT
        have c1 := List.count_le_length (a := t[k]) (l := t.take i)
        rw [List.length_take] at c1
        (have gx := And.intro (@List.length_map.{0,0}) (And.intro @List.getElem_map.{0,0} @intK.eq_1); refine go ?_; (repeat' (first | exact Ef.mk | refine Lf.mk ?_ ?_ | refine fun (K : KT) hK hE hT => ?_ | refine fun (KS : Eff → Prop) hKS => ?_ | refine fun (D : List Keys → Prop) hD => ?_ | refine fun (hg : (_ : Prop)) => ?_ | fail)); all_goals (first | (refine Wr.mk ?_; (try clear gx); repeat (first | (clear hK hE hT; clear K) | (clear hR hE hT; clear K))) | assumption | skip))
        all_goals first
          | (have e := count_eq (t := t) (i := i) (a := t[k]) (by omega) (by assumption)
             (refine hR.out ⟨i + 1, by omega⟩ _ _ _ (by simp only; omega) ?_; (refine wk_a ?_; simp only [MAB, seval]; refine ⟨rfl, rfl, (by decide), ?_, ?_⟩; all_goals (first | (simp only [WKB, seval, e, Nat.reduceLT, Nat.zero_lt_succ]; done) | (simp [WKB, seval, e]; done) | simp only [WKB, seval]))))
          | (have e := count_ne (t := t) (i := i) (a := t[k]) (by omega) (by assumption)
             (refine hR.out ⟨i + 1, by omega⟩ _ _ _ (by simp only; omega) ?_; (refine wk_a ?_; simp only [MAB, seval]; refine ⟨rfl, rfl, (by decide), ?_, ?_⟩; all_goals (first | (simp only [WKB, seval, e, Nat.reduceLT, Nat.zero_lt_succ]; done) | (simp [WKB, seval, e]; done) | simp only [WKB, seval]))))
          | (obtain rfl : i = t.length := by omega
             simp only [List.take_length] at *
             first
               | (have e := most_yes (val := val) hlt (by omega)
                  (refine hR.out ⟨k + 1, by omega⟩ _ _ _ (by simp only; omega) ?_; (refine wk_a ?_; simp only [MAB, seval]; refine ⟨rfl, rfl, (by decide), ?_, ?_⟩; all_goals (first | (simp only [WKB, seval, e, Nat.reduceLT, Nat.zero_lt_succ]; done) | (simp [WKB, seval, e]; done) | simp only [WKB, seval]))))
               | (have e := most_no (val := val) hlt (by omega)
                  (refine hR.out ⟨k + 1, by omega⟩ _ _ _ (by simp only; omega) ?_; (refine wk_a ?_; simp only [MAB, seval]; refine ⟨rfl, rfl, (by decide), ?_, ?_⟩; all_goals (first | (simp only [WKB, seval, e, Nat.reduceLT, Nat.zero_lt_succ]; done) | (simp [WKB, seval, e]; done) | simp only [WKB, seval])))))

end Go.Proofs.YtcbnfkbnbdbfoaaGreat
