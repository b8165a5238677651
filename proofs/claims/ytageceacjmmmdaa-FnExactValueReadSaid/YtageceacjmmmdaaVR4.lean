/-
  Contracts: a file of values is read by the reference. No conditions of its own.
-/
import Derived.Test.YtageceacjmmmdaaGO
import Derived.Test.YtageceacjmmmdaaVR2
import Derived.Test.YtageceacjmmmdaaF8
namespace Go.Proofs.Ytageceacjmmmdaa
set_option linter.unusedSimpArgs false
set_option linter.unusedVariables false
set_option linter.unusedSimpArgs false
set_option linter.unusedVariables false
set_option linter.defProp false
set_option maxRecDepth 20000
open Go.RowKit
attribute [local irreducible] lexD


set_option maxHeartbeats 4000000 in
theorem varW_k (b : List UInt8) (s : RdS) (hb : b.length ≤ 1048576) (hp : s.p ≤ b.length) : FnOK Try.prog 111 ⟨2, [(0, some (.row 5 (b.map bytK))), (1, some (.box 133 [.sl 0 1 0 b.length, .v (.int .i64 ((s).p : Int)), .v (.bool (!(s).ok))]))], [.c (.ptr 1 0 0)], .c (.v (.int .i64 (varN b s))),
    [(0, some (.row 5 (b.map bytK))), (1, some (.box 133 [.sl 0 1 0 b.length, .v (.int .i64 ((varS b s).p : Int)), .v (.bool (!(varS b s).ok))]))], 2⟩ := by
  have c := specGetVar_k b s.p (by omega) (by omega)
  cases hk : gvK b s.p with
  | false =>
    have e : varS b s = ⟨s.p, false⟩ := by unfold varS; rw [hk]; rfl
    have e0 : varN b s = 0 := by unfold varN; rw [hk]; rfl
    rw [hk] at c
    rw [e, e0]
    refine fnOK_of true mixed Try.func111 rfl (by rfl) (by rfl) ?_
    have hres := congrArg Array.toList Try.results111
    simp only [Try.ntmps111, BGB, seval]
    (have gx := And.intro (@List.length_map.{0,0}) (And.intro @List.getElem_map.{0,0} @bytK.eq_1); have q1 := c; refine go ?_; (repeat' (first | exact Ef.mk | refine Lf.mk ?_ ?_ | refine fun (K : KT) hK hE hT => ?_ | refine fun (KS : Eff → Prop) hKS => ?_ | refine fun (D : List Keys → Prop) hD => ?_ | refine fun (hg : (_ : Prop)) => ?_ | fail)); all_goals (first | (refine Wr.mk ?_; (try clear gx); (try clear q1); repeat (first | (clear hK hE hT; clear K) | (clear hR hE hT; clear K))) | assumption | skip))
    all_goals (refine post_a hres (.inl rfl) ?_; simp only [RSB, ENB, seval, tiAll, true_and]; simp only [MAB, seval]; refine ⟨rfl, rfl, ?_, ?_, ?_⟩ <;> (first | rfl | (simp [WKB, Nat.add_comm, true_and]; done) | (simp only [WKB, seval])))
  | true =>
    obtain ⟨n, k, _, e1, e2, hle, _⟩ := gv_facts hk
    rw [hk, e1, e2] at c
    obtain ⟨sp, so⟩ := s
    dsimp only at hk e1 e2 hle c ⊢
    cases so with
    | true =>
      have e : varS b ⟨sp, true⟩ = ⟨sp + k, true⟩ := by unfold varS; rw [hk, e2]; rfl
      have e0 : varN b ⟨sp, true⟩ = n := by unfold varN; rw [hk, e1]; rfl
      rw [e, e0]
      refine fnOK_of true mixed Try.func111 rfl (by rfl) (by rfl) ?_
      have hres := congrArg Array.toList Try.results111
      simp only [Try.ntmps111, BGB, seval]
      (have gx := And.intro (@List.length_map.{0,0}) (And.intro (@List.getElem_map.{0,0}) (And.intro @bytK.eq_1 Bool.not_true)); have q1 := c; refine go ?_; (repeat' (first | exact Ef.mk | refine Lf.mk ?_ ?_ | refine fun (K : KT) hK hE hT => ?_ | refine fun (KS : Eff → Prop) hKS => ?_ | refine fun (D : List Keys → Prop) hD => ?_ | refine fun (hg : (_ : Prop)) => ?_ | fail)); all_goals (first | (refine Wr.mk ?_; (try clear gx); (try clear q1); repeat (first | (clear hK hE hT; clear K) | (clear hR hE hT; clear K))) | assumption | skip))
      all_goals (refine post_a hres (.inl rfl) ?_; simp only [RSB, ENB, seval, tiAll, true_and]; simp only [MAB, seval]; refine ⟨rfl, rfl, ?_, ?_, ?_⟩ <;> (first | rfl | (simp [WKB, Nat.add_comm, true_and]; done) | (simp only [WKB, seval])))
    | false =>
      have e : varS b ⟨sp, false⟩ = ⟨sp, false⟩ := by unfold varS; rw [hk]; rfl
      have e0 : varN b ⟨sp, false⟩ = 0 := by unfold varN; rw [hk]; rfl
      rw [e, e0]
      refine fnOK_of true mixed Try.func111 rfl (by rfl) (by rfl) ?_
      have hres := congrArg Array.toList Try.results111
      simp only [Try.ntmps111, BGB, seval]
      (have gx := And.intro (@List.length_map.{0,0}) (And.intro (@List.getElem_map.{0,0}) (And.intro @bytK.eq_1 Bool.not_false)); have q1 := c; refine go ?_; (repeat' (first | exact Ef.mk | refine Lf.mk ?_ ?_ | refine fun (K : KT) hK hE hT => ?_ | refine fun (KS : Eff → Prop) hKS => ?_ | refine fun (D : List Keys → Prop) hD => ?_ | refine fun (hg : (_ : Prop)) => ?_ | fail)); all_goals (first | (refine Wr.mk ?_; (try clear gx); (try clear q1); repeat (first | (clear hK hE hT; clear K) | (clear hR hE hT; clear K))) | assumption | skip))
      all_goals (refine post_a hres (.inl rfl) ?_; simp only [RSB, ENB, seval, tiAll, true_and]; simp only [MAB, seval]; refine ⟨rfl, rfl, ?_, ?_, ?_⟩ <;> (first | rfl | (simp [WKB, Nat.add_comm, true_and]; done) | (simp only [WKB, seval])))

set_option maxHeartbeats 8000000 in
theorem specListRead_k (b : List UInt8) (p : Nat) (hb : b.length ≤ 1048576) (hp : p ≤ b.length) : FnOK Try.prog 112 ⟨1, [(0, some (.ro (b.map bytK)))], [.c (.sl 0 1 0 b.length), .c (.v (.int .i64 (p : Int)))],
    .tup [.inl (.sl 1 1 0 (lrL b p).length), .inl (.v (.int .i64 ((lrP b p : Nat) : Int))), .inl (.v (.bool (lrB b p)))], [(1, some (.row 3 ((lrL b p).map intK)))], 2⟩ := by
  have c := specGetVar_k b p (by omega) (by omega)
  cases hg : gvO b p with
  | none =>
    obtain ⟨g1, g2, g3⟩ := gv_none hg
    have e0 : lrB b p = false := by unfold lrB lrO; rw [hg]; rfl
    obtain ⟨_, e1, e2⟩ := lr_none e0
    rw [g1, g2, g3] at c
    rw [e0, e1, e2]
    refine fnOK_of true mixed Try.func112 rfl (by rfl) (by rfl) ?_
    have hres := congrArg Array.toList Try.results112
    simp only [Try.ntmps112, BGB, seval]
    (have gx := And.intro (@List.length_map.{0,0}) (And.intro @List.getElem_map.{0,0} @bytK.eq_1); have q1 := c; refine go ?_; (repeat' (first | exact Ef.mk | refine Lf.mk ?_ ?_ | refine fun (K : KT) hK hE hT => ?_ | refine fun (KS : Eff → Prop) hKS => ?_ | refine fun (D : List Keys → Prop) hD => ?_ | refine fun (hg : (_ : Prop)) => ?_ | fail)); all_goals (first | (refine Wr.mk ?_; (try clear gx); (try clear q1); repeat (first | (clear hK hE hT; clear K) | (clear hR hE hT; clear K))) | assumption | skip))
    all_goals (refine post_a hres (.inl rfl) ?_; simp only [RSB, ENB, seval, tiAll, true_and]; simp only [MAB, seval]; refine ⟨rfl, rfl, ?_, ?_, ?_⟩ <;> (first | rfl | (simp [WKB, Nat.add_comm, true_and]; done) | (simp only [WKB, seval])))
  | some x =>
    obtain ⟨n, k⟩ := x
    obtain ⟨g1, g2, g3⟩ := gv_some hg
    obtain ⟨n', k', g4, _, _, g5, g6, _⟩ := gv_facts g3
    obtain ⟨rfl, rfl⟩ : n = n' ∧ k = k' := by rw [hg] at g4; simpa using g4
    rw [g1, g2, g3] at c
    by_cases hc : n ≤ 400 ∧ p + k + 6 * n ≤ b.length
    · have e : lrO b p = some ((List.range n).map fun i => ((gf b (p + k + 6 * i) 6 : Nat) : Int), p + k + 6 * n) := by unfold lrO; rw [hg]; exact if_pos hc
      have e0 : lrB b p = true := by unfold lrB; rw [e]; rfl
      have e1 : lrL b p = (List.range n).map fun i => ((gf b (p + k + 6 * i) 6 : Nat) : Int) := by unfold lrL; rw [e]; rfl
      have e2 : lrP b p = p + k + 6 * n := by unfold lrP; rw [e]; rfl
      have e3 : (lrL b p).length = n := by rw [e1]; simp
      rw [e0, e2, e3, e1]
      refine fnOK_of true mixed Try.func112 rfl (by rfl) (by rfl) ?_
      have hres := congrArg Array.toList Try.results112
      simp only [Try.ntmps112, BGB, seval]
      (have gx := And.intro (@List.length_map.{0,0}) (And.intro @List.getElem_map.{0,0} @bytK.eq_1); have q1 := c; refine go ?_; (repeat' (first | exact Ef.mk | refine Lf.mk ?_ ?_ | refine fun (K : KT) hK hE hT => ?_ | refine fun (KS : Eff → Prop) hKS => ?_ | refine fun (D : List Keys → Prop) hD => ?_ | refine fun (hg : (_ : Prop)) => ?_ | fail)); all_goals (first | (refine Wr.mk ?_; (try clear gx); (try clear q1); repeat (first | (clear hK hE hT; clear K) | (clear hR hE hT; clear K))) | assumption | skip))
      refine loop_v (X := {i : Nat // i ≤ n}) [36] (fun x => [(10, .c (.sl 1 1 0 x.1)), (8, .c (.v (.int .i64 ((p + k + 6 * x.1 : Nat) : Int)))), (11, .c (.v (.int .i64 ((x.1 : Nat) : Int))))]) (fun x => [(0, some (.ro (b.map bytK))), (1, some (.row 3 (((List.range x.1).map fun i => ((gf b (p + k + 6 * i) 6 : Nat) : Int)).map intK)))]) 2 (fun x => n - x.1) ⟨0, by omega⟩ ?_
      simp only [KPB, seval]
      refine ⟨?_, ?_⟩
      · (refine wk_a ?_; simp only [MAB, seval]; refine ⟨rfl, rfl, (by decide), ?_, ?_⟩; all_goals (first | (simp only [WKB, seval, List.range_zero, List.map_nil, Nat.mul_zero, Nat.add_zero, Nat.reduceLT, Nat.zero_lt_succ]; done) | (simp [WKB, seval, List.range_zero, List.map_nil, Nat.mul_zero, Nat.add_zero]; done) | simp only [WKB, seval]))
      · rintro ⟨i, hi⟩ K hR hE hT
        rcases Nat.lt_or_ge i n with hlt | hge
        case inr =>
          obtain rfl : i = n := by omega
          (have gx := And.intro (@List.length_map.{0,0}) (And.intro @List.getElem_map.{0,0} @bytK.eq_1); refine go ?_; (repeat' (first | exact Ef.mk | refine Lf.mk ?_ ?_ | refine fun (K : KT) hK hE hT => ?_ | refine fun (KS : Eff → Prop) hKS => ?_ | refine fun (D : List Keys → Prop) hD => ?_ | refine fun (hg : (_ : Prop)) => ?_ | fail)); all_goals (first | (refine Wr.mk ?_; (try clear gx); repeat (first | (clear hK hE hT; clear K) | (clear hR hE hT; clear K))) | assumption | skip))
          (refine post_a hres (.inl rfl) ?_; simp only [RSB, ENB, seval, tiAll, true_and]; simp only [MAB, seval]; refine ⟨rfl, rfl, ?_, ?_, ?_⟩ <;> (first | rfl | (simp [WKB, Nat.add_comm, true_and]; done) | (simp only [WKB, seval])))
        case inl =>
          have cf := specGetFix_k b (p + k + 6 * i) (by omega) (by omega) (by omega)
          have e4 : ((p + k + 6 * i : Nat) : Int) + 6 = ((p + k + 6 * (i + 1) : Nat) : Int) := by omega
          have e7 : (i : Int) + 1 = ((i + 1 : Nat) : Int) := by omega
          have e5 : ((List.range i).map fun i => ((gf b (p + k + 6 * i) 6 : Nat) : Int)).map intK ++ [[.v (.int .i64 ((gf b (p + k + 6 * i) 6 : Nat) : Int))]] = ((List.range (i + 1)).map fun i => ((gf b (p + k + 6 * i) 6 : Nat) : Int)).map intK := by
            rw [List.range_succ, List.map_append, List.map_append]; rfl
          have e6 : (List.range i).length = i := List.length_range
          (have gx := And.intro (@List.length_map.{0,0}) (And.intro (@List.getElem_map.{0,0}) (And.intro @bytK.eq_1 @e6)); have q1 := cf; refine go ?_; (repeat' (first | exact Ef.mk | refine Lf.mk ?_ ?_ | refine fun (K : KT) hK hE hT => ?_ | refine fun (KS : Eff → Prop) hKS => ?_ | refine fun (D : List Keys → Prop) hD => ?_ | refine fun (hg : (_ : Prop)) => ?_ | fail)); all_goals (first | (refine Wr.mk ?_; (try clear gx); (try clear q1); repeat (first | (clear hK hE hT; clear K) | (clear hR hE hT; clear K))) | assumption | skip))
          (refine hR.out ⟨i + 1, by omega⟩ _ _ _ (by simp only; omega) ?_; (refine wk_a ?_; simp only [MAB, seval]; refine ⟨rfl, rfl, (by decide), ?_, ?_⟩; all_goals (first | (simp only [WKB, seval, e4, e5, e7, Nat.reduceLT, Nat.zero_lt_succ]; done) | (simp [WKB, seval, e4, e5, e7]; done) | simp only [WKB, seval])))
    · have e0 : lrB b p = false := by unfold lrB lrO; rw [hg]; simp only; rw [if_neg hc]; rfl
      obtain ⟨_, e1, e2⟩ := lr_none e0
      rw [e0, e1, e2]
      refine fnOK_of true mixed Try.func112 rfl (by rfl) (by rfl) ?_
      have hres := congrArg Array.toList Try.results112
      simp only [Try.ntmps112, BGB, seval]
      (have gx := And.intro (@List.length_map.{0,0}) (And.intro @List.getElem_map.{0,0} @bytK.eq_1); have q1 := c; refine go ?_; (repeat' (first | exact Ef.mk | refine Lf.mk ?_ ?_ | refine fun (K : KT) hK hE hT => ?_ | refine fun (KS : Eff → Prop) hKS => ?_ | refine fun (D : List Keys → Prop) hD => ?_ | refine fun (hg : (_ : Prop)) => ?_ | fail)); all_goals (first | (refine Wr.mk ?_; (try clear gx); (try clear q1); repeat (first | (clear hK hE hT; clear K) | (clear hR hE hT; clear K))) | assumption | skip))
      all_goals first | exact (hc ⟨by omega, by omega⟩).elim | (refine post_a hres (.inl rfl) ?_; simp only [RSB, ENB, seval, tiAll, true_and]; simp only [MAB, seval]; refine ⟨rfl, rfl, ?_, ?_, ?_⟩ <;> (first | rfl | (simp [WKB, Nat.add_comm, true_and]; done) | (simp only [WKB, seval])))

end Go.Proofs.Ytageceacjmmmdaa
