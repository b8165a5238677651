/-
  Contracts: a number is read, by both. No conditions of its own.
-/
import Derived.Test.YtcbnfkbnbdbfoaaGO
import Derived.Test.YtcbnfkbnbdbfoaaVR1
namespace Go.Proofs.Ytcbnfkbnbdbfoaa
set_option linter.unusedSimpArgs false
set_option linter.unusedVariables false
set_option linter.unusedSimpArgs false
set_option linter.unusedVariables false
set_option linter.defProp false
set_option maxRecDepth 20000
open Go.RowKit
attribute [local irreducible] lexD

set_option maxHeartbeats 4000000 in
theorem numW_k (b : List UInt8) (s : RdS) (hb : b.length ≤ 1048576) (hp : s.p ≤ b.length) : FnOK Try.prog 83 ⟨2, [(0, some (.row 5 (b.map bytK))), (1, some (.box 119 [.sl 0 1 0 b.length, .v (.int .i64 ((s).p : Int)), .v (.bool (s).ok)]))], [.c (.ptr 1 0 0)], .c (.v (.int .i64 (gvN b s.p))), [(0, some (.row 5 (b.map bytK))), (1, some (.box 119 [.sl 0 1 0 b.length, .v (.int .i64 ((numS b s).p : Int)), .v (.bool (numS b s).ok)]))], 2⟩ := by
  have c := implGetVar_k b s.p (by omega) (by omega)
  cases hk : gvK b s.p with
  | false =>
    have e : numS b s = ⟨s.p, false⟩ := by unfold numS; rw [hk]; rfl
    have e0 : gvN b s.p = 0 := by
      have : gvO b s.p = none := by unfold gvK at hk; cases h : gvO b s.p <;> simp_all
      exact (gv_none this).1
    rw [hk] at c
    rw [e, e0]
    refine fnOK_of true mixed Try.func83 rfl (by rfl) (by rfl) ?_
    have hres := congrArg Array.toList Try.results83
    simp only [Try.ntmps83, BGB, seval]
    (have gx := And.intro (@List.length_map.{0,0}) (And.intro @List.getElem_map.{0,0} @bytK.eq_1); have q1 := c; refine go ?_; (repeat' (first | exact Ef.mk | refine Lf.mk ?_ ?_ | refine fun (K : KT) hK hE hT => ?_ | refine fun (KS : Eff → Prop) hKS => ?_ | refine fun (D : List Keys → Prop) hD => ?_ | refine fun (hg : (_ : Prop)) => ?_ | fail)); all_goals (first | (refine Wr.mk ?_; (try clear gx); (try clear q1); repeat (first | (clear hK hE hT; clear K) | (clear hR hE hT; clear K))) | assumption | skip))
    all_goals (refine post_a hres (.inl rfl) ?_; simp only [RSB, ENB, seval, tiAll, true_and]; simp only [MAB, seval]; refine ⟨rfl, rfl, ?_, ?_, ?_⟩ <;> (first | rfl | (simp [WKB, Nat.add_comm, true_and]; done) | (simp only [WKB, seval])))
  | true =>
    obtain ⟨n, k, _, e1, e2, hle, _⟩ := gv_facts hk
    have e : numS b s = ⟨s.p + k, s.ok⟩ := by unfold numS; rw [hk, e2]; rfl
    rw [hk, e1, e2] at c
    rw [e, e1]
    refine fnOK_of true mixed Try.func83 rfl (by rfl) (by rfl) ?_
    have hres := congrArg Array.toList Try.results83
    simp only [Try.ntmps83, BGB, seval]
    (have gx := And.intro (@List.length_map.{0,0}) (And.intro @List.getElem_map.{0,0} @bytK.eq_1); have q1 := c; refine go ?_; (repeat' (first | exact Ef.mk | refine Lf.mk ?_ ?_ | refine fun (K : KT) hK hE hT => ?_ | refine fun (KS : Eff → Prop) hKS => ?_ | refine fun (D : List Keys → Prop) hD => ?_ | refine fun (hg : (_ : Prop)) => ?_ | fail)); all_goals (first | (refine Wr.mk ?_; (try clear gx); (try clear q1); repeat (first | (clear hK hE hT; clear K) | (clear hR hE hT; clear K))) | assumption | skip))
    all_goals (refine post_a hres (.inl rfl) ?_; simp only [RSB, ENB, seval, tiAll, true_and]; simp only [MAB, seval]; refine ⟨rfl, rfl, ?_, ?_, ?_⟩ <;> (first | rfl | (simp [WKB, Nat.add_comm, true_and]; done) | (simp only [WKB, seval])))


set_option maxHeartbeats 4000000 in
theorem varW_k (b : List UInt8) (s : RdS) (hb : b.length ≤ 1048576) (hp : s.p ≤ b.length) : FnOK Try.prog 79 ⟨2, [(0, some (.row 5 (b.map bytK))), (1, some (.box 113 [.sl 0 1 0 b.length, .v (.int .i64 ((s).p : Int)), .v (.bool (!(s).ok))]))], [.c (.ptr 1 0 0)], .c (.v (.int .i64 (varN b s))),
    [(0, some (.row 5 (b.map bytK))), (1, some (.box 113 [.sl 0 1 0 b.length, .v (.int .i64 ((varS b s).p : Int)), .v (.bool (!(varS b s).ok))]))], 2⟩ := by
  have c := specGetVar_k b s.p (by omega) (by omega)
  cases hk : gvK b s.p with
  | false =>
    have e : varS b s = ⟨s.p, false⟩ := by unfold varS; rw [hk]; rfl
    have e0 : varN b s = 0 := by unfold varN; rw [hk]; rfl
    rw [hk] at c
    rw [e, e0]
    refine fnOK_of true mixed Try.func79 rfl (by rfl) (by rfl) ?_
    have hres := congrArg Array.toList Try.results79
    simp only [Try.ntmps79, BGB, seval]
    (have gx := And.intro (@List.length_map.{0,0}) (And.intro @List.getElem_map.{0,0} @bytK.eq_1); have q1 := c; refine go ?_; (repeat' (first | exact Ef.mk | refine Lf.mk ?_ ?_ | refine fun (K : KT) hK hE hT => ?_ | refine fun (KS : Eff → Prop) hKS => ?_ | refine fun (D : List Keys → Prop) hD => ?_ | refine fun (hg : (_ : Prop)) => ?_ | fail)); all_goals (first | (refine Wr.mk ?_; (try clear gx); (try clear q1); repeat (first | (clear hK hE hT; clear K) | (clear hR hE hT; clear K))) | assumption | skip))
    all_goals (refine post_a hres (.inl rfl) ?_; simp only [RSB, ENB, seval, tiAll, true_and]; simp only [MAB, seval]; refine ⟨rfl, rfl, ?_, ?_, ?_⟩ <;> (first | rfl | (simp [WKB, Nat.add_comm, true_and]; done) | (simp only [WKB, seval])))
  | true =>
    obtain ⟨n, k, _, e1, e2, hle, _⟩ := gv_facts hk
    rw [hk, e1, e2] at c
    obtain ⟨sp, so⟩ := s
    dsimp only at hk e1 e2 hle c ⊢
    cases so with
    | true =>
      have e : varS b ⟨sp, true⟩ = ⟨sp + k, true⟩ := by unfold varS; rw [hk, e2]; rfl
      have e0 : varN b ⟨sp, true⟩ = n := by unfold varN; rw [hk, e1]; rfl
      rw [e, e0]
      refine fnOK_of true mixed Try.func79 rfl (by rfl) (by rfl) ?_
      have hres := congrArg Array.toList Try.results79
      simp only [Try.ntmps79, BGB, seval]
      (have gx := And.intro (@List.length_map.{0,0}) (And.intro (@List.getElem_map.{0,0}) (And.intro @bytK.eq_1 Bool.not_true)); have q1 := c; refine go ?_; (repeat' (first | exact Ef.mk | refine Lf.mk ?_ ?_ | refine fun (K : KT) hK hE hT => ?_ | refine fun (KS : Eff → Prop) hKS => ?_ | refine fun (D : List Keys → Prop) hD => ?_ | refine fun (hg : (_ : Prop)) => ?_ | fail)); all_goals (first | (refine Wr.mk ?_; (try clear gx); (try clear q1); repeat (first | (clear hK hE hT; clear K) | (clear hR hE hT; clear K))) | assumption | skip))
      all_goals (refine post_a hres (.inl rfl) ?_; simp only [RSB, ENB, seval, tiAll, true_and]; simp only [MAB, seval]; refine ⟨rfl, rfl, ?_, ?_, ?_⟩ <;> (first | rfl | (simp [WKB, Nat.add_comm, true_and]; done) | (simp only [WKB, seval])))
    | false =>
      have e : varS b ⟨sp, false⟩ = ⟨sp, false⟩ := by unfold varS; rw [hk]; rfl
      have e0 : varN b ⟨sp, false⟩ = 0 := by unfold varN; rw [hk]; rfl
      rw [e, e0]
      refine fnOK_of true mixed Try.func79 rfl (by rfl) (by rfl) ?_
      have hres := congrArg Array.toList Try.results79
      simp only [Try.ntmps79, BGB, seval]
      (have gx := And.intro (@List.length_map.{0,0}) (And.intro (@List.getElem_map.{0,0}) (And.intro @bytK.eq_1 Bool.not_false)); have q1 := c; refine go ?_; (repeat' (first | exact Ef.mk | refine Lf.mk ?_ ?_ | refine fun (K : KT) hK hE hT => ?_ | refine fun (KS : Eff → Prop) hKS => ?_ | refine fun (D : List Keys → Prop) hD => ?_ | refine fun (hg : (_ : Prop)) => ?_ | fail)); all_goals (first | (refine Wr.mk ?_; (try clear gx); (try clear q1); repeat (first | (clear hK hE hT; clear K) | (clear hR hE hT; clear K))) | assumption | skip))
      all_goals (refine post_a hres (.inl rfl) ?_; simp only [RSB, ENB, seval, tiAll, true_and]; simp only [MAB, seval]; refine ⟨rfl, rfl, ?_, ?_, ?_⟩ <;> (first | rfl | (simp [WKB, Nat.add_comm, true_and]; done) | (simp only [WKB, seval])))


end Go.Proofs.Ytcbnfkbnbdbfoaa
