/-
  Contracts: signed numbers read, by both. No conditions of its own.
-/
import Derived.Test.YtcbnfkbnbdbfoaaGO
import Derived.Test.YtcbnfkbnbdbfoaaGR1
import Derived.Test.YtcbnfkbnbdbfoaaVR0
namespace Go.Proofs.Ytcbnfkbnbdbfoaa
set_option linter.unusedSimpArgs false
set_option linter.unusedVariables false
set_option linter.unusedSimpArgs false
set_option linter.unusedVariables false
set_option linter.defProp false
set_option maxRecDepth 20000
open Go.RowKit
attribute [local irreducible] lexD

set_option maxHeartbeats 4000000 in
theorem implGetZig_k (b : List UInt8) (p : Nat) (hb : b.length ≤ 1099511627776) (hp : p ≤ 1099511627776) : FnOK Try.prog 152 ⟨1, [(0, some (.ro (b.map bytK)))], [.c (.sl 0 1 0 b.length), .c (.v (.int .i64 (p : Int)))],
    .tup [.inl (.v (.int .i64 (uz (gvN b p)))), .inl (.v (.int .i64 (gvP b p))), .inl (.v (.bool (gvK b p)))], [], 1⟩ := by
  have c := implGetVar_k b p hb hp
  have hm := gvN_max b p
  cases hk : gvO b p with
  | none =>
    obtain ⟨g1, g2, g3⟩ := gv_none hk
    rw [g1, g2, g3] at c
    rw [g1, g2, g3, uz_zero]
    refine fnOK_of true mixed Try.func152 rfl (by rfl) (by rfl) ?_
    have hres := congrArg Array.toList Try.results152
    simp only [Try.ntmps152, BGB, seval]
    (have gx := And.intro (@List.length_map.{0,0}) (And.intro @List.getElem_map.{0,0} @bytK.eq_1); have q1 := c; refine go ?_; (repeat' (first | exact Ef.mk | refine Lf.mk ?_ ?_ | refine fun (K : KT) hK hE hT => ?_ | refine fun (KS : Eff → Prop) hKS => ?_ | refine fun (D : List Keys → Prop) hD => ?_ | refine fun (hg : (_ : Prop)) => ?_ | fail)); all_goals (first | (refine Wr.mk ?_; (try clear gx); (try clear q1); repeat (first | (clear hK hE hT; clear K) | (clear hR hE hT; clear K))) | assumption | skip))
    all_goals (refine post_a hres (.inl rfl) ?_; simp only [RSB, ENB, seval, tiAll, true_and]; simp only [MAB, seval]; refine ⟨rfl, rfl, ?_, ?_, ?_⟩ <;> (first | rfl | (simp [WKB, Nat.add_comm, true_and]; done) | (simp only [WKB, seval])))
  | some x =>
    obtain ⟨m, k⟩ := x
    obtain ⟨g1, g2, g3⟩ := gv_some hk
    rw [g1] at hm
    rw [g1, g2, g3] at c
    rw [g1, g2, g3]
    rcases Nat.mod_two_eq_zero_or_one m with h | h
    · have e : uz (m : Int) = (m : Int) / 2 := by unfold uz; rw [if_pos (by omega)]
      rw [e]
      refine fnOK_of true mixed Try.func152 rfl (by rfl) (by rfl) ?_
      have hres := congrArg Array.toList Try.results152
      simp only [Try.ntmps152, BGB, seval]
      (have gx := And.intro (@List.length_map.{0,0}) (And.intro @List.getElem_map.{0,0} @bytK.eq_1); have q1 := c; refine go ?_; (repeat' (first | exact Ef.mk | refine Lf.mk ?_ ?_ | refine fun (K : KT) hK hE hT => ?_ | refine fun (KS : Eff → Prop) hKS => ?_ | refine fun (D : List Keys → Prop) hD => ?_ | refine fun (hg : (_ : Prop)) => ?_ | fail)); all_goals (first | (refine Wr.mk ?_; (try clear gx); (try clear q1); repeat (first | (clear hK hE hT; clear K) | (clear hR hE hT; clear K))) | assumption | skip))
      all_goals first | (exfalso; omega) | (refine post_a hres (.inl rfl) ?_; simp only [RSB, ENB, seval, tiAll, true_and]; simp only [MAB, seval]; refine ⟨rfl, rfl, ?_, ?_, ?_⟩ <;> (first | rfl | (simp [WKB, Nat.add_comm, true_and]; done) | (simp only [WKB, seval])))
    · have e : uz (m : Int) = -((m : Int) / 2) - 1 := by unfold uz; rw [if_neg (by omega)]
      rw [e]
      refine fnOK_of true mixed Try.func152 rfl (by rfl) (by rfl) ?_
      have hres := congrArg Array.toList Try.results152
      simp only [Try.ntmps152, BGB, seval]
      (have gx := And.intro (@List.length_map.{0,0}) (And.intro @List.getElem_map.{0,0} @bytK.eq_1); have q1 := c; refine go ?_; (repeat' (first | exact Ef.mk | refine Lf.mk ?_ ?_ | refine fun (K : KT) hK hE hT => ?_ | refine fun (KS : Eff → Prop) hKS => ?_ | refine fun (D : List Keys → Prop) hD => ?_ | refine fun (hg : (_ : Prop)) => ?_ | fail)); all_goals (first | (refine Wr.mk ?_; (try clear gx); (try clear q1); repeat (first | (clear hK hE hT; clear K) | (clear hR hE hT; clear K))) | assumption | skip))
      all_goals first | (exfalso; omega) | (refine post_a hres (.inl rfl) ?_; simp only [RSB, ENB, seval, tiAll, true_and]; simp only [MAB, seval]; refine ⟨rfl, rfl, ?_, ?_, ?_⟩ <;> (first | rfl | (simp [WKB, Nat.add_comm, true_and]; done) | (simp only [WKB, seval])))

set_option maxHeartbeats 4000000 in
theorem specGetZig_k (b : List UInt8) (p : Nat) (hb : b.length ≤ 1099511627776) (hp : p ≤ 1099511627776) : FnOK Try.prog 143 ⟨1, [(0, some (.ro (b.map bytK)))], [.c (.sl 0 1 0 b.length), .c (.v (.int .i64 (p : Int)))],
    .tup [.inl (.v (.int .i64 (uz (gvN b p)))), .inl (.v (.int .i64 (gvP b p))), .inl (.v (.bool (gvK b p)))], [], 1⟩ := by
  have c := specGetVar_k b p hb hp
  have hm := gvN_max b p
  cases hk : gvO b p with
  | none =>
    obtain ⟨g1, g2, g3⟩ := gv_none hk
    rw [g1, g2, g3] at c
    rw [g1, g2, g3, uz_zero]
    refine fnOK_of true mixed Try.func143 rfl (by rfl) (by rfl) ?_
    have hres := congrArg Array.toList Try.results143
    simp only [Try.ntmps143, BGB, seval]
    (have gx := And.intro (@List.length_map.{0,0}) (And.intro @List.getElem_map.{0,0} @bytK.eq_1); have q1 := c; refine go ?_; (repeat' (first | exact Ef.mk | refine Lf.mk ?_ ?_ | refine fun (K : KT) hK hE hT => ?_ | refine fun (KS : Eff → Prop) hKS => ?_ | refine fun (D : List Keys → Prop) hD => ?_ | refine fun (hg : (_ : Prop)) => ?_ | fail)); all_goals (first | (refine Wr.mk ?_; (try clear gx); (try clear q1); repeat (first | (clear hK hE hT; clear K) | (clear hR hE hT; clear K))) | assumption | skip))
    all_goals (refine post_a hres (.inl rfl) ?_; simp only [RSB, ENB, seval, tiAll, true_and]; simp only [MAB, seval]; refine ⟨rfl, rfl, ?_, ?_, ?_⟩ <;> (first | rfl | (simp [WKB, Nat.add_comm, true_and]; done) | (simp only [WKB, seval])))
  | some x =>
    obtain ⟨m, k⟩ := x
    obtain ⟨g1, g2, g3⟩ := gv_some hk
    rw [g1] at hm
    rw [g1, g2, g3] at c
    rw [g1, g2, g3]
    rcases Nat.mod_two_eq_zero_or_one m with h | h
    · obtain ⟨u, hu⟩ : ∃ u, u = uz (m : Int) := ⟨_, rfl⟩
      have e : u = (m : Int) / 2 := by rw [hu]; unfold uz; rw [if_pos (by omega)]
      have w5 : (m : Int).tdiv 2 = u := by rw [e]; exact Int.tdiv_eq_ediv_of_nonneg (by omega)
      have w6 : IntKind.i64.wrap u = u := IntWalk.i64_in _ (by omega)
      have w7 : (m : Int).tmod 2 = 0 := by rw [Int.tmod_eq_emod_of_nonneg (by omega)]; omega
      rw [← hu]
      clear hu e
      refine fnOK_of false mixed Try.func143 rfl (by rfl) (by rfl) ?_
      have hres := congrArg Array.toList Try.results143
      simp only [Try.ntmps143, BGB, seval]
      (have gx := And.intro (@List.length_map.{0,0}) (And.intro (@List.getElem_map.{0,0}) (And.intro (@bytK.eq_1) (And.intro (@w5) (And.intro @w6 @w7)))); have q1 := c; refine go ?_; (repeat' (first | exact Ef.mk | refine Lf.mk ?_ ?_ | refine fun (K : KT) hK hE hT => ?_ | refine fun (KS : Eff → Prop) hKS => ?_ | refine fun (D : List Keys → Prop) hD => ?_ | refine fun (hg : (_ : Prop)) => ?_ | fail)); all_goals (first | (refine Wr.mk ?_; (try clear gx); (try clear q1); repeat (first | (clear hK hE hT; clear K) | (clear hR hE hT; clear K))) | assumption | skip))
      all_goals first | (exfalso; omega) | (refine post_a hres (.inl rfl) ?_; simp only [RSB, ENB, seval, tiAll, true_and]; simp only [MAB, seval]; refine ⟨rfl, rfl, ?_, ?_, ?_⟩ <;> (first | rfl | (simp [WKB, Nat.add_comm, true_and]; done) | (simp only [WKB, seval])))
    · obtain ⟨u, hu⟩ : ∃ u, u = uz (m : Int) := ⟨_, rfl⟩
      obtain ⟨A, hA⟩ : ∃ A, A = (m : Int) + 1 := ⟨_, rfl⟩
      obtain ⟨B, hB⟩ : ∃ B, B = -A := ⟨_, rfl⟩
      have e : u = -(A / 2) := by rw [hu]; unfold uz; rw [if_neg (by omega)]; omega
      have w1 : IntKind.i64.wrap ((m : Int) + 1) = A := by rw [hA]; exact IntWalk.i64_in _ (by omega)
      have w2 : 0 - A = B := by omega
      have hAb : 0 ≤ A ∧ A ≤ 281474976710656 := by omega
      have hBb : -281474976710656 ≤ B ∧ B ≤ 0 := by omega
      have w3 : B.tdiv 2 = u := by rw [e, hB, Int.neg_tdiv, Int.tdiv_eq_ediv_of_nonneg (by omega)]
      have w6 : IntKind.i64.wrap u = u := IntWalk.i64_in _ (by omega)
      have w7 : (m : Int).tmod 2 = 1 := by rw [Int.tmod_eq_emod_of_nonneg (by omega)]; omega
      rw [← hu]
      clear hu e hA hB
      refine fnOK_of false mixed Try.func143 rfl (by rfl) (by rfl) ?_
      have hres := congrArg Array.toList Try.results143
      simp only [Try.ntmps143, BGB, seval]
      (have gx := And.intro (@List.length_map.{0,0}) (And.intro (@List.getElem_map.{0,0}) (And.intro (@bytK.eq_1) (And.intro (@w1) (And.intro (@w2) (And.intro (@w3) (And.intro @w6 @w7)))))); have q1 := c; refine go ?_; (repeat' (first | exact Ef.mk | refine Lf.mk ?_ ?_ | refine fun (K : KT) hK hE hT => ?_ | refine fun (KS : Eff → Prop) hKS => ?_ | refine fun (D : List Keys → Prop) hD => ?_ | refine fun (hg : (_ : Prop)) => ?_ | fail)); all_goals (first | (refine Wr.mk ?_; (try clear gx); (try clear q1); repeat (first | (clear hK hE hT; clear K) | (clear hR hE hT; clear K))) | assumption | skip))
      all_goals first | (exfalso; omega) | (refine post_a hres (.inl rfl) ?_; simp only [RSB, ENB, seval, tiAll, true_and]; simp only [MAB, seval]; refine ⟨rfl, rfl, ?_, ?_, ?_⟩ <;> (first | rfl | (simp [WKB, Nat.add_comm, true_and]; done) | (simp only [WKB, seval])))

set_option maxHeartbeats 4000000 in
theorem zigW_k (b : List UInt8) (s : RdS) (hb : b.length ≤ 1048576) (hp : s.p ≤ b.length) : FnOK Try.prog 121 ⟨2, [(0, some (.row 5 (b.map bytK))), (1, some (.box 119 [.sl 0 1 0 b.length, .v (.int .i64 ((s).p : Int)), .v (.bool (s).ok)]))], [.c (.ptr 1 0 0)], .c (.v (.int .i64 (uz (gvN b s.p)))), [(0, some (.row 5 (b.map bytK))), (1, some (.box 119 [.sl 0 1 0 b.length, .v (.int .i64 ((numS b s).p : Int)), .v (.bool (numS b s).ok)]))], 2⟩ := by
  have c := implGetZig_k b s.p (by omega) (by omega)
  cases hk : gvK b s.p with
  | false =>
    have e : numS b s = ⟨s.p, false⟩ := by unfold numS; rw [hk]; rfl
    have e0 : gvN b s.p = 0 := by
      have : gvO b s.p = none := by unfold gvK at hk; cases h : gvO b s.p <;> simp_all
      exact (gv_none this).1
    rw [hk, e0, uz_zero] at c
    rw [e, e0, uz_zero]
    refine fnOK_of true mixed Try.func121 rfl (by rfl) (by rfl) ?_
    have hres := congrArg Array.toList Try.results121
    simp only [Try.ntmps121, BGB, seval]
    (have gx := And.intro (@List.length_map.{0,0}) (And.intro @List.getElem_map.{0,0} @bytK.eq_1); have q1 := c; refine go ?_; (repeat' (first | exact Ef.mk | refine Lf.mk ?_ ?_ | refine fun (K : KT) hK hE hT => ?_ | refine fun (KS : Eff → Prop) hKS => ?_ | refine fun (D : List Keys → Prop) hD => ?_ | refine fun (hg : (_ : Prop)) => ?_ | fail)); all_goals (first | (refine Wr.mk ?_; (try clear gx); (try clear q1); repeat (first | (clear hK hE hT; clear K) | (clear hR hE hT; clear K))) | assumption | skip))
    all_goals (refine post_a hres (.inl rfl) ?_; simp only [RSB, ENB, seval, tiAll, true_and]; simp only [MAB, seval]; refine ⟨rfl, rfl, ?_, ?_, ?_⟩ <;> (first | rfl | (simp [WKB, Nat.add_comm, true_and]; done) | (simp only [WKB, seval])))
  | true =>
    obtain ⟨n, k, _, e1, e2, hle, _⟩ := gv_facts hk
    have e : numS b s = ⟨s.p + k, s.ok⟩ := by unfold numS; rw [hk, e2]; rfl
    rw [hk, e2] at c
    rw [e]
    refine fnOK_of true mixed Try.func121 rfl (by rfl) (by rfl) ?_
    have hres := congrArg Array.toList Try.results121
    simp only [Try.ntmps121, BGB, seval]
    (have gx := And.intro (@List.length_map.{0,0}) (And.intro @List.getElem_map.{0,0} @bytK.eq_1); have q1 := c; refine go ?_; (repeat' (first | exact Ef.mk | refine Lf.mk ?_ ?_ | refine fun (K : KT) hK hE hT => ?_ | refine fun (KS : Eff → Prop) hKS => ?_ | refine fun (D : List Keys → Prop) hD => ?_ | refine fun (hg : (_ : Prop)) => ?_ | fail)); all_goals (first | (refine Wr.mk ?_; (try clear gx); (try clear q1); repeat (first | (clear hK hE hT; clear K) | (clear hR hE hT; clear K))) | assumption | skip))
    all_goals (refine post_a hres (.inl rfl) ?_; simp only [RSB, ENB, seval, tiAll, true_and]; simp only [MAB, seval]; refine ⟨rfl, rfl, ?_, ?_, ?_⟩ <;> (first | rfl | (simp [WKB, Nat.add_comm, true_and]; done) | (simp only [WKB, seval])))

set_option maxHeartbeats 4000000 in
theorem zigS_k (b : List UInt8) (s : RdS) (hb : b.length ≤ 1048576) (hp : s.p ≤ b.length) : FnOK Try.prog 115 ⟨2, [(0, some (.row 5 (b.map bytK))), (1, some (.box 113 [.sl 0 1 0 b.length, .v (.int .i64 ((s).p : Int)), .v (.bool (!(s).ok))]))], [.c (.ptr 1 0 0)], .c (.v (.int .i64 (uz (varN b s)))),
    [(0, some (.row 5 (b.map bytK))), (1, some (.box 113 [.sl 0 1 0 b.length, .v (.int .i64 ((varS b s).p : Int)), .v (.bool (!(varS b s).ok))]))], 2⟩ := by
  have c := specGetZig_k b s.p (by omega) (by omega)
  cases hk : gvK b s.p with
  | false =>
    have e : varS b s = ⟨s.p, false⟩ := by unfold varS; rw [hk]; rfl
    have e0 : varN b s = 0 := by unfold varN; rw [hk]; rfl
    rw [hk] at c
    rw [e, e0, uz_zero]
    refine fnOK_of true mixed Try.func115 rfl (by rfl) (by rfl) ?_
    have hres := congrArg Array.toList Try.results115
    simp only [Try.ntmps115, BGB, seval]
    (have gx := And.intro (@List.length_map.{0,0}) (And.intro @List.getElem_map.{0,0} @bytK.eq_1); have q1 := c; refine go ?_; (repeat' (first | exact Ef.mk | refine Lf.mk ?_ ?_ | refine fun (K : KT) hK hE hT => ?_ | refine fun (KS : Eff → Prop) hKS => ?_ | refine fun (D : List Keys → Prop) hD => ?_ | refine fun (hg : (_ : Prop)) => ?_ | fail)); all_goals (first | (refine Wr.mk ?_; (try clear gx); (try clear q1); repeat (first | (clear hK hE hT; clear K) | (clear hR hE hT; clear K))) | assumption | skip))
    all_goals (refine post_a hres (.inl rfl) ?_; simp only [RSB, ENB, seval, tiAll, true_and]; simp only [MAB, seval]; refine ⟨rfl, rfl, ?_, ?_, ?_⟩ <;> (first | rfl | (simp [WKB, Nat.add_comm, true_and]; done) | (simp only [WKB, seval])))
  | true =>
    obtain ⟨n, k, _, e1, e2, hle, _⟩ := gv_facts hk
    rw [hk, e2] at c
    obtain ⟨sp, so⟩ := s
    dsimp only at hk e1 e2 hle c ⊢
    cases so with
    | true =>
      have e : varS b ⟨sp, true⟩ = ⟨sp + k, true⟩ := by unfold varS; rw [hk, e2]; rfl
      have e0 : varN b ⟨sp, true⟩ = gvN b sp := by unfold varN; rw [hk]; rfl
      rw [e, e0]
      refine fnOK_of true mixed Try.func115 rfl (by rfl) (by rfl) ?_
      have hres := congrArg Array.toList Try.results115
      simp only [Try.ntmps115, BGB, seval]
      (have gx := And.intro (@List.length_map.{0,0}) (And.intro (@List.getElem_map.{0,0}) (And.intro @bytK.eq_1 Bool.not_true)); have q1 := c; refine go ?_; (repeat' (first | exact Ef.mk | refine Lf.mk ?_ ?_ | refine fun (K : KT) hK hE hT => ?_ | refine fun (KS : Eff → Prop) hKS => ?_ | refine fun (D : List Keys → Prop) hD => ?_ | refine fun (hg : (_ : Prop)) => ?_ | fail)); all_goals (first | (refine Wr.mk ?_; (try clear gx); (try clear q1); repeat (first | (clear hK hE hT; clear K) | (clear hR hE hT; clear K))) | assumption | skip))
      all_goals (refine post_a hres (.inl rfl) ?_; simp only [RSB, ENB, seval, tiAll, true_and]; simp only [MAB, seval]; refine ⟨rfl, rfl, ?_, ?_, ?_⟩ <;> (first | rfl | (simp [WKB, Nat.add_comm, true_and]; done) | (simp only [WKB, seval])))
    | false =>
      have e : varS b ⟨sp, false⟩ = ⟨sp, false⟩ := by unfold varS; rw [hk]; rfl
      have e0 : varN b ⟨sp, false⟩ = 0 := by unfold varN; rw [hk]; rfl
      rw [e, e0, uz_zero]
      refine fnOK_of true mixed Try.func115 rfl (by rfl) (by rfl) ?_
      have hres := congrArg Array.toList Try.results115
      simp only [Try.ntmps115, BGB, seval]
      (have gx := And.intro (@List.length_map.{0,0}) (And.intro (@List.getElem_map.{0,0}) (And.intro @bytK.eq_1 Bool.not_false)); have q1 := c; refine go ?_; (repeat' (first | exact Ef.mk | refine Lf.mk ?_ ?_ | refine fun (K : KT) hK hE hT => ?_ | refine fun (KS : Eff → Prop) hKS => ?_ | refine fun (D : List Keys → Prop) hD => ?_ | refine fun (hg : (_ : Prop)) => ?_ | fail)); all_goals (first | (refine Wr.mk ?_; (try clear gx); (try clear q1); repeat (first | (clear hK hE hT; clear K) | (clear hR hE hT; clear K))) | assumption | skip))
      all_goals (refine post_a hres (.inl rfl) ?_; simp only [RSB, ENB, seval, tiAll, true_and]; simp only [MAB, seval]; refine ⟨rfl, rfl, ?_, ?_, ?_⟩ <;> (first | rfl | (simp [WKB, Nat.add_comm, true_and]; done) | (simp only [WKB, seval])))

end Go.Proofs.Ytcbnfkbnbdbfoaa
