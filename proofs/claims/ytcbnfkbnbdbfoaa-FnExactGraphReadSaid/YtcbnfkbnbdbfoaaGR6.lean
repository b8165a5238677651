/-
  Contract: a shard is read by the reference. No conditions of its own.
-/
import Derived.Test.YtcbnfkbnbdbfoaaGO
import Derived.Test.YtcbnfkbnbdbfoaaGR3
import Derived.Test.YtcbnfkbnbdbfoaaP4
import Derived.Test.YtcbnfkbnbdbfoaaF9
namespace Go.Proofs.Ytcbnfkbnbdbfoaa
set_option linter.unusedSimpArgs false
set_option linter.unusedVariables false
set_option linter.unusedSimpArgs false
set_option linter.unusedVariables false
set_option linter.defProp false
set_option maxRecDepth 20000
open Go.RowKit
attribute [local irreducible] lexD

theorem varN_mx (b : List UInt8) (s : RdS) : 0 ≤ varN b s ∧ varN b s ≤ 281474976710655 := by
  have := gvN_max b s.p
  unfold varN; split <;> omega
theorem zB_stepS {b : List UInt8} {z : SEdgeD} {s : RdS} (ho : s.ok = true) (hz : zB z s.p) (h : (egS b z s).2.ok = true) : zB (egS b z s).1 (egS b z s).2.p ∧ s.p + 4 ≤ (egS b z s).2.p := by
  rcases eg_both (b := b) (z := z) ho with ⟨_, a1⟩ | ⟨a1, a2, a3, _⟩
  · rw [a1] at h; cases h
  · rw [a1] at h ⊢
    exact ⟨zB_step ho hz h, a3⟩

noncomputable def shbR (s : ShardD) : List UInt8 := if pB (ShOk s) then shB s else []
theorem shbR_y {s : ShardD} (h : ShOk s) : shbR s = shB s := by unfold shbR; rw [pB_t h]; rfl
theorem shbR_n {s : ShardD} (h : ¬ ShOk s) : shbR s = [] := by unfold shbR; rw [pB_f h]; rfl

set_option maxHeartbeats 8000000 in
theorem specShardBytesE_k (s : ShardD) (h : (s.Edges).length ≤ 1048576) : FnOK Try.prog 116 ⟨1, [(0, some (.ro (s.Edges.map SEdgeD.k)))], [.agg [.v (.int .i64 s.Lo), .v (.int .i64 s.Hi), .sl 0 5 0 s.Edges.length]],
    .tup [.inl (.sl 1 1 0 (shbR s).length), .inl (.v (.bool (pB (ShOk s))))], [(1, some (.row 5 ((shbR s).map bytK)))], 2⟩ := by
  by_cases ho : ShOk s
  · rw [pB_t ho, shbR_y ho]
    exact specShardBytes_k s ho
  · have co := specShardOk_k s h
    rw [pB_f ho] at co
    rw [pB_f ho, shbR_n ho]
    refine fnOK_of true mixed Try.func116 rfl (by rfl) (by rfl) ?_
    have hres := congrArg Array.toList Try.results116
    simp only [Try.ntmps116, BGB, seval]
    (have gx := And.intro (@List.length_map.{0,0}) (And.intro (@List.getElem_map.{0,0}) (And.intro @bytK.eq_1 @List.length_map.{0,0})); have q1 := co; refine go ?_; (repeat' (first | exact Ef.mk | refine Lf.mk ?_ ?_ | refine fun (K : KT) hK hE hT => ?_ | refine fun (KS : Eff → Prop) hKS => ?_ | refine fun (D : List Keys → Prop) hD => ?_ | refine fun (hg : (_ : Prop)) => ?_ | fail)); all_goals (first | (refine Wr.mk ?_; (try clear gx); (try clear q1); repeat (first | (clear hK hE hT; clear K) | (clear hR hE hT; clear K))) | assumption | skip))
    all_goals (refine post_a hres (.inl rfl) ?_; simp only [RSB, ENB, seval, tiAll, true_and]; simp only [MAB, seval]; refine ⟨rfl, rfl, ?_, ?_, ?_⟩ <;> (first | rfl | (simp [WKB, Nat.add_comm, true_and]; done) | (simp only [WKB, seval])))

set_option maxHeartbeats 16000000 in
theorem specShardRead_k (b : List UInt8) (p0 : Nat) (hb : b.length ≤ 60000) (hp : p0 ≤ b.length) : FnOK Try.prog 80 ⟨1, [(0, some (.row 5 (b.map bytK)))], [.c (.sl 0 1 0 b.length), .c (.v (.int .i64 (p0 : Int)))],
    .tup [.inr [.v (.int .i64 (shD b p0).Lo), .v (.int .i64 (shD b p0).Hi), .sl 1 5 0 ((shD b p0).Edges).length], .inl (.v (.int .i64 ((shP b p0 : Nat) : Int))), .inl (.v (.bool (shK b p0)))], [(0, some (.row 5 (b.map bytK))), (1, some (.row 64 (((shD b p0).Edges).map SEdgeD.k)))], 2⟩ := by
  have law := sh_law hp
  have hN := fun h => sh_no (b := b) (p := p0) h
  have w0 : (⟨p0, true⟩ : RdS).p ≤ b.length := hp
  have w1 := varS_le (b := b) w0
  have w2 := varS_le w1
  have w3 := varS_le w2
  have c1 := varW_k b ⟨p0, true⟩ (by omega) hp
  have c2 := varW_k b _ (by omega) w1
  have c3 := varW_k b _ (by omega) w2
  have hlm := varN_mx b ⟨p0, true⟩
  have hnm := varN_mx b (varS b (varS b ⟨p0, true⟩))
  have hD : ssD b ⟨p0, true⟩ = ⟨varN b ⟨p0, true⟩, varN b (varS b ⟨p0, true⟩), (ssR b ⟨p0, true⟩).1⟩ := rfl
  have hRd : ssR b ⟨p0, true⟩ = shGoS b (ssN b ⟨p0, true⟩) [] ⟨0, varN b ⟨p0, true⟩, 0, 0, 0⟩ (varS b (varS b (varS b ⟨p0, true⟩))) := rfl
  have hn : varN b (varS b (varS b ⟨p0, true⟩)) = ((ssN b ⟨p0, true⟩ : Nat) : Int) := by unfold ssN; omega
  rw [hn] at c3 hnm
  rw [hD] at law
  clear hn hD
  obtain ⟨R, hR0⟩ : ∃ R, R = ssR b ⟨p0, true⟩ := ⟨_, rfl⟩
  rw [← hR0] at hRd
  simp only [← hR0] at law
  obtain ⟨n, hn'⟩ : ∃ n, n = ssN b ⟨p0, true⟩ := ⟨_, rfl⟩
  rw [← hn'] at hRd c3 hnm
  clear hR0 hn'
  obtain ⟨lo, h1⟩ : ∃ x, x = varN b ⟨p0, true⟩ := ⟨_, rfl⟩
  obtain ⟨hi, h2⟩ : ∃ x, x = varN b (varS b ⟨p0, true⟩) := ⟨_, rfl⟩
  rw [← h1] at c1 hlm hRd
  simp only [← h1] at law
  rw [← h2] at c2
  simp only [← h2] at law
  clear h1 h2
  obtain ⟨u1, h1⟩ : ∃ x, x = varS b ⟨p0, true⟩ := ⟨_, rfl⟩
  simp only [← h1] at c1 c2 c3 w1 w2 w3 hRd
  obtain ⟨u2, h2⟩ : ∃ x, x = varS b u1 := ⟨_, rfl⟩
  simp only [← h2] at c2 c3 w2 w3 hRd
  obtain ⟨u, h3⟩ : ∃ x, x = varS b u2 := ⟨_, rfl⟩
  simp only [← h3] at c3 w3 hRd
  clear h1 h2 h3
  obtain ⟨rD, hrD⟩ : ∃ x, x = shD b p0 := ⟨_, rfl⟩
  obtain ⟨rP, hrP⟩ : ∃ x, x = shP b p0 := ⟨_, rfl⟩
  obtain ⟨rK, hrK⟩ : ∃ x, x = shK b p0 := ⟨_, rfl⟩
  simp only [← hrD, ← hrP, ← hrK] at law hN ⊢
  clear hrD hrP hrK
  try dsimp only at c1
  refine fnOK_of true mixed Try.func80 rfl (by rfl) (by rfl) ?_
  have hres := congrArg Array.toList Try.results80
  simp only [Try.ntmps80, BGB, seval]
  (have gx := And.intro (@List.length_map.{0,0}) (And.intro (@List.getElem_map.{0,0}) (And.intro (@bytK.eq_1) (And.intro @SEdgeD.s.eq_1 Bool.not_true))); have q1 := c1; have q2 := c2; have q3 := c3; refine go ?_; (repeat' (first | exact Ef.mk | refine Lf.mk ?_ ?_ | refine fun (K : KT) hK hE hT => ?_ | refine fun (KS : Eff → Prop) hKS => ?_ | refine fun (D : List Keys → Prop) hD => ?_ | refine fun (hg : (_ : Prop)) => ?_ | fail)); all_goals (first | (refine Wr.mk ?_; (try clear gx); (try clear q1 q2 q3); repeat (first | (clear hK hE hT; clear K) | (clear hR hE hT; clear K))) | assumption | skip))
  refine loop_v (X := {x : Nat × List SEdgeD × SEdgeD × RdS // ((x.1 ≤ 281474976710655 ∧ x.2.1.length ≤ b.length + 1) ∧ x.2.2.2.p ≤ b.length) ∧ Rnd ((x.2.2.2.ok = true → x.2.1.length ≤ x.2.2.2.p ∧ zB x.2.2.1 x.2.2.2.p) ∧ shGoS b x.1 x.2.1 x.2.2.1 x.2.2.2 = R)}) [] (fun x => [(10, .c (.v (.int .i64 ((x.1.1 : Nat) : Int))))]) (fun x => [(0, some (.row 5 (b.map bytK))), (1, some (.box 77 [.v (.int .i64 0), .v (.int .i64 0), .nil])), (2, some (.box 113 [.sl 0 1 0 b.length, .v (.int .i64 (x.1.2.2.2.p : Int)), .v (.bool (!x.1.2.2.2.ok))])), (3, some (.box 77 [.v (.int .i64 lo), .v (.int .i64 hi), .sl 5 5 0 x.1.2.1.length])), (4, some (.box 64 (SEdgeD.s x.1.2.2.1))), (5, some (.row 64 (x.1.2.1.map SEdgeD.k)))]) 6 (fun x => x.1.1) ⟨(n, [], ⟨0, lo, 0, 0, 0⟩, u), ⟨⟨⟨by dsimp only; omega, by simp⟩, w3⟩, ⟨fun h => ⟨by simp, zB_zero hlm _⟩, hRd.symm⟩⟩⟩ ?_
  simp only [KPB, seval]
  refine ⟨?_, ?_⟩
  · (refine wk_a ?_; simp only [MAB, seval]; refine ⟨rfl, rfl, (by decide), ?_, ?_⟩; all_goals (first | (simp only [WKB, seval, SEdgeD.s, Nat.reduceLT, Nat.zero_lt_succ]; done) | (simp [WKB, seval, SEdgeD.s]; done) | simp only [WKB, seval]))
  · rintro ⟨⟨m, l, z, ⟨p, o⟩⟩, ⟨⟨⟨hm1, hm2⟩, hzp⟩, hz⟩⟩ K hR hE hT
    obtain ⟨hz1, hz2⟩ := hz.out
    dsimp only at hm1 hm2 hzp hz1 hz2 ⊢
    have cb := specShardBytesE_k ⟨lo, hi, l⟩ (by dsimp only; omega)
    dsimp only at cb
    cases o with
    | false =>
      rw [shGoS_bad rfl] at hz2
      subst hz2
      dsimp only at law
      have hf : rK = false := by
        rcases law with ⟨_, h⟩ | ⟨_, _, h⟩ | ⟨h, _⟩
        · exact h
        · exact h
        · cases h
      subst hf
      obtain ⟨rfl, rfl⟩ := hN rfl
      clear law
      (have gx := And.intro (@List.length_map.{0,0}) (And.intro (@List.getElem_map.{0,0}) (And.intro (@bytK.eq_1) (And.intro @List.length_map.{0,0} Bool.not_false))); have q1 := cb; refine go ?_; (repeat' (first | exact Ef.mk | refine Lf.mk ?_ ?_ | refine fun (K : KT) hK hE hT => ?_ | refine fun (KS : Eff → Prop) hKS => ?_ | refine fun (D : List Keys → Prop) hD => ?_ | refine fun (hg : (_ : Prop)) => ?_ | fail)); all_goals (first | (refine Wr.mk ?_; (try clear gx); (try clear q1); repeat (first | (clear hK hE hT; clear K) | (clear hR hE hT; clear K))) | assumption | skip))
      all_goals (refine post_a hres (.inl rfl) ?_; simp only [RSB, ENB, seval, tiAll, true_and]; simp only [MAB, seval]; refine ⟨rfl, rfl, ?_, ?_, ?_⟩ <;> (first | rfl | (simp [WKB, Nat.add_comm, true_and]; done) | (simp only [WKB, seval])))
    | true =>
      obtain ⟨hlp, hzb⟩ := hz1 rfl
      cases m with
      | zero =>
        have e2 : shGoS b 0 l z ⟨p, true⟩ = (l, ⟨p, true⟩) := rfl
        rw [e2] at hz2
        subst hz2
        dsimp only at law
        by_cases ho : ShOk ⟨lo, hi, l⟩
        · rcases law with ⟨h, _⟩ | ⟨_, h, _⟩ | ⟨_, _, rfl, rfl, rfl, hadv, hA1, hA2, hA3⟩
          · cases h
          · exact absurd ho h
          rw [pB_t ho, shbR_y ho] at cb
          have hdm : ((b.map bytK).drop p0).take (rP - p0) = (shB ⟨lo, hi, l⟩).map bytK := by rw [← hA3, List.map_take, List.map_drop]
          have hsl : (shB ⟨lo, hi, l⟩).length = rP - p0 := by rw [← hA3, List.length_take, List.length_drop]; omega
          obtain ⟨W, hW⟩ : ∃ W, W = shB ⟨lo, hi, l⟩ := ⟨_, rfl⟩
          rw [← hW] at cb hdm hsl
          clear hW hA3
          have t1 : (W.map bytK).take W.length = W.map bytK := List.take_of_length_le (by simp)
          (have gx := And.intro (@List.length_map.{0,0}) (And.intro (@List.getElem_map.{0,0}) (And.intro (@bytK.eq_1) (And.intro (@List.length_map.{0,0}) (And.intro (@lit0) (And.intro (@litI) (And.intro (@litN) (And.intro (@hdm) (And.intro (@t1) (And.intro (@txt_ls) (And.intro (@map_take) (And.intro (@Option.toArray_some.{0}) (And.intro (@Option.toArray_none.{0}) (And.intro (@List.toList_toArray.{0}) (And.intro Bool.not_true Bool.not_false)))))))))))))); have q1 := cb; refine go ?_; (repeat' (first | exact Ef.mk | refine Lf.mk ?_ ?_ | refine fun (K : KT) hK hE hT => ?_ | refine fun (KS : Eff → Prop) hKS => ?_ | refine fun (D : List Keys → Prop) hD => ?_ | refine fun (hg : (_ : Prop)) => ?_ | fail)); all_goals (first | (refine Wr.mk ?_; (try clear gx); (try clear q1); repeat (first | (clear hK hE hT; clear K) | (clear hR hE hT; clear K))) | assumption | skip))
          all_goals first | (exfalso; omega) | (refine post_a hres (.inl rfl) ?_; simp only [RSB, ENB, seval, tiAll, true_and]; simp only [MAB, seval]; refine ⟨rfl, rfl, ?_, ?_, ?_⟩ <;> (first | rfl | (simp [WKB, Nat.add_comm, true_and]; done) | (simp only [WKB, seval])))
        · have hf : rK = false := by
            rcases law with ⟨_, h⟩ | ⟨_, _, h⟩ | ⟨_, h, _⟩
            · exact h
            · exact h
            · exact absurd h ho
          subst hf
          obtain ⟨rfl, rfl⟩ := hN rfl
          clear law
          rw [pB_f ho, shbR_n ho] at cb
          (have gx := And.intro (@List.length_map.{0,0}) (And.intro (@List.getElem_map.{0,0}) (And.intro (@bytK.eq_1) (And.intro (@List.length_map.{0,0}) (And.intro Bool.not_true Bool.not_false)))); have q1 := cb; refine go ?_; (repeat' (first | exact Ef.mk | refine Lf.mk ?_ ?_ | refine fun (K : KT) hK hE hT => ?_ | refine fun (KS : Eff → Prop) hKS => ?_ | refine fun (D : List Keys → Prop) hD => ?_ | refine fun (hg : (_ : Prop)) => ?_ | fail)); all_goals (first | (refine Wr.mk ?_; (try clear gx); (try clear q1); repeat (first | (clear hK hE hT; clear K) | (clear hR hE hT; clear K))) | assumption | skip))
          all_goals (refine post_a hres (.inl rfl) ?_; simp only [RSB, ENB, seval, tiAll, true_and]; simp only [MAB, seval]; refine ⟨rfl, rfl, ?_, ?_, ?_⟩ <;> (first | rfl | (simp [WKB, Nat.add_comm, true_and]; done) | (simp only [WKB, seval])))
      | succ m =>
        rw [shGoS_step rfl] at hz2
        have hst := fun h => zB_stepS (b := b) (z := z) (s := ⟨p, true⟩) rfl hzb h
        obtain ⟨⟨f1, f2⟩, ⟨f3, f4⟩, ⟨f5, f6⟩⟩ := zB_in hzb (by omega)
        have hEp := egS_le (b := b) (z := z) (s := ⟨p, true⟩) hzp
        have eE : egS b z ⟨p, true⟩ = (⟨z.From + varN b ⟨p, true⟩, z.To + uz (varN b (varS b ⟨p, true⟩)), varN b (varS b (varS b ⟨p, true⟩)), z.Index + uz (varN b (varS b (varS b (varS b ⟨p, true⟩)))), 0⟩, varS b (varS b (varS b (varS b ⟨p, true⟩)))) := rfl
        have g1 := varN_mx b ⟨p, true⟩
        have w1 := varS_le (b := b) (s := ⟨p, true⟩) hzp
        have w2 := varS_le w1
        have w3 := varS_le w2
        have g2 := uz_bd (varN_mx b (varS b ⟨p, true⟩))
        have g4 := uz_bd (varN_mx b (varS b (varS b (varS b ⟨p, true⟩))))
        have c1 := varW_k b ⟨p, true⟩ (by omega) hzp
        have c2 := zigS_k b _ (by omega) w1
        have c3 := varW_k b _ (by omega) w2
        have c4 := zigS_k b _ (by omega) w3
        obtain ⟨E, hE0⟩ : ∃ E, E = egS b z ⟨p, true⟩ := ⟨_, rfl⟩
        rw [← hE0] at hz2 hst hEp eE
        clear hE0
        obtain ⟨v1, h1⟩ : ∃ s, s = varN b ⟨p, true⟩ := ⟨_, rfl⟩
        rw [← h1] at eE g1 c1
        clear h1
        obtain ⟨s1, h1⟩ : ∃ s, s = varS b ⟨p, true⟩ := ⟨_, rfl⟩
        simp only [← h1] at eE w1 w2 w3 g2 g4 c1 c2 c3 c4
        obtain ⟨s2, h2⟩ : ∃ s, s = varS b s1 := ⟨_, rfl⟩
        simp only [← h2] at eE w2 w3 g4 c2 c3 c4
        obtain ⟨s3, h3⟩ : ∃ s, s = varS b s2 := ⟨_, rfl⟩
        simp only [← h3] at eE w3 g4 c3 c4
        obtain ⟨s4, h4⟩ : ∃ s, s = varS b s3 := ⟨_, rfl⟩
        simp only [← h4] at eE c4
        clear h1 h2 h3 h4
        try dsimp only at c1
        obtain ⟨v2, h2⟩ : ∃ s, s = uz (varN b s1) := ⟨_, rfl⟩
        rw [← h2] at eE g2 c2
        obtain ⟨v3, h3⟩ : ∃ s, s = varN b s2 := ⟨_, rfl⟩
        rw [← h3] at eE c3
        obtain ⟨v4, h4⟩ : ∃ s, s = uz (varN b s3) := ⟨_, rfl⟩
        rw [← h4] at eE g4 c4
        clear h2 h3 h4 law hN
        subst eE
        try dsimp only at hz2 hst hEp
        (have gx := And.intro (@List.length_map.{0,0}) (And.intro (@List.getElem_map.{0,0}) (And.intro (@bytK.eq_1) (And.intro (@SEdgeD.s.eq_1) (And.intro @List.length_map.{0,0} Bool.not_true)))); have q1 := c1; have q2 := c2; have q3 := c3; have q4 := c4; refine go ?_; (repeat' (first | exact Ef.mk | refine Lf.mk ?_ ?_ | refine fun (K : KT) hK hE hT => ?_ | refine fun (KS : Eff → Prop) hKS => ?_ | refine fun (D : List Keys → Prop) hD => ?_ | refine fun (hg : (_ : Prop)) => ?_ | fail)); all_goals (first | (refine Wr.mk ?_; (try clear gx); (try clear q1 q2 q3 q4); repeat (first | (clear hK hE hT; clear K) | (clear hR hE hT; clear K))) | assumption | skip))
        all_goals
          refine hR.out ⟨(m, l ++ [⟨z.From + v1, z.To + v2, v3, z.Index + v4, 0⟩], ⟨z.From + v1, z.To + v2, v3, z.Index + v4, 0⟩, s4), ⟨⟨⟨by dsimp only; omega, by simp; omega⟩, hEp⟩, ⟨fun h => ⟨by have := (hst h).2; simp; omega, (hst h).1⟩, hz2⟩⟩⟩ _ _ _ (by simp only; omega) ?_
          have e5 : ((m + 1 : Nat) : Int) - 1 = (m : Int) := by omega
          (refine wk_a ?_; simp only [MAB, seval]; refine ⟨rfl, rfl, (by decide), ?_, ?_⟩; all_goals (first | (simp only [WKB, seval, e5, SEdgeD.s, SEdgeD.k, List.map_append, List.length_append, List.length_cons, List.length_nil, Nat.zero_add, Nat.reduceLT, Nat.zero_lt_succ]; done) | (simp [WKB, seval, e5, SEdgeD.s, SEdgeD.k, List.map_append, List.length_append, List.length_cons, List.length_nil, Nat.zero_add]; done) | simp only [WKB, seval]))

end Go.Proofs.Ytcbnfkbnbdbfoaa
