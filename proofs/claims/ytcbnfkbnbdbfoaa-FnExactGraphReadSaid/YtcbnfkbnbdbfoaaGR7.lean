/-
  Contract: a file of a farm is read by the reference. No conditions of its own.
-/
import Derived.Test.YtcbnfkbnbdbfoaaGO
import Derived.Test.YtcbnfkbnbdbfoaaGR5
import Derived.Test.YtcbnfkbnbdbfoaaGR6
namespace Go.Proofs.Ytcbnfkbnbdbfoaa
set_option linter.unusedSimpArgs false
set_option linter.unusedVariables false
set_option linter.unusedSimpArgs false
set_option linter.unusedVariables false
set_option linter.defProp false
set_option maxRecDepth 20000
open Go.RowKit
attribute [local irreducible] lexD

theorem shD_len (b : List UInt8) (p : Nat) : (shD b p).Edges.length ≤ 400 := by
  unfold shD; split
  · exact siD_len b _
  · simp
theorem shP_adv {b : List UInt8} {p : Nat} (hp : p ≤ b.length) (h : shK b p = true) : p + 3 ≤ shP b p := by
  rw [(sh_yes h).2]
  exact siS_adv hp h
theorem gf_true {f : FarmD} (h : FarmOk f) : gfB f = true := by
  rw [(gf_yes h).1]
  have := gfT_max (gf_ok h) (Nat.le_refl _)
  change (gfD f).length ≤ _ at this
  unfold frO
  exact decide_eq_true ⟨by omega, by omega, by omega⟩

set_option maxHeartbeats 16000000 in
theorem specGraphRead_k (b : List UInt8) (hb : b.length ≤ 1048576) : FnOK Try.prog 36 ⟨1, [(0, some (.ro (b.map bytK)))], [.c (.sl 0 1 0 b.length)],
    .tup [.inr [.v (.int .i64 (grR b).N), .sl 1 1 0 ((grR b).Ends).length, .sl 2 3 0 ((grR b).Shards).length], .inl (.v (.bool (grB b)))], [(1, some (.row 3 (((grR b).Ends).map intK))), (2, some (.nst 77 (((grR b).Shards).map (ShardD.k 64)) none))], 3⟩ := by
  have co := specFrameOnly_k b 1 hb
  have lD := foD_len b 1
  have hY := fun h => gr_yes (b := b) h
  have hN := fun h => gr_no (b := b) h
  cases hk : foB b 1 with
  | false =>
    have eD : foD b 1 = [] := by unfold foD; rw [hk]; rfl
    obtain ⟨e1, e2⟩ := hN (gr_bad hk)
    rw [e1, e2]
    rw [hk, eD] at co
    refine fnOK_of true mixed Try.func36 rfl (by rfl) (by rfl) ?_
    have hres := congrArg Array.toList Try.results36
    simp only [Try.ntmps36, BGB, seval]
    (have gx := And.intro (@List.length_map.{0,0}) (And.intro @List.getElem_map.{0,0} @bytK.eq_1); have q1 := co; refine go ?_; (repeat' (first | exact Ef.mk | refine Lf.mk ?_ ?_ | refine fun (K : KT) hK hE hT => ?_ | refine fun (KS : Eff → Prop) hKS => ?_ | refine fun (D : List Keys → Prop) hD => ?_ | refine fun (hg : (_ : Prop)) => ?_ | fail)); all_goals (first | (refine Wr.mk ?_; (try clear gx); (try clear q1); repeat (first | (clear hK hE hT; clear K) | (clear hR hE hT; clear K))) | assumption | skip))
    all_goals (refine post_a hres (.inl rfl) ?_; simp only [RSB, ENB, seval, tiAll, true_and]; simp only [MAB, seval]; refine ⟨rfl, rfl, ?_, ?_, ?_⟩ <;> (first | rfl | (simp [WKB, Nat.add_comm, true_and]; done) | (simp only [WKB, seval])))
  | true =>
    have law := gs_law hk
    rw [hk] at co hY
    have eF : gsF (foD b 1) ⟨0, true⟩ = ⟨varN (foD b 1) ⟨0, true⟩, hiE (gsR (foD b 1) ⟨0, true⟩).1, (gsR (foD b 1) ⟨0, true⟩).1⟩ := rfl
    have hRd : gsR (foD b 1) ⟨0, true⟩ = fgGoS (foD b 1) (gsN (foD b 1) ⟨0, true⟩) [] (varS (foD b 1) (varS (foD b 1) ⟨0, true⟩)) := rfl
    have hnm := varN_mx (foD b 1) (varS (foD b 1) ⟨0, true⟩)
    have hn : varN (foD b 1) (varS (foD b 1) ⟨0, true⟩) = ((gsN (foD b 1) ⟨0, true⟩ : Nat) : Int) := by unfold gsN; omega
    have law2 : (¬ grP b ∧ ((gsR (foD b 1) ⟨0, true⟩).2.ok = false ∨ ((gsR (foD b 1) ⟨0, true⟩).2.ok = true ∧ (¬ FarmOk (gsF (foD b 1) ⟨0, true⟩) ∨ (FarmOk (gsF (foD b 1) ⟨0, true⟩) ∧ gfR (gsF (foD b 1) ⟨0, true⟩) ≠ b))))) ∨ (grB b = true ∧ grR b = gsF (foD b 1) ⟨0, true⟩ ∧ (gsR (foD b 1) ⟨0, true⟩).2.ok = true ∧ FarmOk (gsF (foD b 1) ⟨0, true⟩) ∧ gfR (gsF (foD b 1) ⟨0, true⟩) = b) := by
      rcases law with h | ⟨h1, h2, h3, h4, h5⟩
      · exact .inl h
      · obtain ⟨a1, a2⟩ := hY h1
        exact .inr ⟨a1, by rw [a2, h5], h2, h3, h4⟩
    clear law hY
    rw [eF] at law2
    clear eF hk
    obtain ⟨r, hr⟩ : ∃ r, r = grR b := ⟨_, rfl⟩
    obtain ⟨q, hq⟩ : ∃ q, q = grB b := ⟨_, rfl⟩
    obtain ⟨P, hPd⟩ : ∃ P, P = grP b := ⟨_, rfl⟩
    simp only [← hr, ← hq, ← hPd] at law2 hN ⊢
    clear hr hq hPd
    obtain ⟨D, hD⟩ : ∃ D, D = foD b 1 := ⟨_, rfl⟩
    simp only [← hD] at co law2 lD hRd hn hnm
    clear hD
    have w0 : (⟨0, true⟩ : RdS).p ≤ D.length := Nat.zero_le _
    have n1 := varW_k D ⟨0, true⟩ (by omega) w0
    have w1 := varS_le w0
    have n2 := varW_k D _ (by omega) w1
    have w2 := varS_le w1
    rw [hn] at n2 hnm
    clear hn
    obtain ⟨R, hR0⟩ : ∃ R, R = gsR D ⟨0, true⟩ := ⟨_, rfl⟩
    simp only [← hR0] at hRd law2
    obtain ⟨n, hn'⟩ : ∃ n, n = gsN D ⟨0, true⟩ := ⟨_, rfl⟩
    rw [← hn'] at hRd n2 hnm
    clear hR0 hn'
    obtain ⟨M, hM⟩ : ∃ M, M = varN D ⟨0, true⟩ := ⟨_, rfl⟩
    simp only [← hM] at n1 law2
    clear hM
    obtain ⟨z1, h1⟩ : ∃ z, z = varS D ⟨0, true⟩ := ⟨_, rfl⟩
    simp only [← h1] at n1 n2 w1 w2 hRd
    obtain ⟨z2, h2⟩ : ∃ z, z = varS D z1 := ⟨_, rfl⟩
    simp only [← h2] at n2 w2 hRd
    clear h1 h2
    try dsimp only at n1
    refine fnOK_of true mixed Try.func36 rfl (by rfl) (by rfl) ?_
    have hres := congrArg Array.toList Try.results36
    simp only [Try.ntmps36, BGB, seval]
    (have gx := And.intro (@List.length_map.{0,0}) (And.intro (@List.getElem_map.{0,0}) (And.intro (@bytK.eq_1) (And.intro (@List.length_map.{0,0}) (And.intro Bool.not_true Bool.not_false)))); have q1 := co; have q2 := n1; have q3 := n2; refine go ?_; (repeat' (first | exact Ef.mk | refine Lf.mk ?_ ?_ | refine fun (K : KT) hK hE hT => ?_ | refine fun (KS : Eff → Prop) hKS => ?_ | refine fun (D : List Keys → Prop) hD => ?_ | refine fun (hg : (_ : Prop)) => ?_ | fail)); all_goals (first | (refine Wr.mk ?_; (try clear gx); (try clear q1 q2 q3); repeat (first | (clear hK hE hT; clear K) | (clear hR hE hT; clear K))) | assumption | skip))
    refine loop_v (X := {x : Nat × List ShardD × RdS // ((x.1 ≤ 281474976710655 ∧ x.2.1.length ≤ D.length + 1) ∧ x.2.2.p ≤ D.length) ∧ Rnd ((x.2.2.ok = true → x.2.1.length ≤ x.2.2.p) ∧ (∀ s ∈ x.2.1, s.Edges.length ≤ 400) ∧ fgGoS D x.1 x.2.1 x.2.2 = R)}) [] (fun x => [(8, .c (.v (.int .i64 ((x.1.1 : Nat) : Int))))]) (fun x => [(0, some (.ro (b.map bytK))), (1, some (.box 34 [.v (.int .i64 0), .nil, .nil])), (2, some (.row 5 (D.map bytK))), (3, some (.box 113 [.sl 2 1 0 D.length, .v (.int .i64 (x.1.2.2.p : Int)), .v (.bool (!x.1.2.2.ok))])), (4, some (.box 34 [.v (.int .i64 M), .sl 5 1 0 (hiE x.1.2.1).length, .sl 6 3 0 x.1.2.1.length])), (5, some (.row 3 ((hiE x.1.2.1).map intK))), (6, some (.nst 77 (x.1.2.1.map (ShardD.k 64)) none))]) 7 (fun x => x.1.1) ⟨(n, [], z2), ⟨⟨⟨by dsimp only; omega, by simp⟩, w2⟩, ⟨fun _ => by simp, fun s hs => by simp at hs, hRd.symm⟩⟩⟩ ?_
    simp only [KPB, seval]
    refine ⟨?_, ?_⟩
    · (refine wk_a ?_; simp only [MAB, seval]; refine ⟨rfl, rfl, (by decide), ?_, ?_⟩; all_goals (first | (simp only [WKB, seval, hiE, List.map_nil, Nat.reduceLT, Nat.zero_lt_succ]; done) | (simp [WKB, seval, hiE, List.map_nil]; done) | simp only [WKB, seval]))
    · rintro ⟨⟨m, l, ⟨p, o⟩⟩, ⟨⟨⟨hm1, hll⟩, hzp⟩, hz⟩⟩ K hR hE hT
      obtain ⟨hz0, hz1, hz2⟩ := hz.out
      dsimp only at hm1 hzp hll hz0 hz1 hz2 ⊢
      have lh : (hiE l).length = l.length := by unfold hiE; rw [List.length_map]
      have cf := specGraphFile_k ⟨M, hiE l, l⟩ ⟨by dsimp only; omega, by dsimp only; omega, fun s hs => by have := hz1 s hs; omega⟩
      dsimp only at cf
      rw [lh] at cf ⊢
      cases o with
      | false =>
        rw [fgGoS_bad rfl] at hz2
        subst hz2
        dsimp only at law2
        have hP : ¬ P := by
          rcases law2 with ⟨h, _⟩ | ⟨_, _, h, _⟩
          · exact h
          · cases h
        obtain ⟨rfl, rfl⟩ := hN hP
        clear hN law2
        (have gx := And.intro (@List.length_map.{0,0}) (And.intro (@List.getElem_map.{0,0}) (And.intro (@bytK.eq_1) (And.intro (@List.length_map.{0,0}) (And.intro (@lh) (And.intro Bool.not_true Bool.not_false))))); have q1 := cf; refine go ?_; (repeat' (first | exact Ef.mk | refine Lf.mk ?_ ?_ | refine fun (K : KT) hK hE hT => ?_ | refine fun (KS : Eff → Prop) hKS => ?_ | refine fun (D : List Keys → Prop) hD => ?_ | refine fun (hg : (_ : Prop)) => ?_ | fail)); all_goals (first | (refine Wr.mk ?_; (try clear gx); (try clear q1); repeat (first | (clear hK hE hT; clear K) | (clear hR hE hT; clear K))) | assumption | skip))
        all_goals (refine post_a hres (.inl rfl) ?_; simp only [RSB, ENB, seval, tiAll, true_and]; simp only [MAB, seval]; refine ⟨rfl, rfl, ?_, ?_, ?_⟩ <;> (first | rfl | (simp [WKB, Nat.add_comm, true_and]; done) | (simp only [WKB, seval])))
      | true =>
        cases m with
        | zero =>
          have e2 : fgGoS D 0 l ⟨p, true⟩ = (l, ⟨p, true⟩) := rfl
          rw [e2] at hz2
          subst hz2
          dsimp only at law2
          by_cases ho : FarmOk ⟨M, hiE l, l⟩
          · rw [gf_true ho] at cf
            rcases law2 with ⟨hP, h⟩ | ⟨rfl, rfl, _, _, hw⟩
            · obtain ⟨rfl, rfl⟩ := hN hP
              have hwb : gfR ⟨M, hiE l, l⟩ ≠ b := by
                rcases h with h | ⟨_, h | ⟨_, h⟩⟩
                · cases h
                · exact absurd ho h
                · exact h
              obtain ⟨w, hwd⟩ : ∃ w, w = gfR ⟨M, hiE l, l⟩ := ⟨_, rfl⟩
              rw [← hwd] at cf hwb
              clear hwd hN h
              have t1 : (w.map bytK).take w.length = w.map bytK := List.take_of_length_le (by simp)
              (have gx := And.intro (@List.length_map.{0,0}) (And.intro (@List.getElem_map.{0,0}) (And.intro (@bytK.eq_1) (And.intro (@List.length_map.{0,0}) (And.intro (@litN) (And.intro (@lh) (And.intro (@txt_ls) (And.intro (@map_take) (And.intro Bool.not_true Bool.not_false)))))))); have q1 := cf; refine go ?_; (repeat' (first | exact Ef.mk | refine Lf.mk ?_ ?_ | refine fun (K : KT) hK hE hT => ?_ | refine fun (KS : Eff → Prop) hKS => ?_ | refine fun (D : List Keys → Prop) hD => ?_ | refine fun (hg : (_ : Prop)) => ?_ | fail)); all_goals (first | (refine Wr.mk ?_; (try clear gx); (try clear q1); repeat (first | (clear hK hE hT; clear K) | (clear hR hE hT; clear K))) | assumption | skip))
              all_goals first | exact (hwb (by assumption)).elim | (refine post_a hres (.inl rfl) ?_; simp only [RSB, ENB, seval, tiAll, true_and]; simp only [MAB, seval]; refine ⟨rfl, rfl, ?_, ?_, ?_⟩ <;> (first | rfl | (simp [WKB, Nat.add_comm, true_and]; done) | (simp only [WKB, seval])))
            · rw [hw] at cf
              have t1 : (b.map bytK).take b.length = b.map bytK := List.take_of_length_le (by simp)
              clear hN hw
              (have gx := And.intro (@List.length_map.{0,0}) (And.intro (@List.getElem_map.{0,0}) (And.intro (@bytK.eq_1) (And.intro (@List.length_map.{0,0}) (And.intro (@litN) (And.intro (@lh) (And.intro (@txt_ls) (And.intro (@map_take) (And.intro Bool.not_true Bool.not_false)))))))); have q1 := cf; refine go ?_; (repeat' (first | exact Ef.mk | refine Lf.mk ?_ ?_ | refine fun (K : KT) hK hE hT => ?_ | refine fun (KS : Eff → Prop) hKS => ?_ | refine fun (D : List Keys → Prop) hD => ?_ | refine fun (hg : (_ : Prop)) => ?_ | fail)); all_goals (first | (refine Wr.mk ?_; (try clear gx); (try clear q1); repeat (first | (clear hK hE hT; clear K) | (clear hR hE hT; clear K))) | assumption | skip))
              all_goals first | exact absurd rfl (by assumption) | (refine post_a hres (.inl rfl) ?_; simp only [RSB, ENB, seval, tiAll, lh]; simp only [MAB, seval]; refine ⟨rfl, rfl, ?_, ?_, ?_⟩ <;> (first | rfl | (simp [WKB, Nat.add_comm, lh]; done) | (simp only [WKB, seval])))
          · obtain ⟨e1, e2⟩ := gf_no ho
            rw [e1, e2] at cf
            have hP : ¬ P := by
              rcases law2 with ⟨h, _⟩ | ⟨_, _, _, h, _⟩
              · exact h
              · exact absurd h ho
            obtain ⟨rfl, rfl⟩ := hN hP
            clear hN law2
            (have gx := And.intro (@List.length_map.{0,0}) (And.intro (@List.getElem_map.{0,0}) (And.intro (@bytK.eq_1) (And.intro (@List.length_map.{0,0}) (And.intro (@lh) (And.intro Bool.not_true Bool.not_false))))); have q1 := cf; refine go ?_; (repeat' (first | exact Ef.mk | refine Lf.mk ?_ ?_ | refine fun (K : KT) hK hE hT => ?_ | refine fun (KS : Eff → Prop) hKS => ?_ | refine fun (D : List Keys → Prop) hD => ?_ | refine fun (hg : (_ : Prop)) => ?_ | fail)); all_goals (first | (refine Wr.mk ?_; (try clear gx); (try clear q1); repeat (first | (clear hK hE hT; clear K) | (clear hR hE hT; clear K))) | assumption | skip))
            all_goals (refine post_a hres (.inl rfl) ?_; simp only [RSB, ENB, seval, tiAll, true_and]; simp only [MAB, seval]; refine ⟨rfl, rfl, ?_, ?_, ?_⟩ <;> (first | rfl | (simp [WKB, Nat.add_comm, true_and]; done) | (simp only [WKB, seval])))
        | succ m =>
          rw [fgGoS_step rfl] at hz2
          have cs := specShardRead_k D p lD hzp
          have hsl := shD_len D p
          have hsp := shP_le (b := D) hzp
          have hsa := shP_adv (b := D) hzp
          have hz0' := hz0 rfl
          dsimp only at hz2
          obtain ⟨Y, hYd⟩ : ∃ Y, Y = shD D p := ⟨_, rfl⟩
          obtain ⟨p2, hp2⟩ : ∃ s, s = shP D p := ⟨_, rfl⟩
          obtain ⟨o2, ho2⟩ : ∃ s, s = shK D p := ⟨_, rfl⟩
          rw [← hYd, ← hp2, ← ho2] at cs hz2
          rw [← hYd] at hsl
          rw [← hp2] at hsp
          rw [← hp2, ← ho2] at hsa
          clear hYd hp2 ho2 hN law2
          have eE : hiE (l ++ [Y]) = hiE l ++ [Y.Hi] := by unfold hiE; rw [List.map_append]; rfl
          (have gx := And.intro (@List.length_map.{0,0}) (And.intro (@List.getElem_map.{0,0}) (And.intro (@bytK.eq_1) (And.intro (@List.length_map.{0,0}) (And.intro (@lh) (And.intro (@ShardD.k.eq_1) (And.intro Bool.not_true Bool.not_false)))))); have q1 := cs; refine go ?_; (repeat' (first | exact Ef.mk | refine Lf.mk ?_ ?_ | refine fun (K : KT) hK hE hT => ?_ | refine fun (KS : Eff → Prop) hKS => ?_ | refine fun (D : List Keys → Prop) hD => ?_ | refine fun (hg : (_ : Prop)) => ?_ | fail)); all_goals (first | (refine Wr.mk ?_; (try clear gx); (try clear q1); repeat (first | (clear hK hE hT; clear K) | (clear hR hE hT; clear K))) | assumption | skip))
          all_goals
            refine hR.out ⟨(m, l ++ [Y], ⟨p2, o2⟩), ⟨⟨⟨by dsimp only; omega, by simp; omega⟩, hsp⟩, ⟨fun h => by have := hsa h; simp; omega, fun s hs => by rcases List.mem_append.1 hs with h | h; exact hz1 s h; rw [List.mem_singleton.1 h]; exact hsl, hz2⟩⟩⟩ _ _ _ (by simp only; omega) ?_
            have e5 : ((m + 1 : Nat) : Int) - 1 = (m : Int) := by omega
            (refine wk_a ?_; simp only [MAB, seval]; refine ⟨rfl, rfl, (by decide), ?_, ?_⟩; all_goals (first | (simp only [WKB, seval, e5, eE, lh, ShardD.k, intK, List.map_append, List.length_append, List.length_cons, List.length_nil, Nat.zero_add, Nat.reduceLT, Nat.zero_lt_succ]; done) | (simp [WKB, seval, e5, eE, lh, ShardD.k, intK, List.map_append, List.length_append, List.length_cons, List.length_nil, Nat.zero_add]; done) | simp only [WKB, seval]))

end Go.Proofs.Ytcbnfkbnbdbfoaa
