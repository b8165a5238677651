/-
  Contracts: a file of values is read by the reference. No conditions of its own.
-/
import Derived.Test.YtageceacjmmmdaaGO
import Derived.Test.YtageceacjmmmdaaVR4
namespace Go.Proofs.Ytageceacjmmmdaa
set_option linter.unusedSimpArgs false
set_option linter.unusedVariables false
set_option linter.unusedSimpArgs false
set_option linter.unusedVariables false
set_option linter.defProp false
set_option maxRecDepth 20000
open Go.RowKit
attribute [local irreducible] lexD

theorem vrS_bad {D : List UInt8} {k : Bool} (h : (vrS D k 3).ok = false) : (vrS D k 6).ok = false := numS_bad (ls_bad (ls_bad h))
theorem vrC_no {b : List UInt8} (h : vrC b = false) : vrB b = false ∧ vrR b = ⟨⟨0, 0⟩, 0, [], [], ⟨0, []⟩⟩ := by
  have e : vrB b = false := by unfold vrB; rw [h]; rfl
  exact ⟨e, vr_no e⟩
theorem varN_max (b : List UInt8) (s : RdS) : 0 ≤ varN b s ∧ varN b s ≤ 281474976710655 := by
  have := gvN_max b s.p
  unfold varN; split <;> omega

set_option maxHeartbeats 16000000 in
theorem specValueRead_k (b : List UInt8) (hb : b.length ≤ 1048576) : FnOK Try.prog 38 ⟨1, [(0, some (.ro (b.map bytK)))], [.c (.sl 0 1 0 b.length)],
    .tup [.inr [.v (.int .i64 (vrR b).Job.Prog), .v (.int .i64 (vrR b).Job.Src), .v (.int .i64 (vrR b).Iter), .sl 1 1 0 ((vrR b).Vals).length, .sl 2 1 0 ((vrR b).EVals).length, .v (.int .i64 (vrR b).Next.N), .sl 3 1 0 ((vrR b).Next.Bits).length], .inl (.v (.bool (vrB b)))], [(1, some (.row 3 (((vrR b).Vals).map intK))), (2, some (.row 3 (((vrR b).EVals).map intK))), (3, some (.row 5 (((vrR b).Next.Bits).map bytK)))], 4⟩ := by
  have co := specFrameOnly_k b 2 hb
  have lD := foD_len b 2
  cases hk : foB b 2 with
  | false =>
    have eD : foD b 2 = [] := by unfold foD; rw [hk]; rfl
    have hc : vrC b = false := by unfold vrC; rw [hk]; exact vrS_bad (numS_bad (numS_bad (numS_bad rfl)))
    obtain ⟨e1, e2⟩ := vrC_no hc
    rw [e1, e2]
    rw [hk, eD] at co
    refine fnOK_of true mixed Try.func38 rfl (by rfl) (by rfl) ?_
    have hres := congrArg Array.toList Try.results38
    simp only [Try.ntmps38, BGB, seval]
    (have gx := And.intro (@List.length_map.{0,0}) (And.intro @List.getElem_map.{0,0} @bytK.eq_1); have q1 := co; refine go ?_; (repeat' (first | exact Ef.mk | refine Lf.mk ?_ ?_ | refine fun (K : KT) hK hE hT => ?_ | refine fun (KS : Eff → Prop) hKS => ?_ | refine fun (D : List Keys → Prop) hD => ?_ | refine fun (hg : (_ : Prop)) => ?_ | fail)); all_goals (first | (refine Wr.mk ?_; (try clear gx); (try clear q1); repeat (first | (clear hK hE hT; clear K) | (clear hR hE hT; clear K))) | assumption | skip))
    all_goals (refine post_a hres (.inl rfl) ?_; simp only [RSB, ENB, seval, tiAll, true_and]; simp only [MAB, seval]; refine ⟨rfl, rfl, ?_, ?_, ?_⟩ <;> (first | rfl | (simp [WKB, Nat.add_comm, true_and]; done) | (simp only [WKB, seval])))
  | true =>
    rw [hk] at co
    have hB : vrB b = (vrC b && (vfB (vrV (foD b 2) true) && decide (vfR (vrV (foD b 2) true) = b))) := by unfold vrB; rw [hk]
    have hR : vrB b = true → vrR b = vrV (foD b 2) true := fun h => by rw [vr_yes h, hk]
    have hC : vrC b = (vrS (foD b 2) true 6).ok := by unfold vrC; rw [hk]
    have hN := fun h => vrC_no (b := b) h
    have hM := fun h => vr_no (b := b) h
    obtain ⟨r, hr⟩ : ∃ r, r = vrR b := ⟨_, rfl⟩
    obtain ⟨q, hq⟩ : ∃ q, q = vrB b := ⟨_, rfl⟩
    rw [← hq] at hB hR hN hM
    rw [← hr] at hR hN hM
    rw [← hr, ← hq]
    rw [hC] at hB hN
    clear hr hq hC hk
    obtain ⟨D, hD⟩ : ∃ D, D = foD b 2 := ⟨_, rfl⟩
    rw [← hD] at co hB hR hN lD
    clear hD
    have w0 : (⟨0, true⟩ : RdS).p ≤ D.length := Nat.zero_le _
    have n1 := varW_k D ⟨0, true⟩ (by omega) w0
    have w1 := varS_le w0
    have n2 := varW_k D _ (by omega) w1
    have w2 := varS_le w1
    have n3 := varW_k D _ (by omega) w2
    have w3 := varS_le w2
    have both := rd_both D 3
    change ((vrS D true 3).ok = false ∧ (varS D (varS D (varS D ⟨0, true⟩))).ok = false) ∨ (vrS D true 3 = varS D (varS D (varS D ⟨0, true⟩)) ∧ (vrS D true 3).ok = true ∧ _ ∧ _) at both
    have l1 := specListRead_k D (varS D (varS D (varS D ⟨0, true⟩))).p (by omega) w3
    rcases both with ⟨b1, b2⟩ | ⟨b1, b2, b3, _⟩
    · obtain ⟨e1, e2⟩ := hN (vrS_bad b1)
      obtain ⟨p1, p2⟩ := lrP_le (b := D) (p := (varS D (varS D (varS D ⟨0, true⟩))).p)
      have l2 := specListRead_k D _ (by omega) p1
      rw [e1, e2]
      generalize varS D (varS D (varS D ⟨0, true⟩)) = z3 at *
      generalize varS D (varS D ⟨0, true⟩) = z2 at *
      generalize varS D ⟨0, true⟩ = z1 at *
      obtain ⟨y3, o3⟩ := z3
      dsimp only at b2
      subst b2
      refine fnOK_of true mixed Try.func38 rfl (by rfl) (by rfl) ?_
      have hres := congrArg Array.toList Try.results38
      simp only [Try.ntmps38, BGB, seval]
      (have gx := And.intro (@List.length_map.{0,0}) (And.intro (@List.getElem_map.{0,0}) (And.intro (@bytK.eq_1) (And.intro @List.length_map.{0,0} Bool.not_false))); have q1 := co; have q2 := n1; have q3 := n2; have q4 := n3; have q5 := l1; have q6 := l2; refine go ?_; (repeat' (first | exact Ef.mk | refine Lf.mk ?_ ?_ | refine fun (K : KT) hK hE hT => ?_ | refine fun (KS : Eff → Prop) hKS => ?_ | refine fun (D : List Keys → Prop) hD => ?_ | refine fun (hg : (_ : Prop)) => ?_ | fail)); all_goals (first | (refine Wr.mk ?_; (try clear gx); (try clear q1 q2 q3 q4 q5 q6); repeat (first | (clear hK hE hT; clear K) | (clear hR hE hT; clear K))) | assumption | skip))
      all_goals (refine post_a hres (.inl rfl) ?_; simp only [RSB, ENB, seval, tiAll, true_and]; simp only [MAB, seval]; refine ⟨rfl, rfl, ?_, ?_, ?_⟩ <;> (first | rfl | (simp [WKB, Nat.add_comm, true_and]; done) | (simp only [WKB, seval])))
    · have g0 := (b3 0 (by omega)).1
      have g1 := (b3 1 (by omega)).1
      have g2 := (b3 2 (by omega)).1
      change gvN D 0 = varN D ⟨0, true⟩ at g0
      change gvN D (vrS D true 1).p = varN D (varS D ⟨0, true⟩) at g1
      change gvN D (vrS D true 2).p = varN D (varS D (varS D ⟨0, true⟩)) at g2
      have v3 : vrS D true 3 = ⟨(varS D (varS D (varS D ⟨0, true⟩))).p, true⟩ := by
        rw [b1] at b2 ⊢
        generalize varS D (varS D (varS D ⟨0, true⟩)) = z at b2 ⊢
        obtain ⟨zp, zo⟩ := z
        dsimp only at b2 ⊢
        rw [b2]
      have o3 : (varS D (varS D (varS D ⟨0, true⟩))).ok = true := by rw [← b1]; exact b2
      have x4 : vrS D true 4 = (lsR D (vrS D true 3)).2 := rfl
      have x5 : vrS D true 5 = (lsR D (vrS D true 4)).2 := rfl
      have x6 : vrS D true 6 = numS D (vrS D true 5) := rfl
      have eV : vrV D true = ⟨⟨varN D ⟨0, true⟩, varN D (varS D ⟨0, true⟩)⟩, varN D (varS D (varS D ⟨0, true⟩)), (lsR D (vrS D true 3)).1, (lsR D (vrS D true 4)).1, ⟨gvN D (vrS D true 5).p, D.drop (vrS D true 6).p⟩⟩ := by
        unfold vrV; rw [← g0, ← g1, ← g2]; rfl
      clear b1 b2 b3 g0 g1 g2
      generalize varS D (varS D (varS D ⟨0, true⟩)) = z3 at *
      generalize hz2 : varS D (varS D ⟨0, true⟩) = z2 at *
      generalize hz1 : varS D ⟨0, true⟩ = z1 at *
      obtain ⟨y3, o3'⟩ := z3
      dsimp only at o3 v3 w3
      subst o3
      cases c1 : lrB D y3 with
      | false =>
        obtain ⟨f1, f2, f3⟩ := lr_none c1
        have hc : (vrS D true 6).ok = false := by
          rw [x6, x5, x4, v3]
          exact numS_bad (ls_bad (ls_no f1 w3))
        obtain ⟨e1, e2⟩ := hN hc
        rw [f2, f3, c1] at l1
        have l2 := specListRead_k D 0 (by omega) (Nat.zero_le _)
        obtain ⟨p1, p2⟩ := lrP_le (b := D) (p := 0)
        rw [e1, e2]
        refine fnOK_of true mixed Try.func38 rfl (by rfl) (by rfl) ?_
        have hres := congrArg Array.toList Try.results38
        simp only [Try.ntmps38, BGB, seval]
        (have gx := And.intro (@List.length_map.{0,0}) (And.intro (@List.getElem_map.{0,0}) (And.intro (@bytK.eq_1) (And.intro @List.length_map.{0,0} Bool.not_true))); have q1 := co; have q2 := n1; have q3 := n2; have q4 := n3; have q5 := l1; have q6 := l2; refine go ?_; (repeat' (first | exact Ef.mk | refine Lf.mk ?_ ?_ | refine fun (K : KT) hK hE hT => ?_ | refine fun (KS : Eff → Prop) hKS => ?_ | refine fun (D : List Keys → Prop) hD => ?_ | refine fun (hg : (_ : Prop)) => ?_ | fail)); all_goals (first | (refine Wr.mk ?_; (try clear gx); (try clear q1 q2 q3 q4 q5 q6); repeat (first | (clear hK hE hT; clear K) | (clear hR hE hT; clear K))) | assumption | skip))
        all_goals (refine post_a hres (.inl rfl) ?_; simp only [RSB, ENB, seval, tiAll, true_and]; simp only [MAB, seval]; refine ⟨rfl, rfl, ?_, ?_, ?_⟩ <;> (first | rfl | (simp [WKB, Nat.add_comm, true_and]; done) | (simp only [WKB, seval])))
      | true =>
        have f1 := lr_some c1
        obtain ⟨p1, p2⟩ := lrP_le (b := D) (p := y3)
        rw [c1] at l1
        have y4 := ls_yes f1
        rw [v3, y4] at x4 eV
        dsimp only at x4
        rw [x4] at x5 eV
        generalize lrL D y3 = v1 at *
        generalize lrP D y3 = q1 at *
        have l2 := specListRead_k D q1 (by omega) p1
        cases c2 : lrB D q1 with
        | false =>
          obtain ⟨h1, h2, h3⟩ := lr_none c2
          have hc : (vrS D true 6).ok = false := by
            rw [x6, x5]
            exact numS_bad (ls_no h1 p1)
          obtain ⟨e1, e2⟩ := hN hc
          rw [h2, h3, c2] at l2
          rw [e1, e2]
          refine fnOK_of true mixed Try.func38 rfl (by rfl) (by rfl) ?_
          have hres := congrArg Array.toList Try.results38
          simp only [Try.ntmps38, BGB, seval]
          (have gx := And.intro (@List.length_map.{0,0}) (And.intro (@List.getElem_map.{0,0}) (And.intro (@bytK.eq_1) (And.intro @List.length_map.{0,0} Bool.not_true))); have q1 := co; have q2 := n1; have q3 := n2; have q4 := n3; have q5 := l1; have q6 := l2; refine go ?_; (repeat' (first | exact Ef.mk | refine Lf.mk ?_ ?_ | refine fun (K : KT) hK hE hT => ?_ | refine fun (KS : Eff → Prop) hKS => ?_ | refine fun (D : List Keys → Prop) hD => ?_ | refine fun (hg : (_ : Prop)) => ?_ | fail)); all_goals (first | (refine Wr.mk ?_; (try clear gx); (try clear q1 q2 q3 q4 q5 q6); repeat (first | (clear hK hE hT; clear K) | (clear hR hE hT; clear K))) | assumption | skip))
          all_goals (refine post_a hres (.inl rfl) ?_; simp only [RSB, ENB, seval, tiAll, true_and]; simp only [MAB, seval]; refine ⟨rfl, rfl, ?_, ?_, ?_⟩ <;> (first | rfl | (simp [WKB, Nat.add_comm, true_and]; done) | (simp only [WKB, seval])))
        | true =>
          have h1 := lr_some c2
          obtain ⟨p3, p4⟩ := lrP_le (b := D) (p := q1)
          rw [c2] at l2
          have y5 := ls_yes h1
          rw [y5] at x5 eV
          dsimp only at x5
          rw [x5] at x6 eV
          generalize lrL D q1 = v2 at *
          generalize lrP D q1 = q2 at *
          have n4 := varW_k D ⟨q2, true⟩ (by omega) p3
          cases c3 : gvK D q2 with
          | false =>
            have y6 : varS D ⟨q2, true⟩ = ⟨q2, false⟩ := by unfold varS; rw [c3]; rfl
            have y7 : varN D ⟨q2, true⟩ = 0 := by unfold varN; rw [c3]; rfl
            have hc : (vrS D true 6).ok = false := by
              rw [x6]; unfold numS; rw [c3]; rfl
            obtain ⟨e1, e2⟩ := hN hc
            rw [y6, y7] at n4
            have hdl : (D.drop q2).length = D.length - q2 := List.length_drop ..
            have hdm : ((D.map bytK).drop q2).take (D.length - q2) = (D.drop q2).map bytK := by rw [List.take_of_length_le (by simp), List.map_drop]
            have cf := specValueFile_k ⟨⟨varN D ⟨0, true⟩, varN D z1⟩, varN D z2, v1, v2, ⟨0, D.drop q2⟩⟩ ⟨by dsimp only; omega, by dsimp only; omega, by dsimp only; omega⟩
            dsimp only at cf
            rw [hdl] at cf
            rw [e1, e2]
            refine fnOK_of true mixed Try.func38 rfl (by rfl) (by rfl) ?_
            have hres := congrArg Array.toList Try.results38
            simp only [Try.ntmps38, BGB, seval]
            (have gx := And.intro (@List.length_map.{0,0}) (And.intro (@List.getElem_map.{0,0}) (And.intro (@bytK.eq_1) (And.intro (@List.length_map.{0,0}) (And.intro (@litN) (And.intro (@hdm) (And.intro Bool.not_true Bool.not_false)))))); have q1 := co; have q2 := n1; have q3 := n2; have q4 := n3; have q5 := l1; have q6 := l2; have q7 := n4; have q8 := cf; refine go ?_; (repeat' (first | exact Ef.mk | refine Lf.mk ?_ ?_ | refine fun (K : KT) hK hE hT => ?_ | refine fun (KS : Eff → Prop) hKS => ?_ | refine fun (D : List Keys → Prop) hD => ?_ | refine fun (hg : (_ : Prop)) => ?_ | fail)); all_goals (first | (refine Wr.mk ?_; (try clear gx); (try clear q1 q2 q3 q4 q5 q6 q7 q8); repeat (first | (clear hK hE hT; clear K) | (clear hR hE hT; clear K))) | assumption | skip))
            all_goals (refine post_a hres (.inl rfl) ?_; simp only [RSB, ENB, seval, tiAll, true_and]; simp only [MAB, seval]; refine ⟨rfl, rfl, ?_, ?_, ?_⟩ <;> (first | rfl | (simp [WKB, Nat.add_comm, true_and]; done) | (simp only [WKB, seval])))
          | true =>
            obtain ⟨n', k', _, g1, g2, g3, _, _⟩ := gv_facts c3
            have y6 : varS D ⟨q2, true⟩ = ⟨q2 + k', true⟩ := by unfold varS; rw [c3, g2]; rfl
            have y7 : varN D ⟨q2, true⟩ = gvN D q2 := by unfold varN; rw [c3]; rfl
            have y8 : numS D ⟨q2, true⟩ = ⟨q2 + k', true⟩ := by unfold numS; rw [c3, g2]; rfl
            rw [y8] at x6
            rw [x6] at hB eV
            rw [y6, y7] at n4
            dsimp only at eV hB
            generalize gvN D q2 = m at *
            generalize q2 + k' = q3 at *
            have hdl : (D.drop q3).length = D.length - q3 := List.length_drop ..
            have hdm : ((D.map bytK).drop q3).take (D.length - q3) = (D.drop q3).map bytK := by rw [List.take_of_length_le (by simp), List.map_drop]
            have cf := specValueFile_k (vrV D true) (by rw [eV]; exact ⟨by dsimp only; omega, by dsimp only; omega, by dsimp only; omega⟩)
            rw [Bool.true_and] at hB
            obtain ⟨V, hV⟩ : ∃ V, V = vrV D true := ⟨_, rfl⟩
            rw [← hV] at cf hB hR eV
            obtain ⟨w, hw⟩ : ∃ w, w = vfR V := ⟨_, rfl⟩
            obtain ⟨g, hg⟩ : ∃ g, g = vfB V := ⟨_, rfl⟩
            rw [← hw, ← hg] at cf hB
            clear hw hg hV
            rw [eV] at cf
            dsimp only at cf
            rw [hdl] at cf
            have t1 : (w.map bytK).take w.length = w.map bytK := List.take_of_length_le (by simp)
            cases g with
            | false =>
              obtain rfl : q = false := by rw [hB]; rfl
              rw [hM rfl]
              refine fnOK_of true mixed Try.func38 rfl (by rfl) (by rfl) ?_
              have hres := congrArg Array.toList Try.results38
              simp only [Try.ntmps38, BGB, seval]
              (have gx := And.intro (@List.length_map.{0,0}) (And.intro (@List.getElem_map.{0,0}) (And.intro (@bytK.eq_1) (And.intro (@List.length_map.{0,0}) (And.intro (@litN) (And.intro (@hdm) (And.intro Bool.not_true Bool.not_false)))))); have q1 := co; have q2 := n1; have q3 := n2; have q4 := n3; have q5 := l1; have q6 := l2; have q7 := n4; have q8 := cf; refine go ?_; (repeat' (first | exact Ef.mk | refine Lf.mk ?_ ?_ | refine fun (K : KT) hK hE hT => ?_ | refine fun (KS : Eff → Prop) hKS => ?_ | refine fun (D : List Keys → Prop) hD => ?_ | refine fun (hg : (_ : Prop)) => ?_ | fail)); all_goals (first | (refine Wr.mk ?_; (try clear gx); (try clear q1 q2 q3 q4 q5 q6 q7 q8); repeat (first | (clear hK hE hT; clear K) | (clear hR hE hT; clear K))) | assumption | skip))
              all_goals (refine post_a hres (.inl rfl) ?_; simp only [RSB, ENB, seval, tiAll, true_and]; simp only [MAB, seval]; refine ⟨rfl, rfl, ?_, ?_, ?_⟩ <;> (first | rfl | (simp [WKB, Nat.add_comm, true_and]; done) | (simp only [WKB, seval])))
            | true =>
              by_cases hwb : w = b
              · obtain rfl : q = true := by rw [hB, decide_eq_true hwb]; rfl
                rw [hR rfl, eV]
                refine fnOK_of true mixed Try.func38 rfl (by rfl) (by rfl) ?_
                have hres := congrArg Array.toList Try.results38
                simp only [Try.ntmps38, BGB, seval]
                (have gx := And.intro (@List.length_map.{0,0}) (And.intro (@List.getElem_map.{0,0}) (And.intro (@bytK.eq_1) (And.intro (@List.length_map.{0,0}) (And.intro (@litN) (And.intro (@hdm) (And.intro (@txt_ls) (And.intro (@map_take) (And.intro Bool.not_true Bool.not_false)))))))); have q1 := co; have q2 := n1; have q3 := n2; have q4 := n3; have q5 := l1; have q6 := l2; have q7 := n4; have q8 := cf; refine go ?_; (repeat' (first | exact Ef.mk | refine Lf.mk ?_ ?_ | refine fun (K : KT) hK hE hT => ?_ | refine fun (KS : Eff → Prop) hKS => ?_ | refine fun (D : List Keys → Prop) hD => ?_ | refine fun (hg : (_ : Prop)) => ?_ | fail)); all_goals (first | (refine Wr.mk ?_; (try clear gx); (try clear q1 q2 q3 q4 q5 q6 q7 q8); repeat (first | (clear hK hE hT; clear K) | (clear hR hE hT; clear K))) | assumption | skip))
                all_goals first | exact absurd hwb (by assumption) | (refine post_a hres (.inl rfl) ?_; simp only [RSB, ENB, seval, tiAll, hdl, hdm]; simp only [MAB, seval]; refine ⟨rfl, rfl, ?_, ?_, ?_⟩ <;> (first | rfl | (simp [WKB, Nat.add_comm, hdl, hdm]; done) | (simp only [WKB, seval])))
              · obtain rfl : q = false := by rw [hB, decide_eq_false hwb]; rfl
                rw [hM rfl]
                refine fnOK_of true mixed Try.func38 rfl (by rfl) (by rfl) ?_
                have hres := congrArg Array.toList Try.results38
                simp only [Try.ntmps38, BGB, seval]
                (have gx := And.intro (@List.length_map.{0,0}) (And.intro (@List.getElem_map.{0,0}) (And.intro (@bytK.eq_1) (And.intro (@List.length_map.{0,0}) (And.intro (@litN) (And.intro (@hdm) (And.intro (@txt_ls) (And.intro (@map_take) (And.intro Bool.not_true Bool.not_false)))))))); have q1 := co; have q2 := n1; have q3 := n2; have q4 := n3; have q5 := l1; have q6 := l2; have q7 := n4; have q8 := cf; refine go ?_; (repeat' (first | exact Ef.mk | refine Lf.mk ?_ ?_ | refine fun (K : KT) hK hE hT => ?_ | refine fun (KS : Eff → Prop) hKS => ?_ | refine fun (D : List Keys → Prop) hD => ?_ | refine fun (hg : (_ : Prop)) => ?_ | fail)); all_goals (first | (refine Wr.mk ?_; (try clear gx); (try clear q1 q2 q3 q4 q5 q6 q7 q8); repeat (first | (clear hK hE hT; clear K) | (clear hR hE hT; clear K))) | assumption | skip))
                all_goals first | exact (hwb (by assumption)).elim | (refine post_a hres (.inl rfl) ?_; simp only [RSB, ENB, seval, tiAll, true_and]; simp only [MAB, seval]; refine ⟨rfl, rfl, ?_, ?_, ?_⟩ <;> (first | rfl | (simp [WKB, Nat.add_comm, true_and]; done) | (simp only [WKB, seval])))

end Go.Proofs.Ytageceacjmmmdaa
