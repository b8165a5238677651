/-
  Contracts: a file of values is read by the program. No conditions of its own.
-/
import Derived.Test.YtfdhdkljpeohlaaGreatDoorGO
import Derived.Test.YtfdhdkljpeohlaaGreatDoorVR2
namespace Go.Proofs.YtfdhdkljpeohlaaGreatDoor
set_option linter.unusedSimpArgs false
set_option linter.unusedVariables false
set_option linter.unusedSimpArgs false
set_option linter.unusedVariables false
set_option linter.defProp false
set_option maxRecDepth 20000
open Go.RowKit
attribute [local irreducible] lexD

set_option maxHeartbeats 4000000 in
theorem sameBytes_k (a b : List UInt8) (ha : a.length ≤ 1048576) (hb : b.length ≤ 1048576) : FnOK Tryz.prog 49 ⟨2, [(0, some (.ro (a.map bytK))), (1, some (.ro (b.map bytK)))], [.c (.sl 0 1 0 a.length), .c (.sl 1 1 0 b.length)], .c (.v (.bool (decide (a = b)))), [], 2⟩ := by
  have e : decide (a = b) = (a == b) := by rw [Bool.eq_iff_iff]; simp
  rw [e]
  refine fnOK_of true mixed Tryz.func49 rfl (by rfl) (by rfl) ?_
  have hres := congrArg Array.toList Tryz.results49
  simp only [Tryz.ntmps49, BGB, seval]
  (have gx := And.intro (@List.length_map.{0,0}) (And.intro (@List.getElem_map.{0,0}) (And.intro (@bytK.eq_1) (And.intro @txt_ls @map_take))); refine go ?_; (repeat' first | exact Ef.mk | apply Lf.mk | refine fun (K : KT) hK hE hT => ?_ | refine fun (KS : KE) hKS => ?_ | refine fun (D : KD) hD => ?_ | refine fun (hg : (_ : Prop)) => ?_ | fail); all_goals (first | (refine Wr.mk ?_; (try clear gx); repeat first | clear hK hE hT K | clear hR hE hT K) | assumption | skip))
  all_goals (refine post_a hres (.inl rfl) ?_; simp only [RSB, ENB, seval, tiAll, true_and]; simp only [MAB, seval]; refine ⟨rfl, rfl, ?_, ?_, ?_⟩ <;> (first | rfl | (simp [WKB, Nat.add_comm, true_and]; done) | (simp only [WKB, seval])))

set_option maxHeartbeats 16000000 in
theorem implValueRead_k (b : List UInt8) (hb : b.length ≤ 1048576) : FnOK Tryz.prog 16 ⟨1, [(0, some (.ro (b.map bytK)))], [.c (.sl 0 1 0 b.length)],
    .tup [.inr [.v (.int .i64 (vrR b).Job.Prog), .v (.int .i64 (vrR b).Job.Src), .v (.int .i64 (vrR b).Iter), .sl 1 1 0 ((vrR b).Vals).length, .sl 2 1 0 ((vrR b).EVals).length, .v (.int .i64 (vrR b).Next.N), .sl 3 1 0 ((vrR b).Next.Bits).length], .inl (.v (.bool (vrB b)))], [(1, some (.row 3 (((vrR b).Vals).map intK))), (2, some (.row 3 (((vrR b).EVals).map intK))), (3, some (.row 5 (((vrR b).Next.Bits).map bytK)))], 4⟩ := by
  have co := implFrameOnly_k b 2 hb
  have lD := foD_len b 2
  have hB : vrB b = (vrC b && (vfB (vrV (foD b 2) (foB b 2)) && decide (vfR (vrV (foD b 2) (foB b 2)) = b))) := rfl
  have hR := fun h => vr_yes (b := b) h
  have hN := fun h => vr_no (b := b) h
  obtain ⟨r, hr⟩ : ∃ r, r = vrR b := ⟨_, rfl⟩
  obtain ⟨q, hq⟩ : ∃ q, q = vrB b := ⟨_, rfl⟩
  rw [← hq] at hB hR hN
  rw [← hr] at hR hN
  rw [← hr, ← hq]
  clear hr hq
  unfold vrC at hB
  obtain ⟨D, hD⟩ : ∃ D, D = foD b 2 := ⟨_, rfl⟩
  obtain ⟨k, hk⟩ : ∃ k, k = foB b 2 := ⟨_, rfl⟩
  rw [← hD, ← hk] at co hB hR
  rw [← hD] at lD
  clear hD hk
  have w0 : (⟨0, k⟩ : RdS).p ≤ D.length := Nat.zero_le _
  have n1 := numW_k D ⟨0, k⟩ (by omega) w0
  have w1 := numS_le w0
  have n2 := numW_k D _ (by omega) w1
  have w2 := numS_le w1
  have n3 := numW_k D _ (by omega) w2
  have w3 := numS_le w2
  have l1 := list_k D _ (by omega) w3
  have w4 := lsR_le w3
  have l2 := list_k D _ (by omega) w4
  have w5 := lsR_le w4
  have n4 := numW_k D _ (by omega) w5
  have w6 := numS_le w5
  have lm1 := lsR_len D (numS D (numS D (numS D ⟨0, k⟩)))
  have lm2 := lsR_len D (lsR D (numS D (numS D (numS D ⟨0, k⟩)))).2
  have eV : vrV D k = ⟨⟨gvN D 0, gvN D (numS D ⟨0, k⟩).p⟩, gvN D (numS D (numS D ⟨0, k⟩)).p, (lsR D (numS D (numS D (numS D ⟨0, k⟩)))).1, (lsR D (lsR D (numS D (numS D (numS D ⟨0, k⟩)))).2).1, ⟨gvN D (lsR D (lsR D (numS D (numS D (numS D ⟨0, k⟩)))).2).2.p, D.drop (numS D (lsR D (lsR D (numS D (numS D (numS D ⟨0, k⟩)))).2).2).p⟩⟩ := rfl
  have e6 : vrS D k 6 = numS D (lsR D (lsR D (numS D (numS D (numS D ⟨0, k⟩)))).2).2 := rfl
  rw [e6] at hB
  obtain ⟨V, hV⟩ : ∃ V, V = vrV D k := ⟨_, rfl⟩
  rw [← hV] at hB hR eV
  clear hV e6
  obtain ⟨z1, h1⟩ : ∃ z, z = numS D ⟨0, k⟩ := ⟨_, rfl⟩
  simp only [← h1] at n1 n2 n3 l1 l2 n4 w1 w2 w3 w4 w5 w6 lm1 lm2 eV hB
  obtain ⟨z2, h2⟩ : ∃ z, z = numS D z1 := ⟨_, rfl⟩
  simp only [← h2] at n2 n3 l1 l2 n4 w2 w3 w4 w5 w6 lm1 lm2 eV hB
  obtain ⟨z3, h3⟩ : ∃ z, z = numS D z2 := ⟨_, rfl⟩
  simp only [← h3] at n3 l1 l2 n4 w3 w4 w5 w6 lm1 lm2 eV hB
  obtain ⟨a1, h4⟩ : ∃ z, z = lsR D z3 := ⟨_, rfl⟩
  simp only [← h4] at l1 l2 n4 w4 w5 w6 lm1 lm2 eV hB
  obtain ⟨a2, h5⟩ : ∃ z, z = lsR D a1.2 := ⟨_, rfl⟩
  simp only [← h5] at l2 n4 w5 w6 lm2 eV hB
  obtain ⟨z6, h6⟩ : ∃ z, z = numS D a2.2 := ⟨_, rfl⟩
  simp only [← h6] at n4 w6 eV hB
  clear h1 h2 h3 h4 h5 h6
  obtain ⟨v1, y4⟩ := a1
  obtain ⟨v2, y5⟩ := a2
  dsimp only at l1 l2 n4 w4 w5 lm1 lm2 eV
  obtain ⟨p6, o6⟩ := z6
  dsimp only at w6 hB eV n4
  cases o6 with
  | false =>
    obtain rfl : q = false := by rw [hB]; rfl
    rw [hN rfl]
    refine fnOK_of true mixed Tryz.func16 rfl (by rfl) (by rfl) ?_
    have hres := congrArg Array.toList Tryz.results16
    simp only [Tryz.ntmps16, BGB, seval]
    (have gx := And.intro (@List.length_map.{0,0}) (And.intro (@List.getElem_map.{0,0}) (And.intro @bytK.eq_1 @List.length_map.{0,0})); have q1 := co; have q2 := n1; have q3 := n2; have q4 := n3; have q5 := l1; have q6 := l2; have q7 := n4; refine go ?_; (repeat' first | exact Ef.mk | apply Lf.mk | refine fun (K : KT) hK hE hT => ?_ | refine fun (KS : KE) hKS => ?_ | refine fun (D : KD) hD => ?_ | refine fun (hg : (_ : Prop)) => ?_ | fail); all_goals (first | (refine Wr.mk ?_; (try clear gx q1 q2 q3 q4 q5 q6 q7); repeat first | clear hK hE hT K | clear hR hE hT K) | assumption | skip))
    all_goals (refine post_a hres (.inl rfl) ?_; simp only [RSB, ENB, seval, tiAll, true_and]; simp only [MAB, seval]; refine ⟨rfl, rfl, ?_, ?_, ?_⟩ <;> (first | rfl | (simp [WKB, Nat.add_comm, true_and]; done) | (simp only [WKB, seval])))
  | true =>
    have hdl : (D.drop p6).length = D.length - p6 := List.length_drop ..
    have cb := copyBytes_k (D.drop p6) (by omega)
    have hdm : ((D.map bytK).drop p6).take (D.length - p6) = (D.drop p6).map bytK := by rw [List.take_of_length_le (by simp), List.map_drop]
    have cf := implValueFile_k V (by rw [eV]; exact ⟨by dsimp only; omega, by dsimp only; omega, by dsimp only; omega⟩)
    have lf : (vfR V).length ≤ 1048576 := by
      unfold vfR; split
      · unfold fbR; split
        · rename_i ho
          unfold frO at ho
          rw [decide_eq_true_eq] at ho
          rw [fbL_len]; omega
        · simp
      · simp
    have cs := sameBytes_k (vfR V) b lf hb
    obtain ⟨w, hw⟩ : ∃ w, w = vfR V := ⟨_, rfl⟩
    obtain ⟨g, hg⟩ : ∃ g, g = vfB V := ⟨_, rfl⟩
    rw [← hw] at cf cs lf hB
    rw [← hg] at cf hB
    clear hw hg
    rw [Bool.true_and] at hB
    rw [eV] at cf
    rw [hdl] at cb
    dsimp only at cf
    rw [hdl] at cf
    cases g with
    | false =>
      obtain rfl : q = false := by rw [hB]; rfl
      rw [hN rfl]
      refine fnOK_of true mixed Tryz.func16 rfl (by rfl) (by rfl) ?_
      have hres := congrArg Array.toList Tryz.results16
      simp only [Tryz.ntmps16, BGB, seval]
      (have gx := And.intro (@List.length_map.{0,0}) (And.intro (@List.getElem_map.{0,0}) (And.intro (@bytK.eq_1) (And.intro (@List.length_map.{0,0}) (And.intro @litN @hdm)))); have q1 := co; have q2 := n1; have q3 := n2; have q4 := n3; have q5 := l1; have q6 := l2; have q7 := n4; have q8 := cb; have q9 := cf; refine go ?_; (repeat' first | exact Ef.mk | apply Lf.mk | refine fun (K : KT) hK hE hT => ?_ | refine fun (KS : KE) hKS => ?_ | refine fun (D : KD) hD => ?_ | refine fun (hg : (_ : Prop)) => ?_ | fail); all_goals (first | (refine Wr.mk ?_; (try clear gx q1 q2 q3 q4 q5 q6 q7 q8 q9); repeat first | clear hK hE hT K | clear hR hE hT K) | assumption | skip))
      all_goals (refine post_a hres (.inl rfl) ?_; simp only [RSB, ENB, seval, tiAll, true_and]; simp only [MAB, seval]; refine ⟨rfl, rfl, ?_, ?_, ?_⟩ <;> (first | rfl | (simp [WKB, Nat.add_comm, true_and]; done) | (simp only [WKB, seval])))
    | true =>
      by_cases hwb : w = b
      · obtain rfl : q = true := by rw [hB, decide_eq_true hwb]; rfl
        rw [decide_eq_true hwb] at cs
        rw [hR rfl, eV]
        refine fnOK_of true mixed Tryz.func16 rfl (by rfl) (by rfl) ?_
        have hres := congrArg Array.toList Tryz.results16
        simp only [Tryz.ntmps16, BGB, seval]
        (have gx := And.intro (@List.length_map.{0,0}) (And.intro (@List.getElem_map.{0,0}) (And.intro (@bytK.eq_1) (And.intro (@List.length_map.{0,0}) (And.intro @litN @hdm)))); have q1 := co; have q2 := n1; have q3 := n2; have q4 := n3; have q5 := l1; have q6 := l2; have q7 := n4; have q8 := cb; have q9 := cf; have q10 := cs; refine go ?_; (repeat' first | exact Ef.mk | apply Lf.mk | refine fun (K : KT) hK hE hT => ?_ | refine fun (KS : KE) hKS => ?_ | refine fun (D : KD) hD => ?_ | refine fun (hg : (_ : Prop)) => ?_ | fail); all_goals (first | (refine Wr.mk ?_; (try clear gx q1 q2 q3 q4 q5 q6 q7 q8 q9 q10); repeat first | clear hK hE hT K | clear hR hE hT K) | assumption | skip))
        all_goals (refine post_a hres (.inl rfl) ?_; simp only [RSB, ENB, seval, tiAll, hdl, hdm]; simp only [MAB, seval]; refine ⟨rfl, rfl, ?_, ?_, ?_⟩ <;> (first | rfl | (simp [WKB, Nat.add_comm, hdl, hdm]; done) | (simp only [WKB, seval])))
      · obtain rfl : q = false := by rw [hB, decide_eq_false hwb]; rfl
        rw [decide_eq_false hwb] at cs
        rw [hN rfl]
        refine fnOK_of true mixed Tryz.func16 rfl (by rfl) (by rfl) ?_
        have hres := congrArg Array.toList Tryz.results16
        simp only [Tryz.ntmps16, BGB, seval]
        (have gx := And.intro (@List.length_map.{0,0}) (And.intro (@List.getElem_map.{0,0}) (And.intro (@bytK.eq_1) (And.intro (@List.length_map.{0,0}) (And.intro @litN @hdm)))); have q1 := co; have q2 := n1; have q3 := n2; have q4 := n3; have q5 := l1; have q6 := l2; have q7 := n4; have q8 := cb; have q9 := cf; have q10 := cs; refine go ?_; (repeat' first | exact Ef.mk | apply Lf.mk | refine fun (K : KT) hK hE hT => ?_ | refine fun (KS : KE) hKS => ?_ | refine fun (D : KD) hD => ?_ | refine fun (hg : (_ : Prop)) => ?_ | fail); all_goals (first | (refine Wr.mk ?_; (try clear gx q1 q2 q3 q4 q5 q6 q7 q8 q9 q10); repeat first | clear hK hE hT K | clear hR hE hT K) | assumption | skip))
        all_goals (refine post_a hres (.inl rfl) ?_; simp only [RSB, ENB, seval, tiAll, true_and]; simp only [MAB, seval]; refine ⟨rfl, rfl, ?_, ?_, ?_⟩ <;> (first | rfl | (simp [WKB, Nat.add_comm, true_and]; done) | (simp only [WKB, seval])))

end Go.Proofs.YtfdhdkljpeohlaaGreatDoor

