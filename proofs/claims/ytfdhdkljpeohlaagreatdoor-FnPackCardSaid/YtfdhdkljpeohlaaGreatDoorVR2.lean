/-
  Contracts: a file of values is read by the program. No conditions of its own.
-/
import Derived.Test.YtfdhdkljpeohlaaGreatDoorGO
import Derived.Test.YtfdhdkljpeohlaaGreatDoorZz6
import Derived.Test.YtfdhdkljpeohlaaGreatDoorF7
import Derived.Test.YtfdhdkljpeohlaaGreatDoorF2
namespace Go.Proofs.YtfdhdkljpeohlaaGreatDoor
set_option linter.unusedSimpArgs false
set_option linter.unusedVariables false
set_option linter.unusedSimpArgs false
set_option linter.unusedVariables false
set_option linter.defProp false
set_option maxRecDepth 20000
open Go.RowKit
attribute [local irreducible] lexD



set_option maxHeartbeats 4000000 in
theorem implGetFixN_k (b : List UInt8) (p : Nat) (hb : b.length ≤ 1099511627776) (hp : p ≤ 1099511627776) (h6 : ¬ p + 6 ≤ b.length) : FnOK Tryz.prog 90 ⟨1, [(0, some (.ro (b.map bytK)))], [.c (.sl 0 1 0 b.length), .c (.v (.int .i64 (p : Int)))],
    .tup [.inl (.v (.int .i64 0)), .inl (.v (.bool false))], [], 1⟩ := by
  refine fnOK_of true mixed Tryz.func90 rfl (by rfl) (by rfl) ?_
  have hres := congrArg Array.toList Tryz.results90
  simp only [Tryz.ntmps90, BGB, seval]
  (have gx := And.intro (@List.length_map.{0,0}) (And.intro @List.getElem_map.{0,0} @bytK.eq_1); refine go ?_; (repeat' first | exact Ef.mk | apply Lf.mk | refine fun (K : KT) hK hE hT => ?_ | refine fun (KS : KE) hKS => ?_ | refine fun (D : KD) hD => ?_ | refine fun (hg : (_ : Prop)) => ?_ | fail); all_goals (first | (refine Wr.mk ?_; (try clear gx); repeat first | clear hK hE hT K | clear hR hE hT K) | assumption | skip))
  all_goals (refine post_a hres (.inl rfl) ?_; simp only [RSB, ENB, seval, tiAll, true_and]; simp only [MAB, seval]; refine ⟨rfl, rfl, ?_, ?_, ?_⟩ <;> (first | rfl | (simp [WKB, Nat.add_comm, true_and]; done) | (simp only [WKB, seval])))

set_option maxHeartbeats 4000000 in
theorem fix_k (b : List UInt8) (s : RdS) (hb : b.length ≤ 1048576) (hp : s.p ≤ b.length) : FnOK Tryz.prog 80 ⟨2, [(0, some (.row 5 (b.map bytK))), (1, some (.box 74 [.sl 0 1 0 b.length, .v (.int .i64 ((s).p : Int)), .v (.bool (s).ok)]))], [.c (.ptr 1 0 0)], .c (.v (.int .i64 (fixV b s))), [(0, some (.row 5 (b.map bytK))), (1, some (.box 74 [.sl 0 1 0 b.length, .v (.int .i64 ((fixS b s).p : Int)), .v (.bool (fixS b s).ok)]))], 2⟩ := by
  by_cases h6 : s.p + 6 ≤ b.length
  · have c := implGetFix_k b s.p (by omega) (by omega) h6
    have e1 : fixV b s = ((gf b s.p 6 : Nat) : Int) := by unfold fixV; rw [if_pos h6]
    have e2 : fixS b s = ⟨s.p + 6, s.ok⟩ := by unfold fixS; rw [if_pos h6]
    rw [e1, e2]
    refine fnOK_of true mixed Tryz.func80 rfl (by rfl) (by rfl) ?_
    have hres := congrArg Array.toList Tryz.results80
    simp only [Tryz.ntmps80, BGB, seval]
    (have gx := And.intro (@List.length_map.{0,0}) (And.intro @List.getElem_map.{0,0} @bytK.eq_1); have q1 := c; refine go ?_; (repeat' first | exact Ef.mk | apply Lf.mk | refine fun (K : KT) hK hE hT => ?_ | refine fun (KS : KE) hKS => ?_ | refine fun (D : KD) hD => ?_ | refine fun (hg : (_ : Prop)) => ?_ | fail); all_goals (first | (refine Wr.mk ?_; (try clear gx q1); repeat first | clear hK hE hT K | clear hR hE hT K) | assumption | skip))
    all_goals (refine post_a hres (.inl rfl) ?_; simp only [RSB, ENB, seval, tiAll, true_and]; simp only [MAB, seval]; refine ⟨rfl, rfl, ?_, ?_, ?_⟩ <;> (first | rfl | (simp [WKB, Nat.add_comm, true_and]; done) | (simp only [WKB, seval])))
  · have c := implGetFixN_k b s.p (by omega) (by omega) h6
    have e1 : fixV b s = 0 := by unfold fixV; rw [if_neg h6]
    have e2 : fixS b s = ⟨s.p, false⟩ := by unfold fixS; rw [if_neg h6]
    rw [e1, e2]
    refine fnOK_of true mixed Tryz.func80 rfl (by rfl) (by rfl) ?_
    have hres := congrArg Array.toList Tryz.results80
    simp only [Tryz.ntmps80, BGB, seval]
    (have gx := And.intro (@List.length_map.{0,0}) (And.intro @List.getElem_map.{0,0} @bytK.eq_1); have q1 := c; refine go ?_; (repeat' first | exact Ef.mk | apply Lf.mk | refine fun (K : KT) hK hE hT => ?_ | refine fun (KS : KE) hKS => ?_ | refine fun (D : KD) hD => ?_ | refine fun (hg : (_ : Prop)) => ?_ | fail); all_goals (first | (refine Wr.mk ?_; (try clear gx q1); repeat first | clear hK hE hT K | clear hR hE hT K) | assumption | skip))
    all_goals (refine post_a hres (.inl rfl) ?_; simp only [RSB, ENB, seval, tiAll, true_and]; simp only [MAB, seval]; refine ⟨rfl, rfl, ?_, ?_, ?_⟩ <;> (first | rfl | (simp [WKB, Nat.add_comm, true_and]; done) | (simp only [WKB, seval])))

set_option maxHeartbeats 8000000 in
theorem list_k (b : List UInt8) (s : RdS) (hb : b.length ≤ 1048576) (hp : s.p ≤ b.length) : FnOK Tryz.prog 47 ⟨2, [(0, some (.row 5 (b.map bytK))), (1, some (.box 74 [.sl 0 1 0 b.length, .v (.int .i64 ((s).p : Int)), .v (.bool (s).ok)]))], [.c (.ptr 1 0 0)], .c (.sl 2 1 0 (lsR b s).1.length), [(0, some (.row 5 (b.map bytK))), (1, some (.box 74 [.sl 0 1 0 b.length, .v (.int .i64 (((lsR b s).2).p : Int)), .v (.bool ((lsR b s).2).ok)])), (2, some (.row 3 ((lsR b s).1.map intK)))], 3⟩ := by
  have c1 := numW_k b s hb hp
  have hn := lsN_eq b s
  have hm := lsN_max b s
  have hI := lsI_n (b := b) (s := s)
  have hIp := lsI_le (b := b) hp
  have hS := numS_le (b := b) hp
  obtain ⟨R, hR0⟩ : ∃ R, R = lsR b s := ⟨_, rfl⟩
  have hRd : R = lsGo b (lsN b s) [] (lsI b s) := hR0
  rw [← hR0]
  clear hR0
  have e1 : lsI b s = if 400 < lsN b s then ⟨(numS b s).p, false⟩ else numS b s := rfl
  rw [hn] at c1
  obtain ⟨t, ht⟩ : ∃ t, t = lsI b s := ⟨_, rfl⟩
  rw [← ht] at hI hIp e1 hRd
  obtain ⟨n, hn'⟩ : ∃ n, n = lsN b s := ⟨_, rfl⟩
  rw [← hn'] at hm hI e1 hRd c1
  clear ht hn hn'
  obtain ⟨u, hu⟩ : ∃ u, u = numS b s := ⟨_, rfl⟩
  rw [← hu] at c1 hS e1
  clear hu
  refine fnOK_of true mixed Tryz.func47 rfl (by rfl) (by rfl) ?_
  have hres := congrArg Array.toList Tryz.results47
  simp only [Tryz.ntmps47, BGB, seval]
  (have gx := And.intro (@List.length_map.{0,0}) (And.intro @List.getElem_map.{0,0} @bytK.eq_1); have q1 := c1; refine go ?_; (repeat' first | exact Ef.mk | apply Lf.mk | refine fun (K : KT) hK hE hT => ?_ | refine fun (KS : KE) hKS => ?_ | refine fun (D : KD) hD => ?_ | refine fun (hg : (_ : Prop)) => ?_ | fail); all_goals (first | (refine Wr.mk ?_; (try clear gx q1); repeat first | clear hK hE hT K | clear hR hE hT K) | assumption | skip))
  · skip
    have et : t = (⟨u.p, false⟩ : RdS) := (by rw [e1, if_pos (by omega)])
    have etp : ((⟨u.p, false⟩ : RdS)).p = t.p := by rw [et]
    have eto : ((⟨u.p, false⟩ : RdS)).ok = t.ok := by rw [et]
    try dsimp only at etp eto
    refine loop_v (X := {x : Nat × List Int × RdS // ((x.1 ≤ n ∧ x.2.1.length + x.1 = n) ∧ x.2.2.p ≤ b.length) ∧ Rnd ((x.2.2.ok = true → n ≤ 400) ∧ lsGo b x.1 x.2.1 x.2.2 = R)}) [] (fun x => [(4, .c (.sl 2 1 0 x.1.2.1.length)), (5, .c (.v (.int .i64 ((n : Int) - ((x.1.1 : Nat) : Int)))))]) (fun x => [(0, some (.row 5 (b.map bytK))), (1, some (.box 74 [.sl 0 1 0 b.length, .v (.int .i64 ((x.1.2.2).p : Int)), .v (.bool (x.1.2.2).ok)])), (2, some (.row 3 (x.1.2.1.map intK)))]) 3 (fun x => x.1.1) ⟨(n, [], t), ⟨⟨⟨Nat.le_refl _, by simp⟩, hIp⟩, ⟨hI, hRd.symm⟩⟩⟩ ?_
    simp only [KPB, seval]
    refine ⟨?_, ?_⟩
    · (refine wk_a ?_; simp only [MAB, seval]; refine ⟨rfl, rfl, (by decide), ?_, ?_⟩; all_goals (first | (simp only [WKB, seval, etp, eto, Int.sub_self]; done) | (simp [WKB, seval, etp, eto, Int.sub_self]; done) | simp only [WKB, seval]))
    · rintro ⟨⟨m, l, ⟨p, o⟩⟩, ⟨⟨⟨hm1, hm2⟩, hzp⟩, hz⟩⟩ K hR hE hT
      obtain ⟨hz1, hz2⟩ := hz.out
      dsimp only at hm1 hm2 hzp hz1 hz2 ⊢
      cases o with
      | false =>
        rw [lsGo_bad rfl] at hz2
        subst hz2
        (have gx := And.intro (@List.length_map.{0,0}) (And.intro @List.getElem_map.{0,0} @bytK.eq_1); refine go ?_; (repeat' first | exact Ef.mk | apply Lf.mk | refine fun (K : KT) hK hE hT => ?_ | refine fun (KS : KE) hKS => ?_ | refine fun (D : KD) hD => ?_ | refine fun (hg : (_ : Prop)) => ?_ | fail); all_goals (first | (refine Wr.mk ?_; (try clear gx); repeat first | clear hK hE hT K | clear hR hE hT K) | assumption | skip))
        all_goals (refine post_a hres (.inl rfl) ?_; simp only [RSB, ENB, seval, tiAll, true_and]; simp only [MAB, seval]; refine ⟨rfl, rfl, ?_, ?_, ?_⟩ <;> (first | rfl | (simp [WKB, Nat.add_comm, true_and]; done) | (simp only [WKB, seval])))
      | true =>
        have hn := hz1 rfl
        cases m with
        | zero =>
          have e2 : lsGo b 0 l ⟨p, true⟩ = (l, ⟨p, true⟩) := rfl
          rw [e2] at hz2
          subst hz2
          (have gx := And.intro (@List.length_map.{0,0}) (And.intro @List.getElem_map.{0,0} @bytK.eq_1); refine go ?_; (repeat' first | exact Ef.mk | apply Lf.mk | refine fun (K : KT) hK hE hT => ?_ | refine fun (KS : KE) hKS => ?_ | refine fun (D : KD) hD => ?_ | refine fun (hg : (_ : Prop)) => ?_ | fail); all_goals (first | (refine Wr.mk ?_; (try clear gx); repeat first | clear hK hE hT K | clear hR hE hT K) | assumption | skip))
          all_goals (refine post_a hres (.inl rfl) ?_; simp only [RSB, ENB, seval, tiAll, true_and]; simp only [MAB, seval]; refine ⟨rfl, rfl, ?_, ?_, ?_⟩ <;> (first | rfl | (simp [WKB, Nat.add_comm, true_and]; done) | (simp only [WKB, seval])))
        | succ m =>
          rw [lsGo_step rfl] at hz2
          have cf := fix_k b ⟨p, true⟩ hb hzp
          have hp2 := fixS_le (b := b) (s := ⟨p, true⟩) hzp
          (have gx := And.intro (@List.length_map.{0,0}) (And.intro (@List.getElem_map.{0,0}) (And.intro @bytK.eq_1 @intK.eq_1)); have q1 := cf; refine go ?_; (repeat' first | exact Ef.mk | apply Lf.mk | refine fun (K : KT) hK hE hT => ?_ | refine fun (KS : KE) hKS => ?_ | refine fun (D : KD) hD => ?_ | refine fun (hg : (_ : Prop)) => ?_ | fail); all_goals (first | (refine Wr.mk ?_; (try clear gx q1); repeat first | clear hK hE hT K | clear hR hE hT K) | assumption | skip))
          all_goals
            refine hR.out ⟨(m, l ++ [fixV b ⟨p, true⟩], fixS b ⟨p, true⟩), ⟨⟨⟨by omega, by simp; omega⟩, hp2⟩, ⟨fun _ => hn, hz2⟩⟩⟩ _ _ _ (by simp only; omega) ?_
            have e5 : (n : Int) - ((m + 1 : Nat) : Int) + 1 = (n : Int) - (m : Int) := by omega
            (refine wk_a ?_; simp only [MAB, seval]; refine ⟨rfl, rfl, (by decide), ?_, ?_⟩; all_goals (first | (simp only [WKB, seval, e5, intK, List.map_append, List.length_append, List.length_cons, List.length_nil, Nat.zero_add]; done) | (simp [WKB, seval, e5, intK, List.map_append, List.length_append, List.length_cons, List.length_nil, Nat.zero_add]; done) | simp only [WKB, seval]))
  · skip
    have et : t = u := (by rw [e1, if_neg (by omega)])
    have etp : (u).p = t.p := by rw [et]
    have eto : (u).ok = t.ok := by rw [et]
    try dsimp only at etp eto
    refine loop_v (X := {x : Nat × List Int × RdS // ((x.1 ≤ n ∧ x.2.1.length + x.1 = n) ∧ x.2.2.p ≤ b.length) ∧ Rnd ((x.2.2.ok = true → n ≤ 400) ∧ lsGo b x.1 x.2.1 x.2.2 = R)}) [] (fun x => [(4, .c (.sl 2 1 0 x.1.2.1.length)), (5, .c (.v (.int .i64 ((n : Int) - ((x.1.1 : Nat) : Int)))))]) (fun x => [(0, some (.row 5 (b.map bytK))), (1, some (.box 74 [.sl 0 1 0 b.length, .v (.int .i64 ((x.1.2.2).p : Int)), .v (.bool (x.1.2.2).ok)])), (2, some (.row 3 (x.1.2.1.map intK)))]) 3 (fun x => x.1.1) ⟨(n, [], t), ⟨⟨⟨Nat.le_refl _, by simp⟩, hIp⟩, ⟨hI, hRd.symm⟩⟩⟩ ?_
    simp only [KPB, seval]
    refine ⟨?_, ?_⟩
    · (refine wk_a ?_; simp only [MAB, seval]; refine ⟨rfl, rfl, (by decide), ?_, ?_⟩; all_goals (first | (simp only [WKB, seval, etp, eto, Int.sub_self]; done) | (simp [WKB, seval, etp, eto, Int.sub_self]; done) | simp only [WKB, seval]))
    · rintro ⟨⟨m, l, ⟨p, o⟩⟩, ⟨⟨⟨hm1, hm2⟩, hzp⟩, hz⟩⟩ K hR hE hT
      obtain ⟨hz1, hz2⟩ := hz.out
      dsimp only at hm1 hm2 hzp hz1 hz2 ⊢
      cases o with
      | false =>
        rw [lsGo_bad rfl] at hz2
        subst hz2
        (have gx := And.intro (@List.length_map.{0,0}) (And.intro @List.getElem_map.{0,0} @bytK.eq_1); refine go ?_; (repeat' first | exact Ef.mk | apply Lf.mk | refine fun (K : KT) hK hE hT => ?_ | refine fun (KS : KE) hKS => ?_ | refine fun (D : KD) hD => ?_ | refine fun (hg : (_ : Prop)) => ?_ | fail); all_goals (first | (refine Wr.mk ?_; (try clear gx); repeat first | clear hK hE hT K | clear hR hE hT K) | assumption | skip))
        all_goals (refine post_a hres (.inl rfl) ?_; simp only [RSB, ENB, seval, tiAll, true_and]; simp only [MAB, seval]; refine ⟨rfl, rfl, ?_, ?_, ?_⟩ <;> (first | rfl | (simp [WKB, Nat.add_comm, true_and]; done) | (simp only [WKB, seval])))
      | true =>
        have hn := hz1 rfl
        cases m with
        | zero =>
          have e2 : lsGo b 0 l ⟨p, true⟩ = (l, ⟨p, true⟩) := rfl
          rw [e2] at hz2
          subst hz2
          (have gx := And.intro (@List.length_map.{0,0}) (And.intro @List.getElem_map.{0,0} @bytK.eq_1); refine go ?_; (repeat' first | exact Ef.mk | apply Lf.mk | refine fun (K : KT) hK hE hT => ?_ | refine fun (KS : KE) hKS => ?_ | refine fun (D : KD) hD => ?_ | refine fun (hg : (_ : Prop)) => ?_ | fail); all_goals (first | (refine Wr.mk ?_; (try clear gx); repeat first | clear hK hE hT K | clear hR hE hT K) | assumption | skip))
          all_goals (refine post_a hres (.inl rfl) ?_; simp only [RSB, ENB, seval, tiAll, true_and]; simp only [MAB, seval]; refine ⟨rfl, rfl, ?_, ?_, ?_⟩ <;> (first | rfl | (simp [WKB, Nat.add_comm, true_and]; done) | (simp only [WKB, seval])))
        | succ m =>
          rw [lsGo_step rfl] at hz2
          have cf := fix_k b ⟨p, true⟩ hb hzp
          have hp2 := fixS_le (b := b) (s := ⟨p, true⟩) hzp
          (have gx := And.intro (@List.length_map.{0,0}) (And.intro (@List.getElem_map.{0,0}) (And.intro @bytK.eq_1 @intK.eq_1)); have q1 := cf; refine go ?_; (repeat' first | exact Ef.mk | apply Lf.mk | refine fun (K : KT) hK hE hT => ?_ | refine fun (KS : KE) hKS => ?_ | refine fun (D : KD) hD => ?_ | refine fun (hg : (_ : Prop)) => ?_ | fail); all_goals (first | (refine Wr.mk ?_; (try clear gx q1); repeat first | clear hK hE hT K | clear hR hE hT K) | assumption | skip))
          all_goals
            refine hR.out ⟨(m, l ++ [fixV b ⟨p, true⟩], fixS b ⟨p, true⟩), ⟨⟨⟨by omega, by simp; omega⟩, hp2⟩, ⟨fun _ => hn, hz2⟩⟩⟩ _ _ _ (by simp only; omega) ?_
            have e5 : (n : Int) - ((m + 1 : Nat) : Int) + 1 = (n : Int) - (m : Int) := by omega
            (refine wk_a ?_; simp only [MAB, seval]; refine ⟨rfl, rfl, (by decide), ?_, ?_⟩; all_goals (first | (simp only [WKB, seval, e5, intK, List.map_append, List.length_append, List.length_cons, List.length_nil, Nat.zero_add]; done) | (simp [WKB, seval, e5, intK, List.map_append, List.length_append, List.length_cons, List.length_nil, Nat.zero_add]; done) | simp only [WKB, seval]))

end Go.Proofs.YtfdhdkljpeohlaaGreatDoor

