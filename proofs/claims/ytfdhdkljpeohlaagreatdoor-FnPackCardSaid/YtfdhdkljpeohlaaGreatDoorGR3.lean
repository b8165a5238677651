/-
  Contract: a shard is read by the program. No conditions of its own.
-/
import Derived.Test.YtfdhdkljpeohlaaGreatDoorGO
import Derived.Test.YtfdhdkljpeohlaaGreatDoorZz6
namespace Go.Proofs.YtfdhdkljpeohlaaGreatDoor
set_option linter.unusedSimpArgs false
set_option linter.unusedVariables false
set_option linter.unusedSimpArgs false
set_option linter.unusedVariables false
set_option linter.defProp false
set_option maxRecDepth 20000
open Go.RowKit
attribute [local irreducible] lexD

def zB (z : SEdgeD) (p : Nat) : Prop := (-(((p : Int) + 4) * 70368744177664) ≤ z.From ∧ z.From ≤ ((p : Int) + 4) * 70368744177664) ∧ (-(((p : Int) + 4) * 70368744177664) ≤ z.To ∧ z.To ≤ ((p : Int) + 4) * 70368744177664) ∧ (-(((p : Int) + 4) * 70368744177664) ≤ z.Index ∧ z.Index ≤ ((p : Int) + 4) * 70368744177664)
theorem zB_zero {lo : Int} (h : 0 ≤ lo ∧ lo ≤ 281474976710655) (p : Nat) : zB ⟨0, lo, 0, 0, 0⟩ p := by
  unfold zB
  dsimp only
  omega
theorem zB_step {b : List UInt8} {z : SEdgeD} {s : RdS} (ho : s.ok = true) (hz : zB z s.p) (h : (egI b z s).2.ok = true) : zB (egI b z s).1 (egI b z s).2.p := by
  rcases eg_both (b := b) (z := z) ho with ⟨a1, _⟩ | ⟨_, _, a3, _⟩
  · rw [a1] at h; cases h
  · have g1 := gvN_max b s.p
    have g2 := uz_bd (gvN_max b (numS b s).p)
    have g4 := uz_bd (gvN_max b (numS b (numS b (numS b s))).p)
    generalize (egI b z s).2.p = q at a3 ⊢
    unfold egI
    unfold zB at hz ⊢
    dsimp only
    omega
theorem zB_in {z : SEdgeD} {p : Nat} (h : zB z p) (hp : p ≤ 60000) : (-4222406222147944448 ≤ z.From ∧ z.From ≤ 4222406222147944448) ∧ (-4222406222147944448 ≤ z.To ∧ z.To ≤ 4222406222147944448) ∧ (-4222406222147944448 ≤ z.Index ∧ z.Index ≤ 4222406222147944448) := by
  unfold zB at h
  omega


set_option maxHeartbeats 8000000 in
theorem shardI_k (b : List UInt8) (s : RdS) (hb : b.length ≤ 60000) (hp : s.p ≤ b.length) : FnOK Tryz.prog 30 ⟨2, [(0, some (.row 5 (b.map bytK))), (1, some (.box 74 [.sl 0 1 0 b.length, .v (.int .i64 ((s).p : Int)), .v (.bool (s).ok)]))], [.c (.ptr 1 0 0)], .agg [.v (.int .i64 (siD b s).Lo), .v (.int .i64 (siD b s).Hi), .sl 2 5 0 ((siD b s).Edges).length], [(0, some (.row 5 (b.map bytK))), (1, some (.box 74 [.sl 0 1 0 b.length, .v (.int .i64 (((siS b s)).p : Int)), .v (.bool ((siS b s)).ok)])), (2, some (.row 108 (((siD b s).Edges).map SEdgeD.k)))], 3⟩ := by
  have w1 := numS_le (b := b) hp
  have w2 := numS_le w1
  have c1 := numW_k b s (by omega) hp
  have c2 := numW_k b _ (by omega) w1
  have c3 := numW_k b _ (by omega) w2
  have hlm := gvN_max b s.p
  have hnm := gvN_max b (numS b (numS b s)).p
  have hIp := siT_le (b := b) hp
  have hD : siD b s = ⟨gvN b s.p, gvN b (numS b s).p, (siR b s).1⟩ := rfl
  have hS : siS b s = ⟨(siR b s).2.p, (siR b s).2.ok && pB (ShOk (siD b s))⟩ := rfl
  have hRd : siR b s = shGo b (siN b s) [] ⟨0, gvN b s.p, 0, 0, 0⟩ (siT b s) := rfl
  have eT : siT b s = if 400 < siN b s then ⟨(numS b (numS b (numS b s))).p, false⟩ else numS b (numS b (numS b s)) := rfl
  have eN : siN b s = (gvN b (numS b (numS b s)).p).toNat := rfl
  have hI : (siT b s).ok = true → siN b s ≤ 400 := by
    intro h
    unfold siT at h
    split at h
    · cases h
    · omega
  have hn : gvN b (numS b (numS b s)).p = ((siN b s : Nat) : Int) := by rw [eN]; omega
  clear eN
  rw [hD] at hS
  rw [hS, hD]
  clear hS hD
  obtain ⟨R, hR0⟩ : ∃ R, R = siR b s := ⟨_, rfl⟩
  rw [← hR0] at hRd ⊢
  clear hR0
  rw [hn] at c3 hnm
  obtain ⟨t, ht⟩ : ∃ t, t = siT b s := ⟨_, rfl⟩
  rw [← ht] at hI hIp eT hRd
  obtain ⟨n, hn'⟩ : ∃ n, n = siN b s := ⟨_, rfl⟩
  rw [← hn'] at hI eT hRd c3 hnm
  clear ht hn hn'
  obtain ⟨lo, h1⟩ : ∃ x, x = gvN b s.p := ⟨_, rfl⟩
  obtain ⟨hi, h2⟩ : ∃ x, x = gvN b (numS b s).p := ⟨_, rfl⟩
  rw [← h1] at c1 hlm hRd ⊢
  rw [← h2] at c2 ⊢
  clear h1 h2
  obtain ⟨u1, h1⟩ : ∃ x, x = numS b s := ⟨_, rfl⟩
  simp only [← h1] at c1 c2 c3 w1 w2 eT
  obtain ⟨u2, h2⟩ : ∃ x, x = numS b u1 := ⟨_, rfl⟩
  simp only [← h2] at c2 c3 w2 eT
  obtain ⟨u, h3⟩ : ∃ x, x = numS b u2 := ⟨_, rfl⟩
  simp only [← h3] at c3 eT
  clear h1 h2 h3
  dsimp only
  refine fnOK_of true mixed Tryz.func30 rfl (by rfl) (by rfl) ?_
  have hres := congrArg Array.toList Tryz.results30
  simp only [Tryz.ntmps30, BGB, seval]
  (have gx := And.intro (@List.length_map.{0,0}) (And.intro (@List.getElem_map.{0,0}) (And.intro @bytK.eq_1 @SEdgeD.s.eq_1)); have q1 := c1; have q2 := c2; have q3 := c3; refine go ?_; (repeat' first | exact Ef.mk | apply Lf.mk | refine fun (K : KT) hK hE hT => ?_ | refine fun (KS : KE) hKS => ?_ | refine fun (D : KD) hD => ?_ | refine fun (hg : (_ : Prop)) => ?_ | fail); all_goals (first | (refine Wr.mk ?_; (try clear gx q1 q2 q3); repeat first | clear hK hE hT K | clear hR hE hT K) | assumption | skip))
  · skip
    have et : t = (⟨u.p, false⟩ : RdS) := (by rw [eT, if_pos (by omega)])
    have etp : ((⟨u.p, false⟩ : RdS)).p = t.p := by rw [et]
    have eto : ((⟨u.p, false⟩ : RdS)).ok = t.ok := by rw [et]
    try dsimp only at etp eto
    refine loop_v (X := {x : Nat × List SEdgeD × SEdgeD × RdS // ((x.1 ≤ n ∧ x.2.1.length + x.1 = n) ∧ x.2.2.2.p ≤ b.length) ∧ Rnd ((x.2.2.2.ok = true → n ≤ 400 ∧ zB x.2.2.1 x.2.2.2.p) ∧ shGo b x.1 x.2.1 x.2.2.1 x.2.2.2 = R)}) [] (fun x => [(6, .c (.v (.int .i64 ((n : Int) - ((x.1.1 : Nat) : Int)))))]) (fun x => [(0, some (.row 5 (b.map bytK))), (1, some (.box 74 [.sl 0 1 0 b.length, .v (.int .i64 ((x.1.2.2.2).p : Int)), .v (.bool (x.1.2.2.2).ok)])), (2, some (.box 39 [.v (.int .i64 0), .v (.int .i64 0), .nil])), (3, some (.box 39 [.v (.int .i64 lo), .v (.int .i64 hi), .sl 5 5 0 x.1.2.1.length])), (4, some (.box 108 (SEdgeD.s x.1.2.2.1))), (5, some (.row 108 (x.1.2.1.map SEdgeD.k)))]) 6 (fun x => x.1.1) ⟨(n, [], ⟨0, lo, 0, 0, 0⟩, t), ⟨⟨⟨Nat.le_refl _, by simp⟩, hIp⟩, ⟨fun h => ⟨hI h, zB_zero hlm _⟩, hRd.symm⟩⟩⟩ ?_
    simp only [KPB, seval]
    refine ⟨?_, ?_⟩
    · (refine wk_a ?_; simp only [MAB, seval]; refine ⟨rfl, rfl, (by decide), ?_, ?_⟩; all_goals (first | (simp only [WKB, seval, etp, eto, Int.sub_self, SEdgeD.s]; done) | (simp [WKB, seval, etp, eto, Int.sub_self, SEdgeD.s]; done) | simp only [WKB, seval]))
    · rintro ⟨⟨m, l, z, ⟨p, o⟩⟩, ⟨⟨⟨hm1, hm2⟩, hzp⟩, hz⟩⟩ K hR hE hT
      obtain ⟨hz1, hz2⟩ := hz.out
      dsimp only at hm1 hm2 hzp hz1 hz2 ⊢
      cases o with
      | false =>
        rw [shGo_bad rfl] at hz2
        subst hz2
        (have gx := And.intro (@List.length_map.{0,0}) (And.intro (@List.getElem_map.{0,0}) (And.intro @bytK.eq_1 @List.length_map.{0,0})); refine go ?_; (repeat' first | exact Ef.mk | apply Lf.mk | refine fun (K : KT) hK hE hT => ?_ | refine fun (KS : KE) hKS => ?_ | refine fun (D : KD) hD => ?_ | refine fun (hg : (_ : Prop)) => ?_ | fail); all_goals (first | (refine Wr.mk ?_; (try clear gx); repeat first | clear hK hE hT K | clear hR hE hT K) | assumption | skip))
        all_goals (refine post_a hres (.inl rfl) ?_; simp only [RSB, ENB, seval, tiAll, Bool.false_and]; simp only [MAB, seval]; refine ⟨rfl, rfl, ?_, ?_, ?_⟩ <;> (first | rfl | (simp [WKB, Nat.add_comm, Bool.false_and]; done) | (simp only [WKB, seval])))
      | true =>
        obtain ⟨hn, hzb⟩ := hz1 rfl
        cases m with
        | zero =>
          have e2 : shGo b 0 l z ⟨p, true⟩ = (l, ⟨p, true⟩) := rfl
          rw [e2] at hz2
          subst hz2
          have co := implShardOk_k ⟨lo, hi, l⟩ (by dsimp only; omega)
          dsimp only at co
          (have gx := And.intro (@List.length_map.{0,0}) (And.intro (@List.getElem_map.{0,0}) (And.intro @bytK.eq_1 @List.length_map.{0,0})); have q1 := co; refine go ?_; (repeat' first | exact Ef.mk | apply Lf.mk | refine fun (K : KT) hK hE hT => ?_ | refine fun (KS : KE) hKS => ?_ | refine fun (D : KD) hD => ?_ | refine fun (hg : (_ : Prop)) => ?_ | fail); all_goals (first | (refine Wr.mk ?_; (try clear gx q1); repeat first | clear hK hE hT K | clear hR hE hT K) | assumption | skip))
          all_goals (refine post_a hres (.inl rfl) ?_; simp only [RSB, ENB, seval, tiAll, Bool.true_and]; simp only [MAB, seval]; refine ⟨rfl, rfl, ?_, ?_, ?_⟩ <;> (first | rfl | (simp [WKB, Nat.add_comm, Bool.true_and]; done) | (simp only [WKB, seval])))
        | succ m =>
          rw [shGo_step rfl] at hz2
          have hst := fun h => zB_step (b := b) (z := z) (s := ⟨p, true⟩) rfl hzb h
          obtain ⟨⟨f1, f2⟩, ⟨f3, f4⟩, ⟨f5, f6⟩⟩ := zB_in hzb (by omega)
          have hEp := egI_le (b := b) (z := z) (s := ⟨p, true⟩) hzp
          have eE : egI b z ⟨p, true⟩ = (⟨z.From + gvN b p, z.To + uz (gvN b (numS b ⟨p, true⟩).p), gvN b (numS b (numS b ⟨p, true⟩)).p, z.Index + uz (gvN b (numS b (numS b (numS b ⟨p, true⟩))).p), 0⟩, numS b (numS b (numS b (numS b ⟨p, true⟩)))) := rfl
          have g1 := gvN_max b p
          have w1 := numS_le (b := b) (s := ⟨p, true⟩) hzp
          have w2 := numS_le w1
          have w3 := numS_le w2
          have g2 := uz_bd (gvN_max b (numS b ⟨p, true⟩).p)
          have g4 := uz_bd (gvN_max b (numS b (numS b (numS b ⟨p, true⟩))).p)
          have c1 := numW_k b ⟨p, true⟩ (by omega) hzp
          have c2 := zigW_k b _ (by omega) w1
          have c3 := numW_k b _ (by omega) w2
          have c4 := zigW_k b _ (by omega) w3
          obtain ⟨E, hE0⟩ : ∃ E, E = egI b z ⟨p, true⟩ := ⟨_, rfl⟩
          rw [← hE0] at hz2 hst hEp eE
          clear hE0
          obtain ⟨s1, h1⟩ : ∃ s, s = numS b ⟨p, true⟩ := ⟨_, rfl⟩
          simp only [← h1] at eE w1 w2 w3 g2 g4 c1 c2 c3 c4
          obtain ⟨s2, h2⟩ : ∃ s, s = numS b s1 := ⟨_, rfl⟩
          simp only [← h2] at eE w2 w3 g4 c2 c3 c4
          obtain ⟨s3, h3⟩ : ∃ s, s = numS b s2 := ⟨_, rfl⟩
          simp only [← h3] at eE w3 g4 c3 c4
          obtain ⟨s4, h4⟩ : ∃ s, s = numS b s3 := ⟨_, rfl⟩
          simp only [← h4] at eE c4
          clear h1 h2 h3 h4
          try dsimp only at c1
          obtain ⟨v1, h1⟩ : ∃ s, s = gvN b p := ⟨_, rfl⟩
          rw [← h1] at eE g1 c1
          obtain ⟨v2, h2⟩ : ∃ s, s = uz (gvN b s1.p) := ⟨_, rfl⟩
          rw [← h2] at eE g2 c2
          obtain ⟨v3, h3⟩ : ∃ s, s = gvN b s2.p := ⟨_, rfl⟩
          rw [← h3] at eE c3
          obtain ⟨v4, h4⟩ : ∃ s, s = uz (gvN b s3.p) := ⟨_, rfl⟩
          rw [← h4] at eE g4 c4
          clear h1 h2 h3 h4
          subst eE
          try dsimp only at hz2 hst hEp
          (have gx := And.intro (@List.length_map.{0,0}) (And.intro (@List.getElem_map.{0,0}) (And.intro (@bytK.eq_1) (And.intro @SEdgeD.s.eq_1 @List.length_map.{0,0}))); have q1 := c1; have q2 := c2; have q3 := c3; have q4 := c4; refine go ?_; (repeat' first | exact Ef.mk | apply Lf.mk | refine fun (K : KT) hK hE hT => ?_ | refine fun (KS : KE) hKS => ?_ | refine fun (D : KD) hD => ?_ | refine fun (hg : (_ : Prop)) => ?_ | fail); all_goals (first | (refine Wr.mk ?_; (try clear gx q1 q2 q3 q4); repeat first | clear hK hE hT K | clear hR hE hT K) | assumption | skip))
          all_goals
            refine hR.out ⟨(m, l ++ [⟨z.From + v1, z.To + v2, v3, z.Index + v4, 0⟩], ⟨z.From + v1, z.To + v2, v3, z.Index + v4, 0⟩, s4), ⟨⟨⟨by omega, by simp; omega⟩, hEp⟩, ⟨fun h => ⟨hn, hst h⟩, hz2⟩⟩⟩ _ _ _ (by simp only; omega) ?_
            have e5 : (n : Int) - ((m + 1 : Nat) : Int) + 1 = (n : Int) - (m : Int) := by omega
            (refine wk_a ?_; simp only [MAB, seval]; refine ⟨rfl, rfl, (by decide), ?_, ?_⟩; all_goals (first | (simp only [WKB, seval, e5, SEdgeD.s, SEdgeD.k, List.map_append, List.length_append, List.length_cons, List.length_nil, Nat.zero_add]; done) | (simp [WKB, seval, e5, SEdgeD.s, SEdgeD.k, List.map_append, List.length_append, List.length_cons, List.length_nil, Nat.zero_add]; done) | simp only [WKB, seval]))
  · skip
    have et : t = u := (by rw [eT, if_neg (by omega)])
    have etp : (u).p = t.p := by rw [et]
    have eto : (u).ok = t.ok := by rw [et]
    try dsimp only at etp eto
    refine loop_v (X := {x : Nat × List SEdgeD × SEdgeD × RdS // ((x.1 ≤ n ∧ x.2.1.length + x.1 = n) ∧ x.2.2.2.p ≤ b.length) ∧ Rnd ((x.2.2.2.ok = true → n ≤ 400 ∧ zB x.2.2.1 x.2.2.2.p) ∧ shGo b x.1 x.2.1 x.2.2.1 x.2.2.2 = R)}) [] (fun x => [(6, .c (.v (.int .i64 ((n : Int) - ((x.1.1 : Nat) : Int)))))]) (fun x => [(0, some (.row 5 (b.map bytK))), (1, some (.box 74 [.sl 0 1 0 b.length, .v (.int .i64 ((x.1.2.2.2).p : Int)), .v (.bool (x.1.2.2.2).ok)])), (2, some (.box 39 [.v (.int .i64 0), .v (.int .i64 0), .nil])), (3, some (.box 39 [.v (.int .i64 lo), .v (.int .i64 hi), .sl 5 5 0 x.1.2.1.length])), (4, some (.box 108 (SEdgeD.s x.1.2.2.1))), (5, some (.row 108 (x.1.2.1.map SEdgeD.k)))]) 6 (fun x => x.1.1) ⟨(n, [], ⟨0, lo, 0, 0, 0⟩, t), ⟨⟨⟨Nat.le_refl _, by simp⟩, hIp⟩, ⟨fun h => ⟨hI h, zB_zero hlm _⟩, hRd.symm⟩⟩⟩ ?_
    simp only [KPB, seval]
    refine ⟨?_, ?_⟩
    · (refine wk_a ?_; simp only [MAB, seval]; refine ⟨rfl, rfl, (by decide), ?_, ?_⟩; all_goals (first | (simp only [WKB, seval, etp, eto, Int.sub_self, SEdgeD.s]; done) | (simp [WKB, seval, etp, eto, Int.sub_self, SEdgeD.s]; done) | simp only [WKB, seval]))
    · rintro ⟨⟨m, l, z, ⟨p, o⟩⟩, ⟨⟨⟨hm1, hm2⟩, hzp⟩, hz⟩⟩ K hR hE hT
      obtain ⟨hz1, hz2⟩ := hz.out
      dsimp only at hm1 hm2 hzp hz1 hz2 ⊢
      cases o with
      | false =>
        rw [shGo_bad rfl] at hz2
        subst hz2
        (have gx := And.intro (@List.length_map.{0,0}) (And.intro (@List.getElem_map.{0,0}) (And.intro @bytK.eq_1 @List.length_map.{0,0})); refine go ?_; (repeat' first | exact Ef.mk | apply Lf.mk | refine fun (K : KT) hK hE hT => ?_ | refine fun (KS : KE) hKS => ?_ | refine fun (D : KD) hD => ?_ | refine fun (hg : (_ : Prop)) => ?_ | fail); all_goals (first | (refine Wr.mk ?_; (try clear gx); repeat first | clear hK hE hT K | clear hR hE hT K) | assumption | skip))
        all_goals (refine post_a hres (.inl rfl) ?_; simp only [RSB, ENB, seval, tiAll, Bool.false_and]; simp only [MAB, seval]; refine ⟨rfl, rfl, ?_, ?_, ?_⟩ <;> (first | rfl | (simp [WKB, Nat.add_comm, Bool.false_and]; done) | (simp only [WKB, seval])))
      | true =>
        obtain ⟨hn, hzb⟩ := hz1 rfl
        cases m with
        | zero =>
          have e2 : shGo b 0 l z ⟨p, true⟩ = (l, ⟨p, true⟩) := rfl
          rw [e2] at hz2
          subst hz2
          have co := implShardOk_k ⟨lo, hi, l⟩ (by dsimp only; omega)
          dsimp only at co
          (have gx := And.intro (@List.length_map.{0,0}) (And.intro (@List.getElem_map.{0,0}) (And.intro @bytK.eq_1 @List.length_map.{0,0})); have q1 := co; refine go ?_; (repeat' first | exact Ef.mk | apply Lf.mk | refine fun (K : KT) hK hE hT => ?_ | refine fun (KS : KE) hKS => ?_ | refine fun (D : KD) hD => ?_ | refine fun (hg : (_ : Prop)) => ?_ | fail); all_goals (first | (refine Wr.mk ?_; (try clear gx q1); repeat first | clear hK hE hT K | clear hR hE hT K) | assumption | skip))
          all_goals (refine post_a hres (.inl rfl) ?_; simp only [RSB, ENB, seval, tiAll, Bool.true_and]; simp only [MAB, seval]; refine ⟨rfl, rfl, ?_, ?_, ?_⟩ <;> (first | rfl | (simp [WKB, Nat.add_comm, Bool.true_and]; done) | (simp only [WKB, seval])))
        | succ m =>
          rw [shGo_step rfl] at hz2
          have hst := fun h => zB_step (b := b) (z := z) (s := ⟨p, true⟩) rfl hzb h
          obtain ⟨⟨f1, f2⟩, ⟨f3, f4⟩, ⟨f5, f6⟩⟩ := zB_in hzb (by omega)
          have hEp := egI_le (b := b) (z := z) (s := ⟨p, true⟩) hzp
          have eE : egI b z ⟨p, true⟩ = (⟨z.From + gvN b p, z.To + uz (gvN b (numS b ⟨p, true⟩).p), gvN b (numS b (numS b ⟨p, true⟩)).p, z.Index + uz (gvN b (numS b (numS b (numS b ⟨p, true⟩))).p), 0⟩, numS b (numS b (numS b (numS b ⟨p, true⟩)))) := rfl
          have g1 := gvN_max b p
          have w1 := numS_le (b := b) (s := ⟨p, true⟩) hzp
          have w2 := numS_le w1
          have w3 := numS_le w2
          have g2 := uz_bd (gvN_max b (numS b ⟨p, true⟩).p)
          have g4 := uz_bd (gvN_max b (numS b (numS b (numS b ⟨p, true⟩))).p)
          have c1 := numW_k b ⟨p, true⟩ (by omega) hzp
          have c2 := zigW_k b _ (by omega) w1
          have c3 := numW_k b _ (by omega) w2
          have c4 := zigW_k b _ (by omega) w3
          obtain ⟨E, hE0⟩ : ∃ E, E = egI b z ⟨p, true⟩ := ⟨_, rfl⟩
          rw [← hE0] at hz2 hst hEp eE
          clear hE0
          obtain ⟨s1, h1⟩ : ∃ s, s = numS b ⟨p, true⟩ := ⟨_, rfl⟩
          simp only [← h1] at eE w1 w2 w3 g2 g4 c1 c2 c3 c4
          obtain ⟨s2, h2⟩ : ∃ s, s = numS b s1 := ⟨_, rfl⟩
          simp only [← h2] at eE w2 w3 g4 c2 c3 c4
          obtain ⟨s3, h3⟩ : ∃ s, s = numS b s2 := ⟨_, rfl⟩
          simp only [← h3] at eE w3 g4 c3 c4
          obtain ⟨s4, h4⟩ : ∃ s, s = numS b s3 := ⟨_, rfl⟩
          simp only [← h4] at eE c4
          clear h1 h2 h3 h4
          try dsimp only at c1
          obtain ⟨v1, h1⟩ : ∃ s, s = gvN b p := ⟨_, rfl⟩
          rw [← h1] at eE g1 c1
          obtain ⟨v2, h2⟩ : ∃ s, s = uz (gvN b s1.p) := ⟨_, rfl⟩
          rw [← h2] at eE g2 c2
          obtain ⟨v3, h3⟩ : ∃ s, s = gvN b s2.p := ⟨_, rfl⟩
          rw [← h3] at eE c3
          obtain ⟨v4, h4⟩ : ∃ s, s = uz (gvN b s3.p) := ⟨_, rfl⟩
          rw [← h4] at eE g4 c4
          clear h1 h2 h3 h4
          subst eE
          try dsimp only at hz2 hst hEp
          (have gx := And.intro (@List.length_map.{0,0}) (And.intro (@List.getElem_map.{0,0}) (And.intro (@bytK.eq_1) (And.intro @SEdgeD.s.eq_1 @List.length_map.{0,0}))); have q1 := c1; have q2 := c2; have q3 := c3; have q4 := c4; refine go ?_; (repeat' first | exact Ef.mk | apply Lf.mk | refine fun (K : KT) hK hE hT => ?_ | refine fun (KS : KE) hKS => ?_ | refine fun (D : KD) hD => ?_ | refine fun (hg : (_ : Prop)) => ?_ | fail); all_goals (first | (refine Wr.mk ?_; (try clear gx q1 q2 q3 q4); repeat first | clear hK hE hT K | clear hR hE hT K) | assumption | skip))
          all_goals
            refine hR.out ⟨(m, l ++ [⟨z.From + v1, z.To + v2, v3, z.Index + v4, 0⟩], ⟨z.From + v1, z.To + v2, v3, z.Index + v4, 0⟩, s4), ⟨⟨⟨by omega, by simp; omega⟩, hEp⟩, ⟨fun h => ⟨hn, hst h⟩, hz2⟩⟩⟩ _ _ _ (by simp only; omega) ?_
            have e5 : (n : Int) - ((m + 1 : Nat) : Int) + 1 = (n : Int) - (m : Int) := by omega
            (refine wk_a ?_; simp only [MAB, seval]; refine ⟨rfl, rfl, (by decide), ?_, ?_⟩; all_goals (first | (simp only [WKB, seval, e5, SEdgeD.s, SEdgeD.k, List.map_append, List.length_append, List.length_cons, List.length_nil, Nat.zero_add]; done) | (simp [WKB, seval, e5, SEdgeD.s, SEdgeD.k, List.map_append, List.length_append, List.length_cons, List.length_nil, Nat.zero_add]; done) | simp only [WKB, seval]))

end Go.Proofs.YtfdhdkljpeohlaaGreatDoor

