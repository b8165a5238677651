/-
  Contracts: farms, drawn. No conditions of its own.
-/
import Derived.Test.YtfdhdkljpeohlaaGreatDoorGO
import Derived.Test.YtfdhdkljpeohlaaGreatDoorDF1
import Derived.Test.YtfdhdkljpeohlaaGreatDoorMD
import Derived.Test.YtfdhdkljpeohlaaGreatDoorMCT
import Derived.Test.YtfdhdkljpeohlaaGreatDoorMQA
import Derived.Test.YtfdhdkljpeohlaaGreatDoorZz6
namespace Go.Proofs.YtfdhdkljpeohlaaGreatDoor
set_option linter.unusedSimpArgs false
set_option linter.unusedVariables false
set_option linter.unusedSimpArgs false
set_option linter.unusedVariables false
set_option linter.defProp false
set_option maxRecDepth 20000
open Go.RowKit
attribute [local irreducible] lexD

def vlTo (b : List UInt8) (c : Cu) : Nat → List Int × Cu
  | 0 => ([], c)
  | k + 1 => ((vlTo b c k).1 ++ [bwV b (vlTo b c k).2 99], bwC b (vlTo b c k).2 99)
theorem vlTo_len (b : List UInt8) (c : Cu) : ∀ k, (vlTo b c k).1.length = k
  | 0 => rfl
  | k + 1 => by
    show ((vlTo b c k).1 ++ [_]).length = _
    rw [List.length_append, vlTo_len b c k]; rfl
theorem vlTo_le {b : List UInt8} {c : Cu} (hb : b.length ≤ 1048576) (h : c.i ≤ 1048576) : ∀ k, (vlTo b c k).2.i ≤ 1048576
  | 0 => h
  | k + 1 => bwC_le hb (vlTo_le hb h k) _
/-- A value of another kind is put in. -/
def vlP (b : List UInt8) (c : Cu) (n : Nat) : Prop := 0 < n ∧ bwV b (vlTo b c n).2 8 = 0
instance (b : List UInt8) (c : Cu) (n : Nat) : Decidable (vlP b c n) := inferInstanceAs (Decidable (_ ∧ _))
def vlD (b : List UInt8) (c : Cu) (n : Nat) : Cu := bwC b (vlTo b c n).2 8
def vlV (b : List UInt8) (c : Cu) (n : Nat) : List Int := if vlP b c n then (vlTo b c n).1.set (bwV b (vlD b c n) n).toNat (rwV b (bwC b (vlD b c n) n)) else (vlTo b c n).1
def vlC (b : List UInt8) (c : Cu) (n : Nat) : Cu := if vlP b c n then rwC b (bwC b (vlD b c n) n) else if 0 < n then vlD b c n else (vlTo b c n).2
theorem vlV_len (b : List UInt8) (c : Cu) (n : Nat) : (vlV b c n).length = n := by
  unfold vlV
  split
  · rw [List.length_set, vlTo_len]
  · exact vlTo_len b c n
set_option maxHeartbeats 8000000 in
theorem l08Vals_k (b : List UInt8) (c : Cu) (n : Nat) (hb : b.length ≤ 1048576) (hc : c.i ≤ 1048576) (hn : n ≤ 256) : FnOK Tryz.prog 59 ⟨2, [(0, some (.ro (b.map bytK))), (1, some (.box 97 [.sl 0 1 0 b.length, .v (.int .i64 (c.i : Int)), .v (.int .i64 c.h)]))], [.c (.ptr 1 0 0), .c (.v (.int .i64 (n : Int)))],
    .c (.sl 2 1 0 n), [(1, some (.box 97 [.sl 0 1 0 b.length, .v (.int .i64 ((vlC b c n).i : Int)), .v (.int .i64 (vlC b c n).h)])), (2, some (.row 3 ((vlV b c n).map intK)))], 3⟩ := by
  have hll := vlTo_len b c
  have hle := vlTo_le (c := c) hb hc
  have hst : ∀ k, vlTo b c (k + 1) = ((vlTo b c k).1 ++ [bwV b (vlTo b c k).2 99], bwC b (vlTo b c k).2 99) := fun _ => rfl
  have hz : vlTo b c 0 = ([], c) := rfl
  have hV : vlV b c n = if vlP b c n then (vlTo b c n).1.set (bwV b (vlD b c n) n).toNat (rwV b (bwC b (vlD b c n) n)) else (vlTo b c n).1 := rfl
  have hC : vlC b c n = if vlP b c n then rwC b (bwC b (vlD b c n) n) else if 0 < n then vlD b c n else (vlTo b c n).2 := rfl
  have hP : vlP b c n ↔ 0 < n ∧ bwV b (vlTo b c n).2 8 = 0 := Iff.rfl
  have hD : vlD b c n = bwC b (vlTo b c n).2 8 := rfl
  rw [hV, hC]
  clear hV hC
  obtain ⟨G, hG⟩ : ∃ G : Nat → List Int × Cu, G = vlTo b c := ⟨_, rfl⟩
  simp only [← hG] at hll hle hst hz hP hD ⊢
  clear hG
  refine fnOK_of true mixed Tryz.func59 rfl (by rfl) (by rfl) ?_
  have hres := congrArg Array.toList Tryz.results59
  simp only [Tryz.ntmps59, BGB, seval]
  (have gx := true_and True; refine go ?_; (repeat' first | exact Ef.mk | apply Lf.mk | refine fun (K : KT) hK hE hT => ?_ | refine fun (KS : KE) hKS => ?_ | refine fun (D : KD) hD => ?_ | refine fun (hg : (_ : Prop)) => ?_ | fail); all_goals (first | (refine Wr.mk ?_; (try clear gx); repeat first | clear hK hE hT K | clear hR hE hT K) | assumption | skip))
  refine loop_v (X := {k : Nat // k ≤ n}) [7] (fun x => [(5, .c (.sl 2 1 0 x.1)), (6, .c (.v (.int .i64 ((x.1 : Nat) : Int))))]) (fun x => [(0, some (.ro (b.map bytK))), (1, some (.box 97 [.sl 0 1 0 b.length, .v (.int .i64 ((G x.1).2.i : Int)), .v (.int .i64 (G x.1).2.h)])), (2, some (.row 3 ((G x.1).1.map intK)))]) 3 (fun x => n - x.1) ⟨0, by omega⟩ ?_
  simp only [KPB, seval]
  refine ⟨?_, ?_⟩
  · (refine wk_a ?_; simp only [MAB, seval]; refine ⟨rfl, rfl, (by decide), ?_, ?_⟩; all_goals (first | (simp only [WKB, seval, hz, List.map_nil]; done) | (simp [WKB, seval, hz, List.map_nil]; done) | simp only [WKB, seval]))
  · rintro ⟨k, hk⟩ K hR hE hT
    have l1 := hll k
    have l2 := hle k
    rcases Nat.lt_or_ge k n with hlt | hge
    case inl =>
      have e := hst k
      have kb := l01Below_k b (G k).2 99 hb l2 (by decide)
      obtain ⟨⟨L, d⟩, hLd⟩ : ∃ x, x = G k := ⟨_, rfl⟩
      simp only [← hLd] at l1 l2 e kb ⊢
      (have gx := And.intro @List.length_map.{0,0} @l1; have q1 := kb; refine go ?_; (repeat' first | exact Ef.mk | apply Lf.mk | refine fun (K : KT) hK hE hT => ?_ | refine fun (KS : KE) hKS => ?_ | refine fun (D : KD) hD => ?_ | refine fun (hg : (_ : Prop)) => ?_ | fail); all_goals (first | (refine Wr.mk ?_; (try clear gx q1); repeat first | clear hK hE hT K | clear hR hE hT K) | assumption | skip))
      (refine hR.out ⟨k + 1, by omega⟩ _ _ _ (by simp only; omega) ?_; (refine wk_a ?_; simp only [MAB, seval]; refine ⟨rfl, rfl, (by decide), ?_, ?_⟩; all_goals (first | (simp only [WKB, seval, e, List.map_append, List.map_cons, List.map_nil, intK]; done) | (simp [WKB, seval, e, List.map_append, List.map_cons, List.map_nil, intK]; done) | simp only [WKB, seval])))
    case inr =>
      obtain rfl : k = n := by omega
      have kb := l01Below_k b (G k).2 8 hb l2 (by decide)
      have kl := bwC_le (b := b) (c := (G k).2) hb l2 8
      obtain ⟨⟨L, d⟩, hLd⟩ : ∃ x, x = G k := ⟨_, rfl⟩
      simp only [← hLd] at l1 l2 hP hD kb kl
      by_cases hp : 0 < k ∧ bwV b d 8 = 0
      · have e1 : vlP b c k := hP.2 hp
        have kc := l01Below_k b (bwC b d 8) k hb kl (by omega)
        have kr := bwV_rng b (bwC b d 8) (n := (k : Int)) (by omega)
        have kd := l01Raw_k b (bwC b (bwC b d 8) k) hb (bwC_le hb kl _)
        rw [hp.2] at kb
        obtain ⟨i, hi⟩ : ∃ i : Nat, bwV b (bwC b d 8) k = (i : Int) := ⟨(bwV b (bwC b d 8) k).toNat, by omega⟩
        rw [hi] at kc kr
        have hset : (L.map intK).set i [.v (.int .i64 (rwV b (bwC b (bwC b d 8) k)))] = (L.set i (rwV b (bwC b (bwC b d 8) k))).map intK := by rw [List.map_set]; rfl
        obtain ⟨r, hr⟩ : ∃ r, r = rwV b (bwC b (bwC b d 8) k) := ⟨_, rfl⟩
        rw [← hr] at kd hset
        simp only [← hLd]
        (have gx := And.intro (@List.length_map.{0,0}) (And.intro (@List.getElem_map.{0,0}) (And.intro @intK.eq_1 @l1)); have q1 := kb; have q2 := kc; have q3 := kd; refine go ?_; (repeat' first | exact Ef.mk | apply Lf.mk | refine fun (K : KT) hK hE hT => ?_ | refine fun (KS : KE) hKS => ?_ | refine fun (D : KD) hD => ?_ | refine fun (hg : (_ : Prop)) => ?_ | fail); all_goals (first | (refine Wr.mk ?_; (try clear gx q1 q2 q3); repeat first | clear hK hE hT K | clear hR hE hT K) | assumption | skip))
        all_goals first | (exfalso; omega) | (refine post_a hres (.inl rfl) ?_; simp only [RSB, ENB, seval, tiAll, if_pos e1, hD, ← hLd, hi, Int.toNat_natCast, ← hr, hset]; simp only [MAB, seval]; refine ⟨rfl, rfl, ?_, ?_, ?_⟩ <;> (first | rfl | (simp [WKB, Nat.add_comm, if_pos e1, hD, ← hLd, hi, Int.toNat_natCast, ← hr, hset]; done) | (simp only [WKB, seval])))
      · have e1 : ¬ vlP b c k := fun h => hp (hP.1 h)
        simp only [← hLd]
        rcases Nat.eq_zero_or_pos k with k0 | k0
        · have e2 : ¬ 0 < k := by omega
          (have gx := And.intro @List.length_map.{0,0} @l1; have q1 := kb; refine go ?_; (repeat' first | exact Ef.mk | apply Lf.mk | refine fun (K : KT) hK hE hT => ?_ | refine fun (KS : KE) hKS => ?_ | refine fun (D : KD) hD => ?_ | refine fun (hg : (_ : Prop)) => ?_ | fail); all_goals (first | (refine Wr.mk ?_; (try clear gx q1); repeat first | clear hK hE hT K | clear hR hE hT K) | assumption | skip))
          all_goals first | (exfalso; omega) | (refine post_a hres (.inl rfl) ?_; simp only [RSB, ENB, seval, tiAll, if_neg e1, if_neg e2, ← hLd]; simp only [MAB, seval]; refine ⟨rfl, rfl, ?_, ?_, ?_⟩ <;> (first | rfl | (simp [WKB, Nat.add_comm, if_neg e1, if_neg e2, ← hLd]; done) | (simp only [WKB, seval])))
        · have hb0 : bwV b d 8 ≠ 0 := fun q => hp ⟨k0, q⟩
          obtain ⟨q, hq⟩ : ∃ q, q = bwV b d 8 := ⟨_, rfl⟩
          rw [← hq] at kb hb0
          (have gx := And.intro @List.length_map.{0,0} @l1; have q1 := kb; refine go ?_; (repeat' first | exact Ef.mk | apply Lf.mk | refine fun (K : KT) hK hE hT => ?_ | refine fun (KS : KE) hKS => ?_ | refine fun (D : KD) hD => ?_ | refine fun (hg : (_ : Prop)) => ?_ | fail); all_goals (first | (refine Wr.mk ?_; (try clear gx q1); repeat first | clear hK hE hT K | clear hR hE hT K) | assumption | skip))
          all_goals first | (exfalso; omega) | (refine post_a hres (.inl rfl) ?_; simp only [RSB, ENB, seval, tiAll, if_neg e1, if_pos k0, hD, ← hLd]; simp only [MAB, seval]; refine ⟨rfl, rfl, ?_, ?_, ?_⟩ <;> (first | rfl | (simp [WKB, Nat.add_comm, if_neg e1, if_pos k0, hD, ← hLd]; done) | (simp only [WKB, seval])))

/-! A farm. -/
theorem gdG_ok (b : List UInt8) (c : Cu) : graphOk (gdG b c) = true ∧ (gdG b c).Edges.length ≤ 14 := by
  have r0 := bwV_rng b c (n := 9) (by decide)
  have r1 := bwV_rng b (bwC b c 9) (n := 14) (by decide)
  unfold gdG
  split
  · exact ⟨rfl, by simp⟩
  · have o1 : (gdS b c).1.length = gdM b c := egTo_len b _ _ _
    have o2 : gdM b c < 14 := by unfold gdM; omega
    refine ⟨?_, by dsimp only; omega⟩
    unfold graphOk
    rw [Bool.and_eq_true, decide_eq_true_eq]
    exact ⟨⟨r0.1, by show bwV b c 9 ≤ 150; omega, by show (gdS b c).1.length ≤ 400; omega⟩, egTo_ok b (by omega) _ _⟩
def fdB (b : List UInt8) (c : Cu) : Int := 1 + bwV b (gdC b c) 6
def fdS (b : List UInt8) (c : Cu) : Int := 1 + bwV b (bwC b (gdC b c) 6) 5
def fdA (b : List UInt8) (c : Cu) : FarmD := farmR (gdG b c) (fdB b c) (fdS b c)
def fdC3 (b : List UInt8) (c : Cu) : Cu := bwC b (bwC b (gdC b c) 6) 5
def fdV (b : List UInt8) (c : Cu) : List Int := vlV b (fdC3 b c) (gdG b c).Edges.length
noncomputable def fdF (b : List UInt8) (c : Cu) : FarmD := if pB (FwOk (fdA b c) (fdV b c)) then fwR (fdA b c) (fdV b c) else fdA b c
def fdC (b : List UInt8) (c : Cu) : Cu := vlC b (fdC3 b c) (gdG b c).Edges.length
theorem fdA_ok (b : List UInt8) (c : Cu) : fmOk (gdG b c) (fdB b c) (fdS b c) = true ∧ FarmOk (fdA b c) ∧ edSum (fdA b c).Shards = (gdG b c).Edges.length := by
  have r0 := bwV_rng b (gdC b c) (n := 6) (by decide)
  have r1 := bwV_rng b (bwC b (gdC b c) 6) (n := 5) (by decide)
  have h : fmOk (gdG b c) (fdB b c) (fdS b c) = true := by
    unfold fmOk cutOk
    rw [(gdG_ok b c).1, decide_eq_true (show 1 ≤ fdB b c ∧ fdB b c ≤ 400 by unfold fdB; omega), decide_eq_true (show 1 ≤ fdS b c by unfold fdS; omega)]
    rfl
  exact ⟨h, farmR_ok h⟩
theorem fdF_ok (b : List UInt8) (c : Cu) : FarmOk (fdF b c) ∧ edSum (fdF b c).Shards ≤ 14 := by
  obtain ⟨_, h2, h3⟩ := fdA_ok b c
  have h4 := (gdG_ok b c).2
  unfold fdF
  by_cases h : FwOk (fdA b c) (fdV b c)
  · rw [pB_t h, if_pos rfl]
    obtain ⟨q1, _, _, q4, _⟩ := fw_farm h
    exact ⟨q1, by omega⟩
  · rw [pB_f h, if_neg (by simp)]
    exact ⟨h2, by omega⟩
set_option maxHeartbeats 8000000 in
theorem l12Draw_k (b : List UInt8) (c : Cu) (hb : b.length ≤ 1048576) (hc : c.i ≤ 1048576) : FnOK Tryz.prog 23 ⟨2, [(0, some (.ro (b.map bytK))), (1, some (.box 97 [.sl 0 1 0 b.length, .v (.int .i64 (c.i : Int)), .v (.int .i64 c.h)]))], [.c (.ptr 1 0 0)],
    .agg [.v (.int .i64 (fdF b c).N), .sl 2 1 0 ((fdF b c).Ends).length, .sl 3 3 0 ((fdF b c).Shards).length], [(1, some (.box 97 [.sl 0 1 0 b.length, .v (.int .i64 ((fdC b c).i : Int)), .v (.int .i64 (fdC b c).h)])), (2, some (.row 3 (((fdF b c).Ends).map intK))), (3, some (.nst 39 (((fdF b c).Shards).map (ShardD.k 108)) none))], 4⟩ := by
  have k1 := l04Draw_k b c hb hc
  have h1 := gdC_le (c := c) hb hc
  have k2 := l01Below_k b (gdC b c) 6 hb h1 (by decide)
  have k3 := l01Below_k b (bwC b (gdC b c) 6) 5 hb (bwC_le hb h1 _) (by decide)
  have r2 := bwV_rng b (gdC b c) (n := 6) (by decide)
  have r3 := bwV_rng b (bwC b (gdC b c) 6) (n := 5) (by decide)
  obtain ⟨g1, g2⟩ := gdG_ok b c
  obtain ⟨a1, a2, a3⟩ := fdA_ok b c
  have k4 := specFarmOf_k (gdG b c) (fdB b c) (fdS b c) (by omega) (by unfold fdS; omega)
  rw [a1] at k4
  have fl := farm_L a2
  have k5 := l12Count_k (fdA b c) fl (by omega)
  rw [a3] at k5
  have k6 := l08Vals_k b (fdC3 b c) (gdG b c).Edges.length hb (by unfold fdC3; exact bwC_le hb (bwC_le hb h1 _) _) (by omega)
  have lv := vlV_len b (fdC3 b c) (gdG b c).Edges.length
  have k7 := specFarmWith_k (fdA b c) (fdV b c) fl (by unfold fdV; omega) (by omega)
  have eV : fdV b c = vlV b (fdC3 b c) (gdG b c).Edges.length := rfl
  have eC : fdC b c = vlC b (fdC3 b c) (gdG b c).Edges.length := rfl
  have eA : farmR (gdG b c) (fdB b c) (fdS b c) = fdA b c := rfl
  rw [← eV] at k6 lv
  rw [← eC] at k6
  rw [eA] at k4
  rw [lv] at k7
  change FnOK _ _ ⟨_, _, [.agg [.v (.int .i64 (gdG b c).N), .sl 0 3 0 ((gdG b c).Edges).length], .c (.v (.int .i64 (1 + bwV b (gdC b c) 6))), .c (.v (.int .i64 (1 + bwV b (bwC b (gdC b c) 6) 5)))], _, _, _⟩ at k4
  have eF : fdF b c = if pB (FwOk (fdA b c) (fdV b c)) then fwR (fdA b c) (fdV b c) else fdA b c := rfl
  have e3 : fdC3 b c = bwC b (bwC b (gdC b c) 6) 5 := rfl
  obtain ⟨C, hC⟩ : ∃ C, C = fdC b c := ⟨_, rfl⟩
  rw [← hC] at k6 ⊢
  obtain ⟨V, hV⟩ : ∃ V, V = fdV b c := ⟨_, rfl⟩
  rw [← hV] at k6 k7 eF lv
  obtain ⟨A, hA⟩ : ∃ A, A = fdA b c := ⟨_, rfl⟩
  rw [← hA] at k4 k5 k7 eF fl
  rw [e3] at k6
  obtain ⟨g, hg⟩ : ∃ g, g = gdG b c := ⟨_, rfl⟩
  rw [← hg] at k1 k4 k5 k6 k7 g2 lv
  obtain ⟨f0, f1, f2⟩ := fl
  rw [eF]
  clear eF eV eC eA hC hV hA hg e3
  by_cases hw : FwOk A V
  · obtain ⟨w1, w2⟩ := fw_yes hw
    rw [w2] at k7
    rw [pB_t hw, if_pos rfl]
    obtain ⟨X, hX⟩ : ∃ X, X = fwR A V := ⟨_, rfl⟩
    rw [← hX] at k7 ⊢
    refine fnOK_of true mixed Tryz.func23 rfl (by rfl) (by rfl) ?_
    have hres := congrArg Array.toList Tryz.results23
    simp only [Tryz.ntmps23, BGB, seval]
    (have gx := And.intro @List.length_map.{0,0} @lv; have q1 := k1; have q2 := k2; have q3 := k3; have q4 := k4; have q5 := k5; have q6 := k6; have q7 := k7; refine go ?_; (repeat' first | exact Ef.mk | apply Lf.mk | refine fun (K : KT) hK hE hT => ?_ | refine fun (KS : KE) hKS => ?_ | refine fun (D : KD) hD => ?_ | refine fun (hg : (_ : Prop)) => ?_ | fail); all_goals (first | (refine Wr.mk ?_; (try clear gx q1 q2 q3 q4 q5 q6 q7); repeat first | clear hK hE hT K | clear hR hE hT K) | assumption | skip))
    all_goals (refine post_a hres (.inl rfl) ?_; simp only [RSB, ENB, seval, tiAll, true_and]; simp only [MAB, seval]; refine ⟨rfl, rfl, ?_, ?_, ?_⟩ <;> (first | rfl | (simp [WKB, Nat.add_comm, true_and]; done) | (simp only [WKB, seval])))
  · obtain ⟨w1, w2⟩ := fw_no hw
    rw [w2, w1] at k7
    rw [pB_f hw, if_neg (by simp)]
    refine fnOK_of true mixed Tryz.func23 rfl (by rfl) (by rfl) ?_
    have hres := congrArg Array.toList Tryz.results23
    simp only [Tryz.ntmps23, BGB, seval]
    (have gx := And.intro @List.length_map.{0,0} @lv; have q1 := k1; have q2 := k2; have q3 := k3; have q4 := k4; have q5 := k5; have q6 := k6; have q7 := k7; refine go ?_; (repeat' first | exact Ef.mk | apply Lf.mk | refine fun (K : KT) hK hE hT => ?_ | refine fun (KS : KE) hKS => ?_ | refine fun (D : KD) hD => ?_ | refine fun (hg : (_ : Prop)) => ?_ | fail); all_goals (first | (refine Wr.mk ?_; (try clear gx q1 q2 q3 q4 q5 q6 q7); repeat first | clear hK hE hT K | clear hR hE hT K) | assumption | skip))
    all_goals (refine post_a hres (.inl rfl) ?_; simp only [RSB, ENB, seval, tiAll, true_and]; simp only [MAB, seval]; refine ⟨rfl, rfl, ?_, ?_, ?_⟩ <;> (first | rfl | (simp [WKB, Nat.add_comm, true_and]; done) | (simp only [WKB, seval])))

set_option maxHeartbeats 2000000 in
theorem makeFarm_k (b : List UInt8) (hb : b.length ≤ 1048576) : FnOK Tryz.prog 4 ⟨1, [(0, some (.ro (b.map bytK)))], [.c (.sl 0 1 0 b.length)],
    .agg [.v (.int .i64 (fdF b (newC b)).N), .sl 1 1 0 ((fdF b (newC b)).Ends).length, .sl 2 3 0 ((fdF b (newC b)).Shards).length], [(1, some (.row 3 (((fdF b (newC b)).Ends).map intK))), (2, some (.nst 39 (((fdF b (newC b)).Shards).map (ShardD.k 108)) none))], 3⟩ := by
  have k0 := l01New_k b hb
  have k1 := l12Draw_k b (newC b) hb (newC_le b)
  obtain ⟨F, hF⟩ : ∃ F, F = fdF b (newC b) := ⟨_, rfl⟩
  rw [← hF] at k1 ⊢
  refine fnOK_of true mixed Tryz.func4 rfl (by rfl) (by rfl) ?_
  have hres := congrArg Array.toList Tryz.results4
  simp only [Tryz.ntmps4, BGB, seval]
  (have gx := true_and True; have q1 := k0; have q2 := k1; refine go ?_; (repeat' first | exact Ef.mk | apply Lf.mk | refine fun (K : KT) hK hE hT => ?_ | refine fun (KS : KE) hKS => ?_ | refine fun (D : KD) hD => ?_ | refine fun (hg : (_ : Prop)) => ?_ | fail); all_goals (first | (refine Wr.mk ?_; (try clear gx q1 q2); repeat first | clear hK hE hT K | clear hR hE hT K) | assumption | skip))
  (refine post_a hres (.inl rfl) ?_; simp only [RSB, ENB, seval, tiAll, true_and]; simp only [MAB, seval]; refine ⟨rfl, rfl, ?_, ?_, ?_⟩ <;> (first | rfl | (simp [WKB, Nat.add_comm, true_and]; done) | (simp only [WKB, seval])))

end Go.Proofs.YtfdhdkljpeohlaaGreatDoor

