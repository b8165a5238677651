/-
  The engine, texts W5 W6 in one. No conditions of its own.
-/
import Derived.Test.YtfnhchcgieeedaaGreatGO
import Derived.Test.YtfnhchcgieeedaaGreatMW
import Derived.Test.YtfnhchcgieeedaaGreatZz5
namespace Go.Proofs.YtfnhchcgieeedaaGreat
set_option linter.unusedSimpArgs false
set_option linter.unusedVariables false
set_option linter.unusedSimpArgs false
set_option linter.unusedVariables false
set_option linter.defProp false
open Go.RowKit


set_option maxHeartbeats 16000000 in
theorem implRunIter_k (g : GraphD) (r : RunD) (bg : (g.Edges).length ≤ 1048576) (br : (r.Vals).length ≤ 1048576 ∧ (r.EVals).length ≤ 1048576 ∧ (r.Next.Bits).length ≤ 1048576) : FnOK Tryz.prog 38 ⟨4, [(0, some (.ro ((g.Edges).map EdgeD.k))), (1, some (.ro ((r.Vals).map intK))), (2, some (.ro ((r.EVals).map intK))), (3, some (.ro ((r.Next.Bits).map bytK)))], [.agg [.v (.int .i64 g.N), .sl 0 3 0 (g.Edges).length], .agg [.v (.int .i64 r.Job.Prog), .v (.int .i64 r.Job.Src), .v (.int .i64 r.Iter), .v (.bool r.Done), .sl 1 1 0 (r.Vals).length, .sl 2 1 0 (r.EVals).length, .v (.int .i64 r.Next.N), .sl 3 1 0 (r.Next.Bits).length]],
    .tup [.inr [.v (.int .i64 (riR g r).Job.Prog), .v (.int .i64 (riR g r).Job.Src), .v (.int .i64 (riR g r).Iter), .v (.bool (riR g r).Done), .sl 4 1 0 ((riR g r).Vals).length, .sl 5 1 0 ((riR g r).EVals).length, .v (.int .i64 (riR g r).Next.N), .sl 6 1 0 ((riR g r).Next.Bits).length], .inl (.v (.bool (riOk g r)))], [(4, some (.row 3 (((riR g r).Vals).map intK))), (5, some (.row 3 (((riR g r).EVals).map intK))), (6, some (.row 5 (((riR g r).Next.Bits).map bytK)))], 7⟩ := by
  have c1 := implRunOk_k g r bg br
  cases ho : riOk g r with
  | false =>
    have e1 : riR g r = zeroRun := by unfold riR; rw [ho]; rfl
    rw [e1]
    dsimp only [zeroRun]
    have hi : runOk g r = true → r.Iter ≤ 1000 := fun q => (runOk_in q).2.1.2
    obtain ⟨b1, h1⟩ : ∃ b, b = runOk g r := ⟨_, rfl⟩
    rw [← h1] at c1 hi
    have hno : b1 = true → r.Done = false → r.Iter < 1000 → False := fun q1 q2 q3 => by
      unfold riOk at ho
      rw [← h1, q1, q2, decide_eq_true q3] at ho
      simp at ho
    clear h1 e1 ho
    refine fnOK_of true mixed Tryz.func38 rfl (by rfl) (by rfl) ?_
    have hres := congrArg Array.toList Tryz.results38
    simp only [Tryz.ntmps38, BGB, seval]
    (have gx := @List.length_map.{0,0}; have q1 := c1; refine go ?_; (repeat' first | exact Ef.mk | apply Lf.mk | refine fun (K : KT) hK hE hT => ?_ | refine fun (KS : KE) hKS => ?_ | refine fun (D : KD) hD => ?_ | refine fun (hg : (_ : Prop)) => ?_ | fail); all_goals (first | (refine Wr.mk ?_; (try clear gx q1); repeat first | clear hK hE hT K | clear hR hE hT K) | assumption | skip))
    all_goals first
      | (exfalso; have hj := hi (by assumption); exact hno (by assumption) (by assumption) (by omega))
      | (refine post_a hres (.inl rfl) ?_; simp only [RSB, ENB, seval, tiAll, true_and]; simp only [MAB, seval]; refine ⟨rfl, rfl, ?_, ?_, ?_⟩ <;> (first | rfl | (simp [WKB, Nat.add_comm, true_and]; done) | (simp only [WKB, seval])))
  | true =>
    obtain ⟨h1, h2, h3⟩ := riOk_out ho
    rw [h1] at c1
    obtain ⟨hin, ⟨i1, i2⟩, _⟩ := runOk_in h1
    obtain ⟨⟨g1, g2, _⟩, _⟩ := graphOk_out hin.go
    obtain ⟨gn, ge⟩ := g
    dsimp only at g1 g2 bg c1
    obtain ⟨m, rfl⟩ := Int.eq_ofNat_of_zero_le g1
    have hsn : r.Next.N = (m : Int) := hin.sn
    have e1 : riR ⟨(m : Int), ge⟩ r = ⟨(itTo ⟨(m : Int), ge⟩ (it0 ⟨(m : Int), ge⟩ r) m).1.Job, (itTo ⟨(m : Int), ge⟩ (it0 ⟨(m : Int), ge⟩ r) m).1.Iter + 1, emptyL (itTo ⟨(m : Int), ge⟩ (it0 ⟨(m : Int), ge⟩ r) m).1.Next.Bits, (itTo ⟨(m : Int), ge⟩ (it0 ⟨(m : Int), ge⟩ r) m).1.Vals, (itTo ⟨(m : Int), ge⟩ (it0 ⟨(m : Int), ge⟩ r) m).1.EVals, (itTo ⟨(m : Int), ge⟩ (it0 ⟨(m : Int), ge⟩ r) m).1.Next⟩ := by unfold riR; rw [ho]; rfl
    rw [e1]
    dsimp only
    have j0 := it0_in hin
    have ji := itTo_iter ⟨(m : Int), ge⟩ (it0 ⟨(m : Int), ge⟩ r)
    have jj : (it0 ⟨(m : Int), ge⟩ r).1.Iter = r.Iter := rfl
    obtain ⟨_, _, b3, b4⟩ := setOk_len hin.so
    clear e1 ho h1
    skip
    refine fnOK_of true mixed Tryz.func38 rfl (by rfl) (by rfl) ?_
    have hres := congrArg Array.toList Tryz.results38
    simp only [Tryz.ntmps38, BGB, seval]
    (have gx := And.intro @List.length_map.{0,0} @h2; have q1 := c1; have q2 := copyRun_k r br; have q3 := emptySet_k m; refine go ?_; (repeat' first | exact Ef.mk | apply Lf.mk | refine fun (K : KT) hK hE hT => ?_ | refine fun (KS : KE) hKS => ?_ | refine fun (D : KD) hD => ?_ | refine fun (hg : (_ : Prop)) => ?_ | fail); all_goals (first | (refine Wr.mk ?_; (try clear gx q1 q2 q3); repeat first | clear hK hE hT K | clear hR hE hT K) | assumption | skip))
    refine loop_v (X := {k : Nat // k ≤ m}) [] (fun x => [(33, .c (.v (.int .i64 ((x.1 : Nat) : Int))))]) (fun x => [(0, some (.ro (((⟨(m : Int), ge⟩ : GraphD).Edges).map EdgeD.k))), (1, some (.ro ((r.Vals).map intK))), (2, some (.ro ((r.EVals).map intK))), (3, some (.ro ((r.Next.Bits).map bytK))), (4, some (.box 25 [.v (.int .i64 (⟨(m : Int), ge⟩ : GraphD).N), .sl 0 3 0 ((⟨(m : Int), ge⟩ : GraphD).Edges).length])), (5, some (.box 34 [.v (.int .i64 r.Job.Prog), .v (.int .i64 r.Job.Src), .v (.int .i64 r.Iter), .v (.bool r.Done), .sl 1 1 0 (r.Vals).length, .sl 2 1 0 (r.EVals).length, .v (.int .i64 r.Next.N), .sl 3 1 0 (r.Next.Bits).length])), (6, some (.box 34 [.v (.int .i64 0), .v (.int .i64 0), .v (.int .i64 0), .v (.bool false), .nil, .nil, .v (.int .i64 0), .nil])), (7, some (.row 3 ((itTo ⟨(m : Int), ge⟩ (it0 ⟨(m : Int), ge⟩ r) x.1).1.Vals.map intK))), (8, some (.row 3 ((itTo ⟨(m : Int), ge⟩ (it0 ⟨(m : Int), ge⟩ r) x.1).1.EVals.map intK))), (9, some (.row 5 ((itTo ⟨(m : Int), ge⟩ (it0 ⟨(m : Int), ge⟩ r) x.1).2.map bytK))), (10, some (.box 34 [.v (.int .i64 (itTo ⟨(m : Int), ge⟩ (it0 ⟨(m : Int), ge⟩ r) x.1).1.Job.Prog), .v (.int .i64 (itTo ⟨(m : Int), ge⟩ (it0 ⟨(m : Int), ge⟩ r) x.1).1.Job.Src), .v (.int .i64 (itTo ⟨(m : Int), ge⟩ (it0 ⟨(m : Int), ge⟩ r) x.1).1.Iter), .v (.bool (itTo ⟨(m : Int), ge⟩ (it0 ⟨(m : Int), ge⟩ r) x.1).1.Done), .sl 7 1 0 (itTo ⟨(m : Int), ge⟩ (it0 ⟨(m : Int), ge⟩ r) x.1).1.Vals.length, .sl 8 1 0 (itTo ⟨(m : Int), ge⟩ (it0 ⟨(m : Int), ge⟩ r) x.1).1.EVals.length, .v (.int .i64 (itTo ⟨(m : Int), ge⟩ (it0 ⟨(m : Int), ge⟩ r) x.1).1.Next.N), .sl 12 1 0 (itTo ⟨(m : Int), ge⟩ (it0 ⟨(m : Int), ge⟩ r) x.1).1.Next.Bits.length])), (11, some (.box 32 [.v (.int .i64 (m : Int)), .sl 9 1 0 (itTo ⟨(m : Int), ge⟩ (it0 ⟨(m : Int), ge⟩ r) x.1).2.length])), (12, some (.row 5 ((itTo ⟨(m : Int), ge⟩ (it0 ⟨(m : Int), ge⟩ r) x.1).1.Next.Bits.map bytK)))]) 13 (fun x => m - x.1) ⟨0, by omega⟩ ?_
    simp only [KPB, seval]
    refine ⟨?_, ?_⟩
    · (refine wk_a ?_; simp only [MAB, seval]; refine ⟨rfl, rfl, (by decide), ?_, ?_⟩; all_goals (first | (simp only [WKB, seval, itTo, it0, hsn, h2, Int.toNat_natCast, fullTo_len, fullTo_map]; done) | (simp [WKB, seval, itTo, it0, hsn, h2, Int.toNat_natCast, fullTo_len, fullTo_map]; done) | simp only [WKB, seval]))
    · rintro ⟨k, hk⟩ K hR hE hT
      obtain ⟨yin, yw⟩ := itTo_in j0 k (by simp only; omega)
      have y1 := ji k
      have y2 : (itTo ⟨(m : Int), ge⟩ (it0 ⟨(m : Int), ge⟩ r) k).1.Next.N = (m : Int) := yin.sn
      obtain ⟨_, _, y3, y4⟩ := setOk_len yw
      obtain ⟨_, _, y5, y6⟩ := setOk_len yin.so
      simp only [Int.toNat_natCast] at y3 y5
      rcases Nat.lt_or_ge k m with hlt | hge
      case inr =>
        obtain rfl : m = k := by omega
        (have gx := @List.length_map.{0,0}; have q1 := implisEmpty_k (itTo ⟨(m : Int), ge⟩ (it0 ⟨(m : Int), ge⟩ r) m).1.Next.N (itTo ⟨(m : Int), ge⟩ (it0 ⟨(m : Int), ge⟩ r) m).1.Next.Bits; refine go ?_; (repeat' first | exact Ef.mk | apply Lf.mk | refine fun (K : KT) hK hE hT => ?_ | refine fun (KS : KE) hKS => ?_ | refine fun (D : KD) hD => ?_ | refine fun (hg : (_ : Prop)) => ?_ | fail); all_goals (first | (refine Wr.mk ?_; (try clear gx q1); repeat first | clear hK hE hT K | clear hR hE hT K) | assumption | skip))
        (refine post_a hres (.inl rfl) ?_; simp only [RSB, ENB, seval, tiAll, true_and]; simp only [MAB, seval]; refine ⟨rfl, rfl, ?_, ?_, ?_⟩ <;> (first | rfl | (simp [WKB, Nat.add_comm, true_and]; done) | (simp only [WKB, seval])))
      case inl =>
        obtain ⟨q1, q2, q3⟩ := vxEnd_lens (v := k) yin yw (by simp only; omega)
        have ch := implhas_k (m : Int) (itTo ⟨(m : Int), ge⟩ (it0 ⟨(m : Int), ge⟩ r) k).2 k (by omega) (by omega)
        have cu := update_k _ _ _ k yin yw (by simp only; omega)
        dsimp only at cu
        cases hb : bitAt (itTo ⟨(m : Int), ge⟩ (it0 ⟨(m : Int), ge⟩ r) k).2 k
        all_goals rw [hb] at ch
        all_goals (have gx := @List.length_map.{0,0}; have q1 := ch; have q2 := cu; refine go ?_; (repeat' first | exact Ef.mk | apply Lf.mk | refine fun (K : KT) hK hE hT => ?_ | refine fun (KS : KE) hKS => ?_ | refine fun (D : KD) hD => ?_ | refine fun (hg : (_ : Prop)) => ?_ | fail); all_goals (first | (refine Wr.mk ?_; (try clear gx q1 q2); repeat first | clear hK hE hT K | clear hR hE hT K) | assumption | skip))
        · have e := itTo_no hb
          (refine hR.out ⟨k + 1, by omega⟩ _ _ _ (by simp only; omega) ?_; (refine wk_a ?_; simp only [MAB, seval]; refine ⟨rfl, rfl, (by decide), ?_, ?_⟩; all_goals (first | (simp only [WKB, seval, e]; done) | (simp [WKB, seval, e]; done) | simp only [WKB, seval])))
        · have e := itTo_yes hb
          (refine hR.out ⟨k + 1, by omega⟩ _ _ _ (by simp only; omega) ?_; (refine wk_a ?_; simp only [MAB, seval]; refine ⟨rfl, rfl, (by decide), ?_, ?_⟩; all_goals (first | (simp only [WKB, seval, e, runV, nowV, q1, q2, q3, List.length_set]; done) | (simp [WKB, seval, e, runV, nowV, q1, q2, q3, List.length_set]; done) | simp only [WKB, seval])))

end Go.Proofs.YtfnhchcgieeedaaGreat

namespace Go.Proofs.YtfnhchcgieeedaaGreat
set_option linter.unusedSimpArgs false
set_option linter.unusedVariables false
set_option linter.defProp false
open Go.RowKit

def raTo (g : GraphD) (r : RunD) : Nat → RunD
  | 0 => r
  | k + 1 => if riOk g (raTo g r k) = true then riR g (raTo g r k) else raTo g r k
def raR (g : GraphD) (r : RunD) (most : Int) : RunD := if runOk g r then raTo g r (max most 0).toNat else zeroRun

theorem raTo_yes {g : GraphD} {r : RunD} {k : Nat} (h : riOk g (raTo g r k) = true) : raTo g r (k + 1) = riR g (raTo g r k) := if_pos h
theorem raTo_no {g : GraphD} {r : RunD} {k : Nat} (h : riOk g (raTo g r k) = false) : ∀ i, raTo g r (k + i) = raTo g r k
  | 0 => rfl
  | i + 1 => by
    have ih := raTo_no h i
    show (if riOk g (raTo g r (k + i)) = true then riR g (raTo g r (k + i)) else raTo g r (k + i)) = _
    rw [ih, h]
    simp
theorem raTo_small (g : GraphD) (r : RunD) : ∀ k, (raTo g r k).Vals.length ≤ r.Vals.length ∧ (raTo g r k).EVals.length ≤ r.EVals.length ∧ (raTo g r k).Next.Bits.length ≤ r.Next.Bits.length
  | 0 => ⟨Nat.le_refl _, Nat.le_refl _, Nat.le_refl _⟩
  | k + 1 => by
    have ih := raTo_small g r k
    cases h : riOk g (raTo g r k) with
    | true =>
      rw [raTo_yes h]
      have := ri_small g (raTo g r k)
      omega
    | false => rw [raTo_no h 1]; exact ih
set_option maxHeartbeats 16000000 in
theorem implRunAll_k (g : GraphD) (r : RunD) (most : Int) (bg : (g.Edges).length ≤ 1048576) (br : (r.Vals).length ≤ 1048576 ∧ (r.EVals).length ≤ 1048576 ∧ (r.Next.Bits).length ≤ 1048576) (hm : -9223372036854775808 ≤ most ∧ most ≤ 9223372036854775807) : FnOK Tryz.prog 13 ⟨4, [(0, some (.ro ((g.Edges).map EdgeD.k))), (1, some (.ro ((r.Vals).map intK))), (2, some (.ro ((r.EVals).map intK))), (3, some (.ro ((r.Next.Bits).map bytK)))], [.agg [.v (.int .i64 g.N), .sl 0 3 0 (g.Edges).length], .agg [.v (.int .i64 r.Job.Prog), .v (.int .i64 r.Job.Src), .v (.int .i64 r.Iter), .v (.bool r.Done), .sl 1 1 0 (r.Vals).length, .sl 2 1 0 (r.EVals).length, .v (.int .i64 r.Next.N), .sl 3 1 0 (r.Next.Bits).length], .c (.v (.int .i64 most))],
    .agg [.v (.int .i64 (raR g r most).Job.Prog), .v (.int .i64 (raR g r most).Job.Src), .v (.int .i64 (raR g r most).Iter), .v (.bool (raR g r most).Done), .sl 4 1 0 ((raR g r most).Vals).length, .sl 5 1 0 ((raR g r most).EVals).length, .v (.int .i64 (raR g r most).Next.N), .sl 6 1 0 ((raR g r most).Next.Bits).length], [(4, some (.row 3 (((raR g r most).Vals).map intK))), (5, some (.row 3 (((raR g r most).EVals).map intK))), (6, some (.row 5 (((raR g r most).Next.Bits).map bytK)))], 7⟩ := by
  have c1 := implRunOk_k g r bg br
  cases ho : runOk g r with
  | false =>
    have e1 : raR g r most = zeroRun := by unfold raR; rw [ho]; rfl
    rw [e1]
    rw [ho] at c1
    dsimp only [zeroRun]
    refine fnOK_of true mixed Tryz.func13 rfl (by rfl) (by rfl) ?_
    have hres := congrArg Array.toList Tryz.results13
    simp only [Tryz.ntmps13, BGB, seval]
    (have gx := @List.length_map.{0,0}; have q1 := c1; refine go ?_; (repeat' first | exact Ef.mk | apply Lf.mk | refine fun (K : KT) hK hE hT => ?_ | refine fun (KS : KE) hKS => ?_ | refine fun (D : KD) hD => ?_ | refine fun (hg : (_ : Prop)) => ?_ | fail); all_goals (first | (refine Wr.mk ?_; (try clear gx q1); repeat first | clear hK hE hT K | clear hR hE hT K) | assumption | skip))
    all_goals (refine post_a hres (.inl rfl) ?_; simp only [RSB, ENB, seval, tiAll, true_and]; simp only [MAB, seval]; refine ⟨rfl, rfl, ?_, ?_, ?_⟩ <;> (first | rfl | (simp [WKB, Nat.add_comm, true_and]; done) | (simp only [WKB, seval])))
  | true =>
    obtain ⟨n, hn⟩ : ∃ n : Nat, n = (max most 0).toNat := ⟨_, rfl⟩
    have e1 : raR g r most = raTo g r n := by unfold raR; rw [ho, hn]; rfl
    rw [e1]
    rw [ho] at c1
    have hn' : (n : Int) = max most 0 := by omega
    clear hn e1
    refine fnOK_of true mixed Tryz.func13 rfl (by rfl) (by rfl) ?_
    have hres := congrArg Array.toList Tryz.results13
    simp only [Tryz.ntmps13, BGB, seval]
    (have gx := @List.length_map.{0,0}; have q1 := c1; have q2 := copyRun_k r br; refine go ?_; (repeat' first | exact Ef.mk | apply Lf.mk | refine fun (K : KT) hK hE hT => ?_ | refine fun (KS : KE) hKS => ?_ | refine fun (D : KD) hD => ?_ | refine fun (hg : (_ : Prop)) => ?_ | fail); all_goals (first | (refine Wr.mk ?_; (try clear gx q1 q2); repeat first | clear hK hE hT K | clear hR hE hT K) | assumption | skip))
    refine loop_v (X := {k : Nat // k ≤ n}) [] (fun x => [(19, .c (.v (.int .i64 ((x.1 : Nat) : Int))))]) (fun x => [(0, some (.ro ((g.Edges).map EdgeD.k))), (1, some (.ro ((r.Vals).map intK))), (2, some (.ro ((r.EVals).map intK))), (3, some (.ro ((r.Next.Bits).map bytK))), (4, some (.box 25 [.v (.int .i64 g.N), .sl 0 3 0 (g.Edges).length])), (5, some (.box 34 [.v (.int .i64 r.Job.Prog), .v (.int .i64 r.Job.Src), .v (.int .i64 r.Iter), .v (.bool r.Done), .sl 1 1 0 (r.Vals).length, .sl 2 1 0 (r.EVals).length, .v (.int .i64 r.Next.N), .sl 3 1 0 (r.Next.Bits).length])), (6, some (.box 34 [.v (.int .i64 0), .v (.int .i64 0), .v (.int .i64 0), .v (.bool false), .nil, .nil, .v (.int .i64 0), .nil])), (10, some (.box 34 [.v (.int .i64 (raTo g r x.1).Job.Prog), .v (.int .i64 (raTo g r x.1).Job.Src), .v (.int .i64 (raTo g r x.1).Iter), .v (.bool (raTo g r x.1).Done), .sl 11 1 0 (raTo g r x.1).Vals.length, .sl 12 1 0 (raTo g r x.1).EVals.length, .v (.int .i64 (raTo g r x.1).Next.N), .sl 13 1 0 (raTo g r x.1).Next.Bits.length])), (11, some (.row 3 ((raTo g r x.1).Vals.map intK))), (12, some (.row 3 ((raTo g r x.1).EVals.map intK))), (13, some (.row 5 ((raTo g r x.1).Next.Bits.map bytK)))]) 14 (fun x => n - x.1) ⟨0, by omega⟩ ?_
    simp only [KPB, seval]
    refine ⟨?_, ?_⟩
    · (refine wk_a ?_; simp only [MAB, seval]; refine ⟨rfl, rfl, (by decide), ?_, ?_⟩; all_goals (first | (simp only [WKB, seval, raTo]; done) | (simp [WKB, seval, raTo]; done) | simp only [WKB, seval]))
    · rintro ⟨k, hk⟩ K hR hE hT
      have hs := raTo_small g r k
      have bp : ((raTo g r k).Vals).length ≤ 1048576 ∧ ((raTo g r k).EVals).length ≤ 1048576 ∧ ((raTo g r k).Next.Bits).length ≤ 1048576 := ⟨by omega, by omega, by omega⟩
      have ci := implRunIter_k g (raTo g r k) bg bp
      rcases Nat.lt_or_ge k n with hlt | hge
      case inr =>
        obtain rfl : k = n := by omega
        (have gx := @List.length_map.{0,0}; refine go ?_; (repeat' first | exact Ef.mk | apply Lf.mk | refine fun (K : KT) hK hE hT => ?_ | refine fun (KS : KE) hKS => ?_ | refine fun (D : KD) hD => ?_ | refine fun (hg : (_ : Prop)) => ?_ | fail); all_goals (first | (refine Wr.mk ?_; (try clear gx); repeat first | clear hK hE hT K | clear hR hE hT K) | assumption | skip))
        (refine post_a hres (.inl rfl) ?_; simp only [RSB, ENB, seval, tiAll, true_and]; simp only [MAB, seval]; refine ⟨rfl, rfl, ?_, ?_, ?_⟩ <;> (first | rfl | (simp [WKB, Nat.add_comm, true_and]; done) | (simp only [WKB, seval])))
      case inl =>
        cases hok : riOk g (raTo g r k)
        all_goals rw [hok] at ci
        all_goals
          (have gx := @List.length_map.{0,0}; have q1 := ci; refine go ?_; (repeat' first | exact Ef.mk | apply Lf.mk | refine fun (K : KT) hK hE hT => ?_ | refine fun (KS : KE) hKS => ?_ | refine fun (D : KD) hD => ?_ | refine fun (hg : (_ : Prop)) => ?_ | fail); all_goals (first | (refine Wr.mk ?_; (try clear gx q1); repeat first | clear hK hE hT K | clear hR hE hT K) | assumption | skip))
        · have e := raTo_no hok (n - k)
          rw [show k + (n - k) = n by omega] at e
          (refine post_a hres (.inl rfl) ?_; simp only [RSB, ENB, seval, tiAll, e]; simp only [MAB, seval]; refine ⟨rfl, rfl, ?_, ?_, ?_⟩ <;> (first | rfl | (simp [WKB, Nat.add_comm, e]; done) | (simp only [WKB, seval])))
        · have e := raTo_yes hok
          (refine hR.out ⟨k + 1, by omega⟩ _ _ _ (by simp only; omega) ?_; (refine wk_a ?_; simp only [MAB, seval]; refine ⟨rfl, rfl, (by decide), ?_, ?_⟩; all_goals (first | (simp only [WKB, seval, e]; done) | (simp [WKB, seval, e]; done) | simp only [WKB, seval])))

end Go.Proofs.YtfnhchcgieeedaaGreat

