/-
  The engine, texts D2 D6 D7 in one. No conditions of its own.
-/
import Derived.Test.YtfnhchcgieeedaaGreatGO
import Derived.Test.YtfnhchcgieeedaaGreatZz2
import Derived.Test.YtfnhchcgieeedaaGreatMU
import Derived.Test.YtfnhchcgieeedaaGreatMKA
import Derived.Test.YtfnhchcgieeedaaGreatZz6
namespace Go.Proofs.YtfnhchcgieeedaaGreat
set_option linter.unusedSimpArgs false
set_option linter.unusedVariables false
set_option linter.unusedSimpArgs false
set_option linter.unusedVariables false
set_option linter.defProp false
open Go.RowKit

def jobV (b : List UInt8) (c : Cu) (n : Int) : JobD := ⟨1 + bwV b c 4, if 1 + bwV b c 4 = 3 ∧ 0 < n then bwV b (bwC b c 4) n else 0⟩
def jobC (b : List UInt8) (c : Cu) (n : Int) : Cu := if 1 + bwV b c 4 = 3 ∧ 0 < n then bwC b (bwC b c 4) n else bwC b c 4
theorem jobV_rng (b : List UInt8) (c : Cu) (n : Int) : 1 ≤ (jobV b c n).Prog ∧ (jobV b c n).Prog ≤ 4 := by
  have := bwV_rng b c (n := 4) (by decide)
  unfold jobV
  dsimp only
  omega
theorem jobV_src (b : List UInt8) (c : Cu) {n : Int} (hn : 0 < n) : 0 ≤ (jobV b c n).Src ∧ (jobV b c n).Src < n ∧ ((jobV b c n).Prog ≠ 3 → (jobV b c n).Src = 0) := by
  have := bwV_rng b (bwC b c 4) hn
  unfold jobV
  dsimp only
  split
  · exact ⟨by omega, by omega, fun h => absurd (by omega) h⟩
  · exact ⟨by omega, by omega, fun _ => rfl⟩
set_option maxHeartbeats 2000000 in
theorem l10Job_k (b : List UInt8) (c : Cu) (n : Int) (hb : b.length ≤ 1048576) (hc : c.i ≤ 1048576) (hn : n ≤ 256) : FnOK Tryz.prog 16 ⟨2, [(0, some (.ro (b.map bytK))), (1, some (.box 56 [.sl 0 1 0 b.length, .v (.int .i64 (c.i : Int)), .v (.int .i64 c.h)]))], [.c (.ptr 1 0 0), .c (.v (.int .i64 n))],
    .agg [.v (.int .i64 (jobV b c n).Prog), .v (.int .i64 (jobV b c n).Src)], [(1, some (.box 56 [.sl 0 1 0 b.length, .v (.int .i64 ((jobC b c n).i : Int)), .v (.int .i64 (jobC b c n).h)]))], 2⟩ := by
  have k1 := l01Below_k b c 4 hb hc (by decide)
  have k2 := l01Below_k b (bwC b c 4) n hb (bwC_le hb hc _) hn
  have r1 := bwV_rng b c (n := 4) (by decide)
  by_cases h : 1 + bwV b c 4 = 3 ∧ 0 < n
  · have e1 : jobV b c n = ⟨1 + bwV b c 4, bwV b (bwC b c 4) n⟩ := by unfold jobV; rw [if_pos h]
    have e2 : jobC b c n = bwC b (bwC b c 4) n := by unfold jobC; rw [if_pos h]
    rw [e1, e2]
    refine fnOK_of true mixed Tryz.func16 rfl (by rfl) (by rfl) ?_
    have hres := congrArg Array.toList Tryz.results16
    simp only [Tryz.ntmps16, BGB, seval]
    (have gx := true_and True; have q1 := k1; have q2 := k2; refine go ?_; (repeat' first | exact Ef.mk | apply Lf.mk | refine fun (K : KT) hK hE hT => ?_ | refine fun (KS : KE) hKS => ?_ | refine fun (D : KD) hD => ?_ | refine fun (hg : (_ : Prop)) => ?_ | fail); all_goals (first | (refine Wr.mk ?_; (try clear gx q1 q2); repeat first | clear hK hE hT K | clear hR hE hT K) | assumption | skip))
    all_goals (refine post_a hres (.inl rfl) ?_; simp only [RSB, ENB, seval, tiAll, true_and]; simp only [MAB, seval]; refine ⟨rfl, rfl, ?_, ?_, ?_⟩ <;> (first | rfl | (simp [WKB, Nat.add_comm, true_and]; done) | (simp only [WKB, seval])))
  · have e1 : jobV b c n = ⟨1 + bwV b c 4, 0⟩ := by unfold jobV; rw [if_neg h]
    have e2 : jobC b c n = bwC b c 4 := by unfold jobC; rw [if_neg h]
    rw [e1, e2]
    refine fnOK_of true mixed Tryz.func16 rfl (by rfl) (by rfl) ?_
    have hres := congrArg Array.toList Tryz.results16
    simp only [Tryz.ntmps16, BGB, seval]
    (have gx := true_and True; have q1 := k1; have q2 := k2; refine go ?_; (repeat' first | exact Ef.mk | apply Lf.mk | refine fun (K : KT) hK hE hT => ?_ | refine fun (KS : KE) hKS => ?_ | refine fun (D : KD) hD => ?_ | refine fun (hg : (_ : Prop)) => ?_ | fail); all_goals (first | (refine Wr.mk ?_; (try clear gx q1 q2); repeat first | clear hK hE hT K | clear hR hE hT K) | assumption | skip))
    all_goals (refine post_a hres (.inl rfl) ?_; simp only [RSB, ENB, seval, tiAll, true_and]; simp only [MAB, seval]; refine ⟨rfl, rfl, ?_, ?_, ?_⟩ <;> (first | rfl | (simp [WKB, Nat.add_comm, true_and]; done) | (simp only [WKB, seval])))

end Go.Proofs.YtfnhchcgieeedaaGreat

namespace Go.Proofs.YtfnhchcgieeedaaGreat
set_option linter.unusedSimpArgs false
set_option linter.unusedVariables false
set_option linter.defProp false
set_option maxRecDepth 20000
open Go.RowKit

def edV (b : List UInt8) (n : Int) (c : Cu) : EdgeD := ⟨bwV b c n, bwV b (bwC b c n) n, bwV b (bwC b (bwC b c n) n) 8⟩
def edC (b : List UInt8) (n : Int) (c : Cu) : Cu := bwC b (bwC b (bwC b c n) n) 8
def egTo (b : List UInt8) (n : Int) (c : Cu) : Nat → List EdgeD × Cu
  | 0 => ([], c)
  | k + 1 => ((egTo b n c k).1 ++ [edV b n (egTo b n c k).2], edC b n (egTo b n c k).2)
theorem egTo_len (b : List UInt8) (n : Int) (c : Cu) : ∀ k, (egTo b n c k).1.length = k
  | 0 => rfl
  | k + 1 => by
    show ((egTo b n c k).1 ++ [_]).length = _
    rw [List.length_append, egTo_len b n c k]
    rfl
theorem egTo_le {b : List UInt8} (n : Int) {c : Cu} (hb : b.length ≤ 1048576) (h : c.i ≤ 1048576) : ∀ k, (egTo b n c k).2.i ≤ 1048576
  | 0 => h
  | k + 1 => bwC_le hb (bwC_le hb (bwC_le hb (egTo_le n hb h k) _) _) _
theorem egTo_ok (b : List UInt8) {n : Int} (hn : 0 < n) (c : Cu) : ∀ k, (egTo b n c k).1.all (edgeOk n) = true
  | 0 => rfl
  | k + 1 => by
    show ((egTo b n c k).1 ++ [_]).all (edgeOk n) = true
    rw [List.all_append, egTo_ok b hn c k]
    generalize (egTo b n c k).2 = d
    have h1 := bwV_rng b d hn
    have h2 := bwV_rng b (bwC b d n) hn
    have h3 := bwV_rng b (bwC b (bwC b d n) n) (n := 8) (by decide)
    simp only [List.all_cons, List.all_nil, Bool.and_true, Bool.true_and, edV, edgeOk]
    rw [decide_eq_true_eq]
    omega

def gdM (b : List UInt8) (c : Cu) : Nat := (bwV b (bwC b c 9) 14).toNat
def gdS (b : List UInt8) (c : Cu) : List EdgeD × Cu := egTo b (bwV b c 9) (bwC b (bwC b c 9) 14) (gdM b c)
def gdG (b : List UInt8) (c : Cu) : GraphD := if bwV b c 9 = 0 then ⟨0, []⟩ else ⟨bwV b c 9, (gdS b c).1⟩
def gdC (b : List UInt8) (c : Cu) : Cu := if bwV b c 9 = 0 then bwC b c 9 else (gdS b c).2
set_option maxHeartbeats 4000000 in
theorem l04Draw_k (b : List UInt8) (c : Cu) (hb : b.length ≤ 1048576) (hc : c.i ≤ 1048576) : FnOK Tryz.prog 15 ⟨2, [(0, some (.ro (b.map bytK))), (1, some (.box 56 [.sl 0 1 0 b.length, .v (.int .i64 (c.i : Int)), .v (.int .i64 c.h)]))], [.c (.ptr 1 0 0)],
    .agg [.v (.int .i64 (gdG b c).N), .sl 2 3 0 ((gdG b c).Edges).length], [(1, some (.box 56 [.sl 0 1 0 b.length, .v (.int .i64 ((gdC b c).i : Int)), .v (.int .i64 (gdC b c).h)])), (2, some (.row 63 (((gdG b c).Edges).map EdgeD.k)))], 3⟩ := by
  have k0 := l01Below_k b c 9 hb hc (by decide)
  have r0 := bwV_rng b c (n := 9) (by decide)
  by_cases hz : bwV b c 9 = 0
  · have e1 : gdG b c = ⟨0, []⟩ := by unfold gdG; rw [if_pos hz]
    have e2 : gdC b c = bwC b c 9 := by unfold gdC; rw [if_pos hz]
    rw [e1, e2]
    rw [hz] at k0
    refine fnOK_of true mixed Tryz.func15 rfl (by rfl) (by rfl) ?_
    have hres := congrArg Array.toList Tryz.results15
    simp only [Tryz.ntmps15, BGB, seval]
    (have gx := true_and True; have q1 := k0; refine go ?_; (repeat' first | exact Ef.mk | apply Lf.mk | refine fun (K : KT) hK hE hT => ?_ | refine fun (KS : KE) hKS => ?_ | refine fun (D : KD) hD => ?_ | refine fun (hg : (_ : Prop)) => ?_ | fail); all_goals (first | (refine Wr.mk ?_; (try clear gx q1); repeat first | clear hK hE hT K | clear hR hE hT K) | assumption | skip))
    (refine post_a hres (.inl rfl) ?_; simp only [RSB, ENB, seval, tiAll, true_and]; simp only [MAB, seval]; refine ⟨rfl, rfl, ?_, ?_, ?_⟩ <;> (first | rfl | (simp [WKB, Nat.add_comm, true_and]; done) | (simp only [WKB, seval])))
  · have e1 : gdG b c = ⟨bwV b c 9, (gdS b c).1⟩ := by unfold gdG; rw [if_neg hz]
    have e2 : gdC b c = (gdS b c).2 := by unfold gdC; rw [if_neg hz]
    rw [e1, e2]
    have k1 := l01Below_k b (bwC b c 9) 14 hb (bwC_le hb hc _) (by decide)
    have r1 := bwV_rng b (bwC b c 9) (n := 14) (by decide)
    have hm : bwV b (bwC b c 9) 14 = (gdM b c : Int) := by unfold gdM; omega
    rw [hm] at k1 r1
    have eS : gdS b c = egTo b (bwV b c 9) (bwC b (bwC b c 9) 14) (gdM b c) := rfl
    rw [eS]
    obtain ⟨m, hmm⟩ : ∃ m, m = gdM b c := ⟨_, rfl⟩
    obtain ⟨n, hnn⟩ : ∃ n, n = bwV b c 9 := ⟨_, rfl⟩
    rw [← hmm] at k1 r1 ⊢
    rw [← hnn] at k0 r0 hz ⊢
    clear hmm hnn eS e1 e2 hm
    refine fnOK_of true mixed Tryz.func15 rfl (by rfl) (by rfl) ?_
    have hres := congrArg Array.toList Tryz.results15
    simp only [Tryz.ntmps15, BGB, seval]
    (have gx := true_and True; have q1 := k0; have q2 := k1; refine go ?_; (repeat' first | exact Ef.mk | apply Lf.mk | refine fun (K : KT) hK hE hT => ?_ | refine fun (KS : KE) hKS => ?_ | refine fun (D : KD) hD => ?_ | refine fun (hg : (_ : Prop)) => ?_ | fail); all_goals (first | (refine Wr.mk ?_; (try clear gx q1 q2); repeat first | clear hK hE hT K | clear hR hE hT K) | assumption | skip))
    refine loop_v (X := {k : Nat // k ≤ m}) [19, 31, 32] (fun x => [(4, .c (.v (.int .i64 ((m : Int) - ((x.1 : Nat) : Int)))))]) (fun x => [(0, some (.ro (b.map bytK))), (1, some (.box 56 [.sl 0 1 0 b.length, .v (.int .i64 ((egTo b n (bwC b (bwC b c 9) 14) x.1).2.i : Int)), .v (.int .i64 (egTo b n (bwC b (bwC b c 9) 14) x.1).2.h)])), (2, some (.box 25 [.v (.int .i64 0), .nil])), (3, some (.box 25 [.v (.int .i64 n), .sl 4 3 0 (egTo b n (bwC b (bwC b c 9) 14) x.1).1.length])), (4, some (.row 63 ((egTo b n (bwC b (bwC b c 9) 14) x.1).1.map EdgeD.k)))]) 5 (fun x => m - x.1) ⟨0, by omega⟩ ?_
    simp only [KPB, seval]
    refine ⟨?_, ?_⟩
    · (refine wk_a ?_; simp only [MAB, seval]; refine ⟨rfl, rfl, (by decide), ?_, ?_⟩; all_goals (first | (simp only [WKB, seval, egTo]; done) | (simp [WKB, seval, egTo]; done) | simp only [WKB, seval]))
    · rintro ⟨k, hk⟩ K hR hE hT
      have o1 := egTo_len b n (bwC b (bwC b c 9) 14) k
      rcases Nat.lt_or_ge k m with hlt | hge
      case inr =>
        obtain rfl : k = m := by omega
        (have gx := true_and True; refine go ?_; (repeat' first | exact Ef.mk | apply Lf.mk | refine fun (K : KT) hK hE hT => ?_ | refine fun (KS : KE) hKS => ?_ | refine fun (D : KD) hD => ?_ | refine fun (hg : (_ : Prop)) => ?_ | fail); all_goals (first | (refine Wr.mk ?_; (try clear gx); repeat first | clear hK hE hT K | clear hR hE hT K) | assumption | skip))
        (refine post_a hres (.inl rfl) ?_; simp only [RSB, ENB, seval, tiAll, true_and]; simp only [MAB, seval]; refine ⟨rfl, rfl, ?_, ?_, ?_⟩ <;> (first | rfl | (simp [WKB, Nat.add_comm, true_and]; done) | (simp only [WKB, seval])))
      case inl =>
        have hci : (egTo b n (bwC b (bwC b c 9) 14) k).2.i ≤ 1048576 := egTo_le _ hb (bwC_le hb (bwC_le hb hc _) _) k
        have kb := l01Below_k b (egTo b n (bwC b (bwC b c 9) 14) k).2 n hb hci (by omega)
        have kc := l01Below_k b (bwC b (egTo b n (bwC b (bwC b c 9) 14) k).2 n) n hb (bwC_le hb hci _) (by omega)
        have kd := l01Below_k b (bwC b (bwC b (egTo b n (bwC b (bwC b c 9) 14) k).2 n) n) 8 hb (bwC_le hb (bwC_le hb hci _) _) (by decide)
        have e1 : (m : Int) - (k : Int) - 1 = (m : Int) - ((k + 1 : Nat) : Int) := by omega
        (have gx := And.intro @List.length_map.{0,0} @o1; have q1 := kb; have q2 := kc; have q3 := kd; refine go ?_; (repeat' first | exact Ef.mk | apply Lf.mk | refine fun (K : KT) hK hE hT => ?_ | refine fun (KS : KE) hKS => ?_ | refine fun (D : KD) hD => ?_ | refine fun (hg : (_ : Prop)) => ?_ | fail); all_goals (first | (refine Wr.mk ?_; (try clear gx q1 q2 q3); repeat first | clear hK hE hT K | clear hR hE hT K) | assumption | skip))
        (refine hR.out ⟨k + 1, by omega⟩ _ _ _ (by simp only; omega) ?_; (refine wk_a ?_; simp only [MAB, seval]; refine ⟨rfl, rfl, (by decide), ?_, ?_⟩; all_goals (first | (simp only [WKB, seval, egTo, e1, o1, edV, edC, EdgeD.k]; done) | (simp [WKB, seval, egTo, e1, o1, edV, edC, EdgeD.k]; done) | simp only [WKB, seval])))

end Go.Proofs.YtfnhchcgieeedaaGreat

namespace Go.Proofs.YtfnhchcgieeedaaGreat
set_option linter.unusedSimpArgs false
set_option linter.unusedVariables false
set_option linter.defProp false
open Go.RowKit

/-! A graph with a vertex, and a run over it. -/

def mrG (b : List UInt8) (c : Cu) : GraphD := if (gdG b c).N = 0 then ⟨1, (gdG b c).Edges⟩ else gdG b c
theorem mrG_ok (b : List UInt8) (c : Cu) : graphOk (mrG b c) = true ∧ 0 < (mrG b c).N ∧ (mrG b c).N ≤ 9 := by
  have r0 := bwV_rng b c (n := 9) (by decide)
  have r1 := bwV_rng b (bwC b c 9) (n := 14) (by decide)
  by_cases hz : bwV b c 9 = 0
  · have e1 : gdG b c = ⟨0, []⟩ := by unfold gdG; rw [if_pos hz]
    have e2 : mrG b c = ⟨1, []⟩ := by unfold mrG; rw [e1]; rfl
    rw [e2]
    exact ⟨rfl, by decide, by decide⟩
  · have e1 : gdG b c = ⟨bwV b c 9, (gdS b c).1⟩ := by unfold gdG; rw [if_neg hz]
    have e2 : mrG b c = ⟨bwV b c 9, (gdS b c).1⟩ := by unfold mrG; rw [e1]; exact if_neg hz
    rw [e2]
    have o1 : (gdS b c).1.length = gdM b c := egTo_len b _ _ _
    have o2 : gdM b c < 14 := by unfold gdM; omega
    refine ⟨?_, by show 0 < bwV b c 9; omega, by show bwV b c 9 ≤ 9; omega⟩
    unfold graphOk
    rw [Bool.and_eq_true, decide_eq_true_eq]
    exact ⟨⟨r0.1, by show bwV b c 9 ≤ 150; omega, by show (gdS b c).1.length ≤ 400; omega⟩, egTo_ok b (by omega) _ _⟩
theorem runOk_small {g : GraphD} {r : RunD} (h : runOk g r = true) : r.Vals.length ≤ 150 ∧ r.EVals.length ≤ 400 ∧ r.Next.Bits.length ≤ 19 := by
  obtain ⟨hin, _⟩ := runOk_in h
  obtain ⟨⟨g1, g2, g3⟩, _⟩ := graphOk_out hin.go
  have := hin.vl
  have := hin.el
  have := (setOk_len hin.so).2.2.2
  omega

end Go.Proofs.YtfnhchcgieeedaaGreat

