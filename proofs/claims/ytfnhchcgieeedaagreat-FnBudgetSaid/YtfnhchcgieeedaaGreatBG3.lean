/-
  Contracts: a graph and a job drawn. No conditions of its own.
-/
import Derived.Test.YtfnhchcgieeedaaGreatGO
import Derived.Test.YtfnhchcgieeedaaGreatMD
import Derived.Test.YtfnhchcgieeedaaGreatZz3
namespace Go.Proofs.YtfnhchcgieeedaaGreat
set_option linter.unusedSimpArgs false
set_option linter.unusedVariables false
set_option linter.unusedSimpArgs false
set_option linter.unusedVariables false
set_option linter.defProp false
set_option maxRecDepth 20000
open Go.RowKit

def bgG (b : List UInt8) : GraphD := mrG b (newC b)
def bjC (b : List UInt8) : Cu := ⟨(newC b).i, IntKind.i64.wrap ((newC b).h + 91)⟩
def bgJ (b : List UInt8) : JobD := jobV b (bjC b) (bgG b).N
theorem bgG_ok (b : List UInt8) : graphOk (bgG b) = true ∧ 0 < (bgG b).N ∧ (bgG b).N ≤ 9 := mrG_ok b (newC b)
theorem bgJ_ok (b : List UInt8) : jobOk (bgG b).N (bgJ b) = true := by
  have h1 := jobV_rng b (bjC b) (bgG b).N
  have h2 := jobV_src b (bjC b) (bgG_ok b).2.1
  unfold jobOk
  rw [decide_eq_true_eq]
  exact ⟨h1.1, h1.2, fun _ => ⟨h2.1, h2.2.1⟩, h2.2.2⟩

set_option maxHeartbeats 4000000 in
theorem makeGraph_k (b : List UInt8) (hb : b.length ≤ 1048576) : FnOK Tryz.prog 4 ⟨1, [(0, some (.ro (b.map bytK)))], [.c (.sl 0 1 0 b.length)],
    .agg [.v (.int .i64 (bgG b).N), .sl 1 3 0 ((bgG b).Edges).length], [(1, some (.row 63 (((bgG b).Edges).map EdgeD.k)))], 2⟩ := by
  have k0 := l01New_k b hb
  have k1 := l04Draw_k b (newC b) hb (newC_le b)
  by_cases hz : (gdG b (newC b)).N = 0
  · have e : bgG b = ⟨1, (gdG b (newC b)).Edges⟩ := by unfold bgG mrG; rw [if_pos hz]
    rw [e]
    refine fnOK_of true mixed Tryz.func4 rfl (by rfl) (by rfl) ?_
    have hres := congrArg Array.toList Tryz.results4
    simp only [Tryz.ntmps4, BGB, seval]
    (have gx := @hz; have q1 := k0; have q2 := k1; refine go ?_; (repeat' first | exact Ef.mk | apply Lf.mk | refine fun (K : KT) hK hE hT => ?_ | refine fun (KS : KE) hKS => ?_ | refine fun (D : KD) hD => ?_ | refine fun (hg : (_ : Prop)) => ?_ | fail); all_goals (first | (refine Wr.mk ?_; (try clear gx q1 q2); repeat first | clear hK hE hT K | clear hR hE hT K) | assumption | skip))
    (refine post_a hres (.inl rfl) ?_; simp only [RSB, ENB, seval, tiAll, true_and]; simp only [MAB, seval]; refine ⟨rfl, rfl, ?_, ?_, ?_⟩ <;> (first | rfl | (simp [WKB, Nat.add_comm, true_and]; done) | (simp only [WKB, seval])))
  · have e : bgG b = gdG b (newC b) := by unfold bgG mrG; rw [if_neg hz]
    rw [e]
    refine fnOK_of true mixed Tryz.func4 rfl (by rfl) (by rfl) ?_
    have hres := congrArg Array.toList Tryz.results4
    simp only [Tryz.ntmps4, BGB, seval]
    (have gx := true_and True; have q1 := k0; have q2 := k1; refine go ?_; (repeat' first | exact Ef.mk | apply Lf.mk | refine fun (K : KT) hK hE hT => ?_ | refine fun (KS : KE) hKS => ?_ | refine fun (D : KD) hD => ?_ | refine fun (hg : (_ : Prop)) => ?_ | fail); all_goals (first | (refine Wr.mk ?_; (try clear gx q1 q2); repeat first | clear hK hE hT K | clear hR hE hT K) | assumption | skip))
    (refine post_a hres (.inl rfl) ?_; simp only [RSB, ENB, seval, tiAll, true_and]; simp only [MAB, seval]; refine ⟨rfl, rfl, ?_, ?_, ?_⟩ <;> (first | rfl | (simp [WKB, Nat.add_comm, true_and]; done) | (simp only [WKB, seval])))

set_option maxHeartbeats 2000000 in
theorem makeJob_k (b : List UInt8) (n : Int) (hb : b.length ≤ 1048576) (hn : n ≤ 256) : FnOK Tryz.prog 5 ⟨1, [(0, some (.ro (b.map bytK)))], [.c (.sl 0 1 0 b.length), .c (.v (.int .i64 n))],
    .agg [.v (.int .i64 (jobV b (bjC b) n).Prog), .v (.int .i64 (jobV b (bjC b) n).Src)], [], 1⟩ := by
  have k0 := l01New_k b hb
  have k1 := l10Job_k b ⟨(newC b).i, IntKind.i64.wrap ((newC b).h + 91)⟩ n hb (newC_le b) hn
  dsimp only at k1
  refine fnOK_of false mixed Tryz.func5 rfl (by rfl) (by rfl) ?_
  have hres := congrArg Array.toList Tryz.results5
  simp only [Tryz.ntmps5, BGB, seval]
  (have gx := true_and True; have q1 := k0; have q2 := k1; refine go ?_; (repeat' first | exact Ef.mk | apply Lf.mk | refine fun (K : KT) hK hE hT => ?_ | refine fun (KS : KE) hKS => ?_ | refine fun (D : KD) hD => ?_ | refine fun (hg : (_ : Prop)) => ?_ | fail); all_goals (first | (refine Wr.mk ?_; (try clear gx q1 q2); repeat first | clear hK hE hT K | clear hR hE hT K) | assumption | skip))
  all_goals (refine post_a hres (.inl rfl) ?_; simp only [RSB, ENB, seval, tiAll, bjC]; simp only [MAB, seval]; refine ⟨rfl, rfl, ?_, ?_, ?_⟩ <;> (first | rfl | (simp [WKB, Nat.add_comm, bjC]; done) | (simp only [WKB, seval])))

end Go.Proofs.YtfnhchcgieeedaaGreat

