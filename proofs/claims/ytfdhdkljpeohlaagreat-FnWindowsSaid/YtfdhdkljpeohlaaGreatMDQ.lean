/-
  The engine, texts DQ DQ2 in one. No conditions of its own.
-/
import Derived.Test.YtfdhdkljpeohlaaGreatGO
import Derived.Test.YtfdhdkljpeohlaaGreatS1
import Derived.Laws.StructEq
import Derived.Test.YtfdhdkljpeohlaaGreatDF
namespace Go.Proofs.YtfdhdkljpeohlaaGreat
set_option linter.unusedSimpArgs false
set_option linter.unusedVariables false
set_option linter.unusedSimpArgs false
set_option linter.unusedVariables false
set_option linter.defProp false
open Go.RowKit

theorem eq_job : eqTwo Tryz.prog 24 := by
  refine ⟨by kernel_rfl, fun a b c d w => ?_⟩
  have u3 := Tryz.underlying3
  have hS : Tryz.prog.underlying 24 = some (.struct (Tryz.prog.fieldsOf 24)) := by kernel_rfl
  have hp : Tryz.prog.stoodInHeld 24 = false := by kernel_rfl
  rw [show (10000 : Nat) = 9999 + 1 from rfl, run_equalIn_agg w 9999 24 _ _ hS hp]
  simp only [Program.fieldsOf, Tryz.underlying24]
  go_simp
  by_cases h1 : a = c <;> by_cases h2 : b = d <;> simp [h1, h2]

end Go.Proofs.YtfdhdkljpeohlaaGreat

namespace Go.Proofs.YtfdhdkljpeohlaaGreat
set_option linter.unusedSimpArgs false
set_option linter.unusedVariables false
set_option linter.defProp false
open Go.RowKit

set_option maxHeartbeats 2000000 in
theorem sameInts_k (l : List Int) (hl : l.length ≤ 1048576) : FnOK Tryz.prog 41 ⟨2, [(0, some (.ro (l.map intK))), (1, some (.ro (l.map intK)))], [.c (.sl 0 1 0 l.length), .c (.sl 1 1 0 l.length)], .c (.v (.bool true)), [], 2⟩ := by
  refine fnOK_of true mixed Tryz.func41 rfl (by rfl) (by rfl) ?_
  have hres := congrArg Array.toList Tryz.results41
  simp only [Tryz.ntmps41, BGB, seval]
  (have gx := @List.length_map.{0,0}; refine go ?_; (repeat' first | exact Ef.mk | apply Lf.mk | refine fun (K : KT) hK hE hT => ?_ | refine fun (KS : KE) hKS => ?_ | refine fun (D : KD) hD => ?_ | refine fun (hg : (_ : Prop)) => ?_ | fail); all_goals (first | (refine Wr.mk ?_; (try clear gx); repeat first | clear hK hE hT K | clear hR hE hT K) | assumption | skip))
  refine loop_v (X := {k : Nat // k ≤ l.length}) [] (fun x => [(13, .c (.v (.int .i64 ((x.1 : Nat) : Int))))]) (fun x => [(0, some (.ro (l.map intK))), (1, some (.ro (l.map intK)))]) 2 (fun x => l.length - x.1) ⟨0, by omega⟩ ?_
  simp only [KPB, seval]
  refine ⟨?_, ?_⟩
  · (refine wk_a ?_; simp only [MAB, seval]; refine ⟨rfl, rfl, (by decide), ?_, ?_⟩; all_goals (first | (simp only [WKB, seval, true_and]; done) | (simp [WKB, seval, true_and]; done) | simp only [WKB, seval]))
  · rintro ⟨k, hk⟩ K hR hE hT
    (have gx := And.intro (@List.length_map.{0,0}) (And.intro @List.getElem_map.{0,0} @intK.eq_1); refine go ?_; (repeat' first | exact Ef.mk | apply Lf.mk | refine fun (K : KT) hK hE hT => ?_ | refine fun (KS : KE) hKS => ?_ | refine fun (D : KD) hD => ?_ | refine fun (hg : (_ : Prop)) => ?_ | fail); all_goals (first | (refine Wr.mk ?_; (try clear gx); repeat first | clear hK hE hT K | clear hR hE hT K) | assumption | skip))
    all_goals first
      | (refine hR.out ⟨k + 1, by omega⟩ _ _ _ (by simp only; omega) ?_; (refine wk_a ?_; simp only [MAB, seval]; refine ⟨rfl, rfl, (by decide), ?_, ?_⟩; all_goals (first | (simp only [WKB, seval, true_and]; done) | (simp [WKB, seval, true_and]; done) | simp only [WKB, seval])))
      | (refine post_a hres (.inl rfl) ?_; simp only [RSB, ENB, seval, tiAll, true_and]; simp only [MAB, seval]; refine ⟨rfl, rfl, ?_, ?_, ?_⟩ <;> (first | rfl | (simp [WKB, Nat.add_comm, true_and]; done) | (simp only [WKB, seval])))
      | fail

set_option maxHeartbeats 4000000 in
theorem sameRun_k (x : RunD) (hx : (x.Vals).length ≤ 1048576 ∧ (x.EVals).length ≤ 1048576 ∧ (x.Next.Bits).length ≤ 1048576) : FnOK Tryz.prog 11 ⟨6, [(0, some (.ro ((x.Vals).map intK))), (1, some (.ro ((x.EVals).map intK))), (2, some (.ro ((x.Next.Bits).map bytK))), (3, some (.ro ((x.Vals).map intK))), (4, some (.ro ((x.EVals).map intK))), (5, some (.ro ((x.Next.Bits).map bytK)))], [.agg [.v (.int .i64 x.Job.Prog), .v (.int .i64 x.Job.Src), .v (.int .i64 x.Iter), .v (.bool x.Done), .sl 0 1 0 (x.Vals).length, .sl 1 1 0 (x.EVals).length, .v (.int .i64 x.Next.N), .sl 2 1 0 (x.Next.Bits).length], .agg [.v (.int .i64 x.Job.Prog), .v (.int .i64 x.Job.Src), .v (.int .i64 x.Iter), .v (.bool x.Done), .sl 3 1 0 (x.Vals).length, .sl 4 1 0 (x.EVals).length, .v (.int .i64 x.Next.N), .sl 5 1 0 (x.Next.Bits).length]], .c (.v (.bool true)), [], 6⟩ := by
  have hq := eq_job
  have k1 := sameInts_k x.Vals (by omega)
  have k2 := sameInts_k x.EVals (by omega)
  refine fnOK_of true mixed Tryz.func11 rfl (by rfl) (by rfl) ?_
  have hres := congrArg Array.toList Tryz.results11
  simp only [Tryz.ntmps11, BGB, seval]
  (have gx := @List.length_map.{0,0}; have q1 := k1; have q2 := k2; have gs := hq; refine go ?_; (repeat' first | exact Ef.mk | apply Lf.mk | refine fun (K : KT) hK hE hT => ?_ | refine fun (KS : KE) hKS => ?_ | refine fun (D : KD) hD => ?_ | refine fun (hg : (_ : Prop)) => ?_ | fail); all_goals (first | (refine Wr.mk ?_; (try clear gx q1 q2 gs); repeat first | clear hK hE hT K | clear hR hE hT K) | assumption | skip))
  refine ⟨x.Next.Bits, by rw [List.take_of_length_le (by simp)], rfl, ?_⟩
  (have gx := @List.length_map.{0,0}; refine go ?_; (repeat' first | exact Ef.mk | apply Lf.mk | refine fun (K : KT) hK hE hT => ?_ | refine fun (KS : KE) hKS => ?_ | refine fun (D : KD) hD => ?_ | refine fun (hg : (_ : Prop)) => ?_ | fail); all_goals (first | (refine Wr.mk ?_; (try clear gx); repeat first | clear hK hE hT K | clear hR hE hT K) | assumption | skip))
  refine ⟨x.Next.Bits, by rw [List.take_of_length_le (by simp)], rfl, ?_⟩
  (have gx := @List.length_map.{0,0}; refine go ?_; (repeat' first | exact Ef.mk | apply Lf.mk | refine fun (K : KT) hK hE hT => ?_ | refine fun (KS : KE) hKS => ?_ | refine fun (D : KD) hD => ?_ | refine fun (hg : (_ : Prop)) => ?_ | fail); all_goals (first | (refine Wr.mk ?_; (try clear gx); repeat first | clear hK hE hT K | clear hR hE hT K) | assumption | skip))
  all_goals (refine post_a hres (.inl rfl) ?_; simp only [RSB, ENB, seval, tiAll, true_and]; simp only [MAB, seval]; refine ⟨rfl, rfl, ?_, ?_, ?_⟩ <;> (first | rfl | (simp [WKB, Nat.add_comm, true_and]; done) | (simp only [WKB, seval])))

end Go.Proofs.YtfdhdkljpeohlaaGreat

