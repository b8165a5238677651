/-
  The program's small helpers: a number kept in range, an operation copied. No conditions of its own.
-/
import Derived.Test.YtfnhchcgieeedaaGO
import Derived.Test.YtfnhchcgieeedaaDI5
namespace Go.Proofs.Ytfnhchcgieeedaa
set_option linter.unusedSimpArgs false
set_option linter.unusedVariables false
set_option linter.unusedSimpArgs false
set_option linter.unusedVariables false
set_option linter.defProp false
set_option maxRecDepth 20000
open Go.RowKit

set_option maxHeartbeats 2000000 in
theorem iclamp_k (n m : Int) : FnOK Try.prog 71 ⟨0, [], [.c (.v (.int .i64 n)), .c (.v (.int .i64 m))], .c (.v (.int .i64 (max 0 (min n m)))), [], 0⟩ := by
  refine fnOK_of true mixed Try.func71 rfl (by rfl) (by rfl) ?_
  have hres := congrArg Array.toList Try.results71
  simp only [Try.ntmps71, BGB, seval]
  (have gx := true_and True; refine go ?_; (repeat' first | exact Ef.mk | apply Lf.mk | refine fun (K : KT) hK hE hT => ?_ | refine fun (KS : KE) hKS => ?_ | refine fun (D : KD) hD => ?_ | refine fun (hg : (_ : Prop)) => ?_ | fail); all_goals (first | (refine Wr.mk ?_; (try clear gx); repeat first | clear hK hE hT K | clear hR hE hT K) | assumption | skip))
  (refine post_a hres (.inl rfl) ?_; simp only [RSB, ENB, seval, tiAll, true_and]; simp only [MAB, seval]; refine ⟨rfl, rfl, ?_, ?_, ?_⟩ <;> (first | rfl | (simp [WKB, Nat.add_comm, true_and]; done) | (simp only [WKB, seval])))

set_option maxHeartbeats 2000000 in
theorem copyOp_k (o : FsOpD) (h : o.Data.length ≤ 1048576) : FnOK Try.prog 73 ⟨1, [(0, some (.ro ((o.Data).map bytK)))], [.agg [.v (.int .i64 o.Kind), .v (.string (txt o.Name)), .v (.string (txt o.To)), .sl 0 1 0 (o.Data).length]], .agg [.v (.int .i64 o.Kind), .v (.string (txt o.Name)), .v (.string (txt o.To)), .sl 1 1 0 (o.Data).length], [(1, some (.row 5 (o.Data.map bytK)))], 2⟩ := by
  have c := copyB_k o.Data h
  refine fnOK_of true mixed Try.func73 rfl (by rfl) (by rfl) ?_
  have hres := congrArg Array.toList Try.results73
  simp only [Try.ntmps73, BGB, seval]
  (have gx := true_and True; have q1 := c; refine go ?_; (repeat' first | exact Ef.mk | apply Lf.mk | refine fun (K : KT) hK hE hT => ?_ | refine fun (KS : KE) hKS => ?_ | refine fun (D : KD) hD => ?_ | refine fun (hg : (_ : Prop)) => ?_ | fail); all_goals (first | (refine Wr.mk ?_; (try clear gx q1); repeat first | clear hK hE hT K | clear hR hE hT K) | assumption | skip))
  (refine post_a hres (.inl rfl) ?_; simp only [RSB, ENB, seval, tiAll, true_and]; simp only [MAB, seval]; refine ⟨rfl, rfl, ?_, ?_, ?_⟩ <;> (first | rfl | (simp [WKB, Nat.add_comm, true_and]; done) | (simp only [WKB, seval])))

end Go.Proofs.Ytfnhchcgieeedaa
