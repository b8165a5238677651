/-
  The program's files: whether an operation fits. No conditions of its own.
-/
import Derived.Test.YtfnhchcgieeedaaGO
import Derived.Test.YtfnhchcgieeedaaDI3
namespace Go.Proofs.Ytfnhchcgieeedaa
set_option linter.unusedSimpArgs false
set_option linter.unusedVariables false
set_option linter.unusedSimpArgs false
set_option linter.unusedVariables false
set_option linter.defProp false
set_option maxRecDepth 20000
open Go.RowKit

set_option maxHeartbeats 8000000 in
theorem ffits_k (b : Nat) (M : List FileD) (o : FsOpD) (hm : M.length ≤ 1048576) (hn : o.Name.length ≤ 1048576) : FnOK Try.prog 83 ⟨2, [(0, some (.gx [b] (mapS Try.prog 9 5 b M))), (1, some (.ro (o.Data.map bytK)))], [.c (.v (.map (some b))), .agg [.v (.int .i64 o.Kind), .v (.string (txt o.Name)), .v (.string (txt o.To)), .sl 1 1 0 (o.Data).length]], .c (.v (.bool (fitsF M o))), [(0, some (.gx [b] (mapS Try.prog 9 5 b M)))], 2⟩ := by
  cases e : lkF M o.Name with
  | none =>
    refine fnOK_of true mixed Try.func83 rfl (by rfl) (by rfl) ?_
    have hres := congrArg Array.toList Try.results83
    simp only [Try.ntmps83, BGB, seval]
    (have gx := true_and True; refine go ?_; (repeat' first | exact Ef.mk | apply Lf.mk | refine fun (K : KT) hK hE hT => ?_ | refine fun (KS : KE) hKS => ?_ | refine fun (D : KD) hD => ?_ | refine fun (hg : (_ : Prop)) => ?_ | fail); all_goals (first | (refine Wr.mk ?_; (try clear gx); repeat first | clear hK hE hT K | clear hR hE hT K) | assumption | skip))
    refine look_n msF (f := 0) rfl rfl rfl (by unfold maxLen; omega) e ?_
    refine hKS _ _ _ _ ?_
    clear hKS; clear KS; simp only [EVB, seval]
    (have gx := @txt_list; refine go ?_; (repeat' first | exact Ef.mk | apply Lf.mk | refine fun (K : KT) hK hE hT => ?_ | refine fun (KS : KE) hKS => ?_ | refine fun (D : KD) hD => ?_ | refine fun (hg : (_ : Prop)) => ?_ | fail); all_goals (first | (refine Wr.mk ?_; (try clear gx); repeat first | clear hK hE hT K | clear hR hE hT K) | assumption | skip))
    all_goals first
      | (refine len_s msF (f := 0) rfl rfl ?_
         refine hKS _ _ _ _ ?_
         clear hKS; clear KS; simp only [EVB, seval]
         (have gx := @txt_list; refine go ?_; (repeat' first | exact Ef.mk | apply Lf.mk | refine fun (K : KT) hK hE hT => ?_ | refine fun (KS : KE) hKS => ?_ | refine fun (D : KD) hD => ?_ | refine fun (hg : (_ : Prop)) => ?_ | fail); all_goals (first | (refine Wr.mk ?_; (try clear gx); repeat first | clear hK hE hT K | clear hR hE hT K) | assumption | skip)))
      | skip
    all_goals (refine post_a hres (.inl rfl) ?_; simp only [RSB, ENB, seval, tiAll, true_and]; simp only [MAB, seval]; refine ⟨rfl, rfl, ?_, ?_, ?_⟩ <;> (first | rfl | (simp [WKB, Nat.add_comm, true_and]; done) | (simp only [WKB, seval])))
    all_goals (refine congrArg (fun b => SV.c (CV.v (Value.bool b))) ?_; symm; unfold fitsF; rw [e]; simp_all <;> omega)
  | some q =>
    refine fnOK_of true mixed Try.func83 rfl (by rfl) (by rfl) ?_
    have hres := congrArg Array.toList Try.results83
    simp only [Try.ntmps83, BGB, seval]
    (have gx := true_and True; refine go ?_; (repeat' first | exact Ef.mk | apply Lf.mk | refine fun (K : KT) hK hE hT => ?_ | refine fun (KS : KE) hKS => ?_ | refine fun (D : KD) hD => ?_ | refine fun (hg : (_ : Prop)) => ?_ | fail); all_goals (first | (refine Wr.mk ?_; (try clear gx); repeat first | clear hK hE hT K | clear hR hE hT K) | assumption | skip))
    refine look_y msF (f := 0) rfl rfl rfl (by unfold maxLen; omega) e ?_
    refine hKS _ _ _ _ ?_
    clear hKS; clear KS; simp only [EVB, seval]
    (have gx := @txt_list; refine go ?_; (repeat' first | exact Ef.mk | apply Lf.mk | refine fun (K : KT) hK hE hT => ?_ | refine fun (KS : KE) hKS => ?_ | refine fun (D : KD) hD => ?_ | refine fun (hg : (_ : Prop)) => ?_ | fail); all_goals (first | (refine Wr.mk ?_; (try clear gx); repeat first | clear hK hE hT K | clear hR hE hT K) | assumption | skip))
    all_goals (refine post_a hres (.inl rfl) ?_; simp only [RSB, ENB, seval, tiAll, true_and]; simp only [MAB, seval]; refine ⟨rfl, rfl, ?_, ?_, ?_⟩ <;> (first | rfl | (simp [WKB, Nat.add_comm, true_and]; done) | (simp only [WKB, seval])))
    all_goals (refine congrArg (fun b => SV.c (CV.v (Value.bool b))) ?_; symm; unfold fitsF; rw [e, Bool.eq_iff_iff]; simp_all <;> omega)

end Go.Proofs.Ytfnhchcgieeedaa
