/-
  The program's fuse. No conditions of its own.
-/
import Derived.Test.YtfnhchcgieeedaaGO
import Derived.Test.YtfnhchcgieeedaaDI9
import Derived.Test.YtfnhchcgieeedaaDH3
namespace Go.Proofs.Ytfnhchcgieeedaa
set_option linter.unusedSimpArgs false
set_option linter.unusedVariables false
set_option linter.unusedSimpArgs false
set_option linter.unusedVariables false
set_option linter.defProp false
set_option maxRecDepth 20000
open Go.RowKit

def brn (n : Int) : Int := if 0 < n then n - 1 else n
set_option maxHeartbeats 2000000 in
theorem burnA_k (a b : Int) (M : List FileD) (W : List FsOpD) (hb : b ≤ 1099511627776) : FnOK Try.prog 77 ⟨3, [(0, some (.box 50 [.v (.int .i64 a), .v (.int .i64 b), .sl 1 2 0 M.length, .sl 2 4 0 W.length])), (1, some (.nst 95 (M.map (FileD.k 5)) none)), (2, some (.nst 66 (W.map (FsOpD.k 5)) none))], [.c (.ptr 0 0 0)], .tup [], [(0, some (.box 50 [.v (.int .i64 a), .v (.int .i64 (brn b)), .sl 1 2 0 M.length, .sl 2 4 0 W.length])), (1, some (.nst 95 (M.map (FileD.k 5)) none)), (2, some (.nst 66 (W.map (FsOpD.k 5)) none))], 3⟩ := by
  rcases Int.lt_or_le 0 b with h | h
  · have e : brn b = b - 1 := by unfold brn; rw [if_pos h]
    rw [e]
    refine fnOK_of true mixed Try.func77 rfl (by rfl) (by rfl) ?_
    have hres := congrArg Array.toList Try.results77
    simp only [Try.ntmps77, BGB, seval]
    (have gx := true_and True; refine go ?_; (repeat' first | exact Ef.mk | apply Lf.mk | refine fun (K : KT) hK hE hT => ?_ | refine fun (KS : KE) hKS => ?_ | refine fun (D : KD) hD => ?_ | refine fun (hg : (_ : Prop)) => ?_ | fail); all_goals (first | (refine Wr.mk ?_; (try clear gx); repeat first | clear hK hE hT K | clear hR hE hT K) | assumption | skip))
    all_goals (refine post_a hres (by first | exact .inl rfl | exact .inr rfl) ?_; simp only [RSB, ENB, seval, tiAll, true_and]; simp only [MAB, seval]; refine ⟨rfl, rfl, ?_, ?_, ?_⟩ <;> (first | rfl | (simp [WKB, Nat.add_comm, true_and]; done) | (simp only [WKB, seval])))
  · have e : brn b = b := by unfold brn; rw [if_neg (by omega)]
    rw [e]
    refine fnOK_of true mixed Try.func77 rfl (by rfl) (by rfl) ?_
    have hres := congrArg Array.toList Try.results77
    simp only [Try.ntmps77, BGB, seval]
    (have gx := true_and True; refine go ?_; (repeat' first | exact Ef.mk | apply Lf.mk | refine fun (K : KT) hK hE hT => ?_ | refine fun (KS : KE) hKS => ?_ | refine fun (D : KD) hD => ?_ | refine fun (hg : (_ : Prop)) => ?_ | fail); all_goals (first | (refine Wr.mk ?_; (try clear gx); repeat first | clear hK hE hT K | clear hR hE hT K) | assumption | skip))
    all_goals (refine post_a hres (by first | exact .inl rfl | exact .inr rfl) ?_; simp only [RSB, ENB, seval, tiAll, true_and]; simp only [MAB, seval]; refine ⟨rfl, rfl, ?_, ?_, ?_⟩ <;> (first | rfl | (simp [WKB, Nat.add_comm, true_and]; done) | (simp only [WKB, seval])))
set_option maxHeartbeats 2000000 in
theorem burnB_k (a b : Int) (M : List FileD) (hb : b ≤ 1099511627776) : FnOK Try.prog 77 ⟨2, [(0, some (.box 50 [.v (.int .i64 a), .v (.int .i64 b), .sl 1 2 0 M.length, .nil])), (1, some (.nst 95 (M.map (FileD.k 5)) none))], [.c (.ptr 0 0 0)], .tup [], [(0, some (.box 50 [.v (.int .i64 a), .v (.int .i64 (brn b)), .sl 1 2 0 M.length, .nil])), (1, some (.nst 95 (M.map (FileD.k 5)) none))], 2⟩ := by
  rcases Int.lt_or_le 0 b with h | h
  · have e : brn b = b - 1 := by unfold brn; rw [if_pos h]
    rw [e]
    refine fnOK_of true mixed Try.func77 rfl (by rfl) (by rfl) ?_
    have hres := congrArg Array.toList Try.results77
    simp only [Try.ntmps77, BGB, seval]
    (have gx := true_and True; refine go ?_; (repeat' first | exact Ef.mk | apply Lf.mk | refine fun (K : KT) hK hE hT => ?_ | refine fun (KS : KE) hKS => ?_ | refine fun (D : KD) hD => ?_ | refine fun (hg : (_ : Prop)) => ?_ | fail); all_goals (first | (refine Wr.mk ?_; (try clear gx); repeat first | clear hK hE hT K | clear hR hE hT K) | assumption | skip))
    all_goals (refine post_a hres (by first | exact .inl rfl | exact .inr rfl) ?_; simp only [RSB, ENB, seval, tiAll, true_and]; simp only [MAB, seval]; refine ⟨rfl, rfl, ?_, ?_, ?_⟩ <;> (first | rfl | (simp [WKB, Nat.add_comm, true_and]; done) | (simp only [WKB, seval])))
  · have e : brn b = b := by unfold brn; rw [if_neg (by omega)]
    rw [e]
    refine fnOK_of true mixed Try.func77 rfl (by rfl) (by rfl) ?_
    have hres := congrArg Array.toList Try.results77
    simp only [Try.ntmps77, BGB, seval]
    (have gx := true_and True; refine go ?_; (repeat' first | exact Ef.mk | apply Lf.mk | refine fun (K : KT) hK hE hT => ?_ | refine fun (KS : KE) hKS => ?_ | refine fun (D : KD) hD => ?_ | refine fun (hg : (_ : Prop)) => ?_ | fail); all_goals (first | (refine Wr.mk ?_; (try clear gx); repeat first | clear hK hE hT K | clear hR hE hT K) | assumption | skip))
    all_goals (refine post_a hres (by first | exact .inl rfl | exact .inr rfl) ?_; simp only [RSB, ENB, seval, tiAll, true_and]; simp only [MAB, seval]; refine ⟨rfl, rfl, ?_, ?_, ?_⟩ <;> (first | rfl | (simp [WKB, Nat.add_comm, true_and]; done) | (simp only [WKB, seval])))

end Go.Proofs.Ytfnhchcgieeedaa
