/-
  For all arguments the law FnExactBack returns true. No conditions.
-/
import Derived.Test.YtfkpmhnfpljakaaLV25
import Derived.Test.YtfkpmhnfpljakaaSh6
namespace Go.Proofs.Ytfkpmhnfpljakaa
set_option linter.unusedSimpArgs false
set_option linter.unusedVariables false
set_option linter.unusedSimpArgs false
set_option linter.unusedVariables false
set_option linter.defProp false
set_option maxRecDepth 20000
open Go.RowKit Go.ChangeShapes Go.WideShapes Go.ChangeAt

theorem FnExactBack_args {H : Type} {enc : TypeId × Value → H} (W : World) (b0 : Nat) (args : Array Value) (ds : List (DataW H)) (ps : List MemPlace)
    (hval : ∀ (j : Nat) t v, Try.f5.params[j]? = some t → args[j]? = some v → Value.okWide Try.prog W .any b0 t v)
    (hA : DataW.TrodAll enc Try.prog W 0 (fun _ => true) true Try.f5.params.toList args.toList ds ps) :
    Calls Try.prog 5 args W fun e W' => e = .returned (.bool true) ∧ Below W.heap.size W W' := by
  rw [Try.params5] at hA hval
  obtain ⟨v0, vs0, d0, ds0, p0, q0, hargs, rfl, rfl, h0, r0⟩ := trodAll_cons hA
  obtain ⟨rfl, rfl, rfl⟩ := trodAll_nil r0
  obtain rfl : args = #[v0] := by cases args; simp_all
  obtain ⟨cs0, rfl, n0, x0, t0⟩ := arg_struct Try.underlying52 (hval 0 _ _ rfl rfl) h0
  obtain ⟨D0, R0, S0, _⟩ := rd_all 7 52 (by kernel_rfl) _ _ _ t0
  obtain ⟨z0, rfl, rz0⟩ := sh_FRun (d := 0) S0
  exact law_calls (l := [(true, [.v (.int .i64 z0.Job.Prog), .v (.int .i64 z0.Job.Src), .v (.int .i64 z0.Iter), .v (.bool z0.Done), .sl 3 1 (z0.Vals.map intK), .v (.int .i64 z0.Next.N), .sl 5 1 (z0.Next.Bits.map bytK), .v (.int .i64 z0.Farm.N), .sl 3 1 (z0.Farm.Ends.map intK), .sl 155 3 (z0.Farm.Shards.map (ShardD.k 159))])]) (vs := [_]) ⟨⟨cs0, rfl, R0⟩, trivial⟩ (by simp only [impA, impC, List.length_map, List.nil_append, List.cons_append, List.append_nil, Nat.zero_add, Nat.reduceAdd]; exact FnExactBack_k z0 rz0)

theorem FnExactBack_proved : Rows.FnExactBackSaid :=
  OpenClaim.holds_of_wide 5 Try.f5 rfl rfl rfl rfl rfl rfl rfl ⟨rfl, rfl, rfl, rfl, rfl⟩ rfl rfl rfl rfl rfl (by kernel_rfl) Try.func5 (by kernel_rfl)
    (of_decide_eq_true (by kernel_rfl)) (by unfold Func.isWrapper; first | (rw [if_pos (by decide +kernel)]; kernel_rfl) | (rw [if_neg (by decide +kernel)]; exact ⟨rfl, rfl⟩))
    (fun os started H enc _ => law_lifted 5 Try.f5 Rows.fnExactBackSpec ⟨rfl, fun H ds h => by match ds, h with | [_], _ => rfl⟩ rfl (by kernel_rfl) (by kernel_rfl) Try.func5 Rows.fnExactBackRow.domain os started H enc
      (ChangeSpec.witness6 (enc := enc) (C := Try.checked) false ⟨#[], #[.agg #[.int .i64 0, .int .i64 0, .int .i64 0, .bool false, .slice none 0 0, .int .i64 0, .slice none 0 0, .int .i64 0, .slice none 0 0, .slice none 0 0]], []⟩ 8 (by kernel_rfl) (by kernel_rfl) (by kernel_rfl) (by kernel_rfl))
      (fun W b0 args ds ps hval hA => FnExactBack_args W b0 args ds ps hval hA))
#print axioms FnExactBack_proved

end Go.Proofs.Ytfkpmhnfpljakaa