/-
  For all arguments the law FnExactFIter returns true. No conditions.
-/
import Derived.Test.YtcbnfkbnbdbfoaaGreatLV31
import Derived.Test.YtcbnfkbnbdbfoaaGreatSh6
namespace Go.Proofs.YtcbnfkbnbdbfoaaGreat
set_option linter.unusedSimpArgs false
set_option linter.unusedVariables false
set_option linter.unusedSimpArgs false
set_option linter.unusedVariables false
set_option linter.defProp false
set_option maxRecDepth 20000
open Go.RowKit Go.ChangeShapes Go.WideShapes Go.ChangeAt

theorem FnExactFIter_args {H : Type} {enc : TypeId × Value → H} (W : World) (b0 : Nat) (args : Array Value) (ds : List (DataW H)) (ps : List MemPlace)
    (hval : ∀ (j : Nat) t v, Tryz.f4.params[j]? = some t → args[j]? = some v → Value.okWide Tryz.prog W .any b0 t v)
    (hA : DataW.TrodAll enc Tryz.prog W 0 (fun _ => true) true Tryz.f4.params.toList args.toList ds ps) :
    Calls Tryz.prog 4 args W fun e W' => e = .returned (.bool true) ∧ Below W.heap.size W W' := by
  rw [Tryz.params4] at hA hval
  obtain ⟨v0, vs0, d0, ds0, p0, q0, hargs, rfl, rfl, h0, r0⟩ := trodAll_cons hA
  obtain ⟨rfl, rfl, rfl⟩ := trodAll_nil r0
  obtain rfl : args = #[v0] := by cases args; simp_all
  obtain ⟨cs0, rfl, n0, x0, t0⟩ := arg_struct Tryz.underlying32 (hval 0 _ _ rfl rfl) h0
  obtain ⟨D0, R0, S0, _⟩ := rd_all 7 32 (by kernel_rfl) _ _ _ t0
  obtain ⟨z0, rfl, rz0⟩ := sh_FRun (d := 0) S0
  exact law_calls (l := [(true, [.v (.int .i64 z0.Job.Prog), .v (.int .i64 z0.Job.Src), .v (.int .i64 z0.Iter), .v (.bool z0.Done), .sl 3 1 (z0.Vals.map intK), .v (.int .i64 z0.Next.N), .sl 5 1 (z0.Next.Bits.map bytK), .v (.int .i64 z0.Farm.N), .sl 3 1 (z0.Farm.Ends.map intK), .sl 206 3 (z0.Farm.Shards.map (ShardD.k 167))])]) (vs := [_]) ⟨⟨cs0, rfl, R0⟩, trivial⟩ (by simp only [impA, impC, List.length_map, List.nil_append, List.cons_append, List.append_nil, Nat.zero_add, Nat.reduceAdd]; exact FnExactFIter_k z0 rz0)

theorem FnExactFIter_proved : Rows.FnExactFIterSaid :=
  OpenClaim.holds_of_wide 4 Tryz.f4 rfl rfl rfl rfl rfl rfl rfl ⟨rfl, rfl, rfl, rfl, rfl⟩ rfl rfl rfl rfl rfl (by kernel_rfl) Tryz.func4 (by kernel_rfl)
    (of_decide_eq_true (by kernel_rfl)) (by unfold Func.isWrapper; first | (rw [if_pos (by decide +kernel)]; kernel_rfl) | (rw [if_neg (by decide +kernel)]; exact ⟨rfl, rfl⟩))
    (fun os started H enc _ => law_lifted 4 Tryz.f4 Rows.fnExactFIterSpec ⟨rfl, fun H ds h => by match ds, h with | [_], _ => rfl⟩ rfl (by kernel_rfl) (by kernel_rfl) Tryz.func4 Rows.fnExactFIterRow.domain os started H enc
      (ChangeSpec.witness6 (enc := enc) (C := Tryz.checked) false ⟨#[], #[.agg #[.int .i64 0, .int .i64 0, .int .i64 0, .bool false, .slice none 0 0, .int .i64 0, .slice none 0 0, .int .i64 0, .slice none 0 0, .slice none 0 0]], []⟩ 8 (by kernel_rfl) (by kernel_rfl) (by kernel_rfl) (by kernel_rfl))
      (fun W b0 args ds ps hval hA => FnExactFIter_args W b0 args ds ps hval hA))
#print axioms FnExactFIter_proved

end Go.Proofs.YtcbnfkbnbdbfoaaGreat