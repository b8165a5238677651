/-
  For all arguments the law FnExactFAll returns true. No conditions.
-/
import Derived.Test.YtcbnfkbnbdbfoaaGreatLV32
import Derived.Test.YtcbnfkbnbdbfoaaGreatSh6
namespace Go.Proofs.YtcbnfkbnbdbfoaaGreat
set_option linter.unusedSimpArgs false
set_option linter.unusedVariables false
set_option linter.defProp false
set_option maxRecDepth 20000
open Go.RowKit Go.ChangeShapes Go.WideShapes Go.ChangeAt
theorem FnExactFAll_args {H : Type} {enc : TypeId × Value → H} (W : World) (b0 : Nat) (args : Array Value) (ds : List (DataW H)) (ps : List MemPlace)
    (hval : ∀ (j : Nat) t v, Tryz.f5.params[j]? = some t → args[j]? = some v → Value.okWide Tryz.prog W .any b0 t v)
    (hA : DataW.TrodAll enc Tryz.prog W 0 (fun _ => true) true Tryz.f5.params.toList args.toList ds ps) :
    Calls Tryz.prog 5 args W fun e W' => e = .returned (.bool true) ∧ Below W.heap.size W W' := by
  rw [Tryz.params5] at hA hval
  obtain ⟨v0, vs0, d0, ds0, p0, q0, hargs, rfl, rfl, h0, r0⟩ := trodAll_cons hA
  obtain ⟨v1, vs1, d1, ds1, p1, q1, rfl, rfl, rfl, h1, r1⟩ := trodAll_cons r0
  obtain ⟨rfl, rfl, rfl⟩ := trodAll_nil r1
  obtain rfl : args = #[v0, v1] := by cases args; simp_all
  obtain ⟨cs0, rfl, n0, x0, t0⟩ := arg_struct Tryz.underlying32 (hval 0 _ _ rfl rfl) h0
  obtain ⟨D0, R0, S0, _⟩ := rd_all 7 32 (by kernel_rfl) _ _ _ t0
  obtain ⟨z0, rfl, rz0⟩ := sh_FRun (d := 0) S0
  obtain ⟨n1, t1⟩ := h1
  obtain ⟨D1, R1, S1, _⟩ := rd_all 1 3 (by kernel_rfl) _ _ _ t1
  obtain ⟨z1, rfl, rz1⟩ := sh_int (show Sh Tryz.prog (0 + 1) 3 D1 from S1)
  obtain ⟨u1, e1, R1'⟩ := one_arg R1
  obtain ⟨w1, rfl, _⟩ := arg_int (hval 1 _ _ rfl rfl) ⟨n1, t1⟩
  obtain rfl : u1 = _ := (by simpa [Value.cells] using e1.symm)
  exact law_calls (l := [(true, [.v (.int .i64 z0.Job.Prog), .v (.int .i64 z0.Job.Src), .v (.int .i64 z0.Iter), .v (.bool z0.Done), .sl 3 1 (z0.Vals.map intK), .v (.int .i64 z0.Next.N), .sl 5 1 (z0.Next.Bits.map bytK), .v (.int .i64 z0.Farm.N), .sl 3 1 (z0.Farm.Ends.map intK), .sl 206 3 (z0.Farm.Shards.map (ShardD.k 167))]), (false, [.v (.int .i64 z1)])]) (vs := [_, _]) ⟨⟨cs0, rfl, R0⟩, ⟨_, rfl, R1'⟩, trivial⟩ (by simp only [impA, impC, List.length_map, List.nil_append, List.cons_append, List.append_nil, Nat.zero_add, Nat.reduceAdd]; exact FnExactFAll_k z0 z1 rz0 rz1)
theorem FnExactFAll_proved : Rows.FnExactFAllSaid :=
  OpenClaim.holds_of_wide 5 Tryz.f5 rfl rfl rfl rfl rfl rfl rfl ⟨rfl, rfl, rfl, rfl, rfl⟩ rfl rfl rfl rfl rfl (by kernel_rfl) Tryz.func5 (by kernel_rfl)
    (of_decide_eq_true (by kernel_rfl)) (by unfold Func.isWrapper; first | (rw [if_pos (by decide +kernel)]; kernel_rfl) | (rw [if_neg (by decide +kernel)]; exact ⟨rfl, rfl⟩))
    (fun os started H enc _ => law_lifted 5 Tryz.f5 Rows.fnExactFAllSpec ⟨rfl, fun H ds h => by match ds, h with | [_, _], _ => rfl⟩ rfl (by kernel_rfl) (by kernel_rfl) Tryz.func5 Rows.fnExactFAllRow.domain os started H enc
      (ChangeSpec.witness6 (enc := enc) (C := Tryz.checked) false ⟨#[], #[.agg #[.int .i64 0, .int .i64 0, .int .i64 0, .bool false, .slice none 0 0, .int .i64 0, .slice none 0 0, .int .i64 0, .slice none 0 0, .slice none 0 0], .int .i64 0], []⟩ 8 (by kernel_rfl) (by kernel_rfl) (by kernel_rfl) (by kernel_rfl))
      (fun W b0 args ds ps hval hA => FnExactFAll_args W b0 args ds ps hval hA))
#print axioms FnExactFAll_proved
end Go.Proofs.YtcbnfkbnbdbfoaaGreat