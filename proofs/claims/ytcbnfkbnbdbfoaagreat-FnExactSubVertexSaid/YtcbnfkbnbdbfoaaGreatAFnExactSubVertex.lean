/-
  For all arguments the law FnExactSubVertex returns true. No conditions.
-/
import Derived.Test.YtcbnfkbnbdbfoaaGreatLV30
import Derived.Test.YtcbnfkbnbdbfoaaGreatSh6
import Derived.Test.YtcbnfkbnbdbfoaaGreatSh1
namespace Go.Proofs.YtcbnfkbnbdbfoaaGreat
set_option linter.unusedSimpArgs false
set_option linter.unusedVariables false
set_option linter.unusedSimpArgs false
set_option linter.unusedVariables false
set_option linter.defProp false
set_option maxRecDepth 20000
open Go.RowKit Go.ChangeShapes Go.WideShapes Go.ChangeAt

theorem FnExactSubVertex_args {H : Type} {enc : TypeId × Value → H} (W : World) (b0 : Nat) (args : Array Value) (ds : List (DataW H)) (ps : List MemPlace)
    (hval : ∀ (j : Nat) t v, Tryz.f3.params[j]? = some t → args[j]? = some v → Value.okWide Tryz.prog W .any b0 t v)
    (hA : DataW.TrodAll enc Tryz.prog W 0 (fun _ => true) true Tryz.f3.params.toList args.toList ds ps) :
    Calls Tryz.prog 3 args W fun e W' => e = .returned (.bool true) ∧ Below W.heap.size W W' := by
  rw [Tryz.params3] at hA hval
  obtain ⟨v0, vs0, d0, ds0, p0, q0, hargs, rfl, rfl, h0, r0⟩ := trodAll_cons hA
  obtain ⟨v1, vs1, d1, ds1, p1, q1, rfl, rfl, rfl, h1, r1⟩ := trodAll_cons r0
  obtain ⟨v2, vs2, d2, ds2, p2, q2, rfl, rfl, rfl, h2, r2⟩ := trodAll_cons r1
  obtain ⟨v3, vs3, d3, ds3, p3, q3, rfl, rfl, rfl, h3, r3⟩ := trodAll_cons r2
  obtain ⟨rfl, rfl, rfl⟩ := trodAll_nil r3
  obtain rfl : args = #[v0, v1, v2, v3] := by cases args; simp_all
  obtain ⟨cs0, rfl, n0, x0, t0⟩ := arg_struct Tryz.underlying32 (hval 0 _ _ rfl rfl) h0
  obtain ⟨D0, R0, S0, _⟩ := rd_all 7 32 (by kernel_rfl) _ _ _ t0
  obtain ⟨z0, rfl, rz0⟩ := sh_FRun (d := 0) S0
  obtain ⟨cs1, rfl, n1, x1, t1⟩ := arg_struct Tryz.underlying35 (hval 1 _ _ rfl rfl) h1
  obtain ⟨D1, R1, S1, _⟩ := rd_all 5 35 (by kernel_rfl) _ _ _ t1
  obtain ⟨z1, rfl, rz1⟩ := sh_Sub (d := 0) S1
  obtain ⟨cs2, rfl, n2, x2, t2⟩ := arg_struct Tryz.underlying27 (hval 2 _ _ rfl rfl) h2
  obtain ⟨D2, R2, S2, _⟩ := rd_all 3 27 (by kernel_rfl) _ _ _ t2
  obtain ⟨z2, rfl, rz2⟩ := sh_Set (d := 0) S2
  obtain ⟨n3, t3⟩ := h3
  obtain ⟨D3, R3, S3, _⟩ := rd_all 1 3 (by kernel_rfl) _ _ _ t3
  obtain ⟨z3, rfl, rz3⟩ := sh_int (show Sh Tryz.prog (0 + 1) 3 D3 from S3)
  obtain ⟨u3, e3, R3'⟩ := one_arg R3
  obtain ⟨w3, rfl, _⟩ := arg_int (hval 3 _ _ rfl rfl) ⟨n3, t3⟩
  obtain rfl : u3 = _ := (by simpa [Value.cells] using e3.symm)
  exact law_calls (l := [(true, [.v (.int .i64 z0.Job.Prog), .v (.int .i64 z0.Job.Src), .v (.int .i64 z0.Iter), .v (.bool z0.Done), .sl 3 1 (z0.Vals.map intK), .v (.int .i64 z0.Next.N), .sl 5 1 (z0.Next.Bits.map bytK), .v (.int .i64 z0.Farm.N), .sl 3 1 (z0.Farm.Ends.map intK), .sl 206 3 (z0.Farm.Shards.map (ShardD.k 167))]), (true, [.v (.int .i64 z1.P), .v (.int .i64 z1.Lo), .v (.int .i64 z1.Hi), .sl 169 7 (z1.Locs.map LocD.k), .v (.int .i64 z1.Reads)]), (true, [.v (.int .i64 z2.N), .sl 5 1 (z2.Bits.map bytK)]), (false, [.v (.int .i64 z3)])]) (vs := [_, _, _, _]) ⟨⟨cs0, rfl, R0⟩, ⟨cs1, rfl, R1⟩, ⟨cs2, rfl, R2⟩, ⟨_, rfl, R3'⟩, trivial⟩ (by simp only [impA, impC, List.length_map, List.nil_append, List.cons_append, List.append_nil, Nat.zero_add, Nat.reduceAdd]; exact FnExactSubVertex_k z0 z1 z2 z3 rz0 rz1 rz2 rz3)

theorem FnExactSubVertex_proved : Rows.FnExactSubVertexSaid :=
  OpenClaim.holds_of_wide 3 Tryz.f3 rfl rfl rfl rfl rfl rfl rfl ⟨rfl, rfl, rfl, rfl, rfl⟩ rfl rfl rfl rfl rfl (by kernel_rfl) Tryz.func3 (by kernel_rfl)
    (of_decide_eq_true (by kernel_rfl)) (by unfold Func.isWrapper; first | (rw [if_pos (by decide +kernel)]; kernel_rfl) | (rw [if_neg (by decide +kernel)]; exact ⟨rfl, rfl⟩))
    (fun os started H enc _ => law_lifted 3 Tryz.f3 Rows.fnExactSubVertexSpec ⟨rfl, fun H ds h => by match ds, h with | [_, _, _, _], _ => rfl⟩ rfl (by kernel_rfl) (by kernel_rfl) Tryz.func3 Rows.fnExactSubVertexRow.domain os started H enc
      (ChangeSpec.witness6 (enc := enc) (C := Tryz.checked) false ⟨#[], #[.agg #[.int .i64 0, .int .i64 0, .int .i64 0, .bool false, .slice none 0 0, .int .i64 0, .slice none 0 0, .int .i64 0, .slice none 0 0, .slice none 0 0], .agg #[.int .i64 0, .int .i64 0, .int .i64 0, .slice none 0 0, .int .i64 0], .agg #[.int .i64 0, .slice none 0 0], .int .i64 0], []⟩ 8 (by kernel_rfl) (by kernel_rfl) (by kernel_rfl) (by kernel_rfl))
      (fun W b0 args ds ps hval hA => FnExactSubVertex_args W b0 args ds ps hval hA))
#print axioms FnExactSubVertex_proved

end Go.Proofs.YtcbnfkbnbdbfoaaGreat