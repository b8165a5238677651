/-
  For every graph, bound and batch size the law FnExactFarmOf returns true: the program's FarmOf equals the reference's, leaves its argument alone and shares no memory with it. No conditions.
-/
import Derived.Test.YtfnhchcgieeedaaLV40
import Derived.Test.YtfnhchcgieeedaaSh3
namespace Go.Proofs.Ytfnhchcgieeedaa
set_option linter.unusedSimpArgs false
set_option linter.unusedVariables false
set_option linter.unusedSimpArgs false
set_option linter.unusedVariables false
set_option linter.defProp false
set_option maxRecDepth 20000
open Go.RowKit Go.ChangeShapes Go.WideShapes Go.ChangeAt

theorem FnExactFarmOf_args {H : Type} {enc : TypeId × Value → H} (W : World) (b0 : Nat) (args : Array Value) (ds : List (DataW H)) (ps : List MemPlace)
    (hval : ∀ (j : Nat) t v, Try.f3.params[j]? = some t → args[j]? = some v → Value.okWide Try.prog W .any b0 t v)
    (hA : DataW.TrodAll enc Try.prog W 0 (fun _ => true) true Try.f3.params.toList args.toList ds ps) :
    Calls Try.prog 3 args W fun e W' => e = .returned (.bool true) ∧ Below W.heap.size W W' := by
  rw [Try.params3] at hA hval
  obtain ⟨v0, vs0, d0, ds0, p0, q0, hargs, rfl, rfl, h0, r0⟩ := trodAll_cons hA
  obtain ⟨v1, vs1, d1, ds1, p1, q1, rfl, rfl, rfl, h1, r1⟩ := trodAll_cons r0
  obtain ⟨v2, vs2, d2, ds2, p2, q2, rfl, rfl, rfl, h2, r2⟩ := trodAll_cons r1
  obtain ⟨rfl, rfl, rfl⟩ := trodAll_nil r2
  obtain rfl : args = #[v0, v1, v2] := by cases args; simp_all
  obtain ⟨cs0, rfl, n0, x0, t0⟩ := arg_struct Try.underlying24 (hval 0 _ _ rfl rfl) h0
  obtain ⟨D0, R0, S0, _⟩ := rd_all 4 24 (by kernel_rfl) _ _ _ t0
  obtain ⟨z0, rfl, rz0⟩ := sh_Graph (d := 0) S0
  obtain ⟨n1, t1⟩ := h1
  obtain ⟨D1, R1, S1, _⟩ := rd_all 1 3 (by kernel_rfl) _ _ _ t1
  obtain ⟨z1, rfl, rz1⟩ := sh_int (show Sh Try.prog (0 + 1) 3 D1 from S1)
  obtain ⟨u1, e1, R1'⟩ := one_arg R1
  obtain ⟨w1, rfl, _⟩ := arg_int (hval 1 _ _ rfl rfl) ⟨n1, t1⟩
  obtain rfl : u1 = _ := (by simpa [Value.cells] using e1.symm)
  obtain ⟨n2, t2⟩ := h2
  obtain ⟨D2, R2, S2, _⟩ := rd_all 1 3 (by kernel_rfl) _ _ _ t2
  obtain ⟨z2, rfl, rz2⟩ := sh_int (show Sh Try.prog (0 + 1) 3 D2 from S2)
  obtain ⟨u2, e2, R2'⟩ := one_arg R2
  obtain ⟨w2, rfl, _⟩ := arg_int (hval 2 _ _ rfl rfl) ⟨n2, t2⟩
  obtain rfl : u2 = _ := (by simpa [Value.cells] using e2.symm)
  exact law_calls (l := [(true, [.v (.int .i64 z0.N), .sl 133 3 (z0.Edges.map EdgeD.k)]), (false, [.v (.int .i64 z1)]), (false, [.v (.int .i64 z2)])]) (vs := [_, _, _]) ⟨⟨cs0, rfl, R0⟩, ⟨_, rfl, R1'⟩, ⟨_, rfl, R2'⟩, trivial⟩ (by simp only [impA, impC, List.length_map, List.nil_append, List.cons_append, List.append_nil, Nat.zero_add, Nat.reduceAdd]; exact FnExactFarmOf_k z0 z1 z2 rz0 rz1 rz2)

theorem FnExactFarmOf_proved : Rows.FnExactFarmOfSaid :=
  OpenClaim.holds_of_wide 3 Try.f3 rfl rfl rfl rfl rfl rfl rfl ⟨rfl, rfl, rfl, rfl, rfl⟩ rfl rfl rfl rfl rfl (by kernel_rfl) Try.func3 (by kernel_rfl)
    (of_decide_eq_true (by kernel_rfl)) (by unfold Func.isWrapper; first | (rw [if_pos (by decide +kernel)]; kernel_rfl) | (rw [if_neg (by decide +kernel)]; exact ⟨rfl, rfl⟩))
    (fun os started H enc _ => law_lifted 3 Try.f3 Rows.fnExactFarmOfSpec ⟨rfl, fun H ds h => by match ds, h with | [_, _, _], _ => rfl⟩ rfl (by kernel_rfl) (by kernel_rfl) Try.func3 Rows.fnExactFarmOfRow.domain os started H enc
      (ChangeSpec.witness6 (enc := enc) (C := Try.checked) false ⟨#[], #[.agg #[.int .i64 0, .slice none 0 0], .int .i64 0, .int .i64 0], []⟩ 8 (by kernel_rfl) (by kernel_rfl) (by kernel_rfl) (by kernel_rfl))
      (fun W b0 args ds ps hval hA => FnExactFarmOf_args W b0 args ds ps hval hA))
#print axioms FnExactFarmOf_proved

end Go.Proofs.Ytfnhchcgieeedaa