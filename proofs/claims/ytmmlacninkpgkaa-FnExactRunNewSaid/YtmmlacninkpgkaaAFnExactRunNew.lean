/-
  For every graph and job the law FnExactRunNew returns true: the program's RunNew equals the reference's, leaves its arguments alone and shares no memory with them. No conditions.
-/
import Derived.Test.YtmmlacninkpgkaaLV4
import Derived.Test.YtmmlacninkpgkaaSh2
import Derived.Test.YtmmlacninkpgkaaSh3
namespace Go.Proofs.Ytmmlacninkpgkaa
set_option linter.unusedSimpArgs false
set_option linter.unusedVariables false
set_option maxRecDepth 20000
open Go.RowKit Go.ChangeShapes Go.WideShapes Go.ChangeAt

theorem FnExactRunNew_args {H : Type} {enc : TypeId × Value → H} (W : World) (b0 : Nat) (args : Array Value) (ds : List (DataW H)) (ps : List MemPlace)
    (hval : ∀ (j : Nat) t v, Try.f14.params[j]? = some t → args[j]? = some v → Value.okWide Try.prog W .any b0 t v)
    (hA : DataW.TrodAll enc Try.prog W 0 (fun _ => true) true Try.f14.params.toList args.toList ds ps) :
    Calls Try.prog 14 args W fun e W' => e = .returned (.bool true) ∧ Below W.heap.size W W' := by
  rw [Try.params14] at hA hval
  obtain ⟨v0, vs0, d0, ds0, p0, q0, hargs, rfl, rfl, h0, r0⟩ := trodAll_cons hA
  obtain ⟨v1, vs1, d1, ds1, p1, q1, rfl, rfl, rfl, h1, r1⟩ := trodAll_cons r0
  obtain ⟨rfl, rfl, rfl⟩ := trodAll_nil r1
  obtain rfl : args = #[v0, v1] := by cases args; simp_all
  obtain ⟨cs0, rfl, n0, x0, t0⟩ := arg_struct Try.underlying92 (hval 0 _ _ rfl rfl) h0
  obtain ⟨D0, R0, S0, _⟩ := rd_all 4 92 (by kernel_rfl) _ _ _ t0
  obtain ⟨z0, rfl, rz0⟩ := sh_Graph (d := 0) S0
  obtain ⟨cs1, rfl, n1, x1, t1⟩ := arg_struct Try.underlying68 (hval 1 _ _ rfl rfl) h1
  obtain ⟨D1, R1, S1, _⟩ := rd_all 2 68 (by kernel_rfl) _ _ _ t1
  obtain ⟨z1, rfl, rz1⟩ := sh_Job (d := 0) S1
  exact law_calls (l := [(true, [.v (.int .i64 z0.N), .sl 224 3 (z0.Edges.map EdgeD.k)]), (true, [.v (.int .i64 z1.Prog), .v (.int .i64 z1.Src)])]) (vs := [_, _]) ⟨⟨cs0, rfl, R0⟩, ⟨cs1, rfl, R1⟩, trivial⟩ (by simp only [impA, impC, List.length_map, List.nil_append, List.cons_append, List.append_nil, Nat.zero_add, Nat.reduceAdd]; exact FnExactRunNew_k z0 z1 rz0 rz1)

theorem FnExactRunNew_proved : Rows.FnExactRunNewSaid :=
  OpenClaim.holds_of_wide 14 Try.f14 rfl rfl rfl rfl rfl rfl rfl ⟨rfl, rfl, rfl, rfl, rfl⟩ rfl rfl rfl rfl rfl (by kernel_rfl) Try.func14 (by kernel_rfl)
    (of_decide_eq_true (by kernel_rfl)) (by unfold Func.isWrapper; first | (rw [if_pos (by decide +kernel)]; kernel_rfl) | (rw [if_neg (by decide +kernel)]; exact ⟨rfl, rfl⟩))
    (fun os started H enc _ => law_lifted 14 Try.f14 Rows.fnExactRunNewSpec ⟨rfl, fun H ds h => by match ds, h with | [_, _], _ => rfl⟩ rfl (by kernel_rfl) (by kernel_rfl) Try.func14 Rows.fnExactRunNewRow.domain os started H enc
      (ChangeSpec.witness6 (enc := enc) (C := Try.checked) false ⟨#[], #[.agg #[.int .i64 0, .slice none 0 0], .agg #[.int .i64 0, .int .i64 0]], []⟩ 8 (by kernel_rfl) (by kernel_rfl) (by kernel_rfl) (by kernel_rfl))
      (fun W b0 args ds ps hval hA => FnExactRunNew_args W b0 args ds ps hval hA))
#print axioms FnExactRunNew_proved

end Go.Proofs.Ytmmlacninkpgkaa