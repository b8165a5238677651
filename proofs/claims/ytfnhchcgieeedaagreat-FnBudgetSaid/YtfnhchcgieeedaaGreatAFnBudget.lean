/-
  For all arguments the law FnBudget returns true. No conditions.
-/
import Derived.Test.YtfnhchcgieeedaaGreatLV41
import Derived.Test.YtfnhchcgieeedaaGreatZz1
namespace Go.Proofs.YtfnhchcgieeedaaGreat
set_option linter.unusedSimpArgs false
set_option linter.unusedVariables false
set_option linter.unusedSimpArgs false
set_option linter.unusedVariables false
set_option linter.defProp false
set_option maxRecDepth 20000
open Go.RowKit Go.ChangeShapes Go.WideShapes Go.ChangeAt

theorem FnBudget_args {H : Type} {enc : TypeId × Value → H} (W : World) (b0 : Nat) (args : Array Value) (ds : List (DataW H)) (ps : List MemPlace)
    (hval : ∀ (j : Nat) t v, Tryz.f3.params[j]? = some t → args[j]? = some v → Value.okWide Tryz.prog W .any b0 t v)
    (hA : DataW.TrodAll enc Tryz.prog W 0 (fun _ => true) true Tryz.f3.params.toList args.toList ds ps) :
    Calls Tryz.prog 3 args W fun e W' => e = .returned (.bool true) ∧ Below W.heap.size W W' := by
  rw [Tryz.params3] at hA hval
  obtain ⟨v0, vs0, d0, ds0, p0, q0, hargs, rfl, rfl, h0, r0⟩ := trodAll_cons hA
  obtain ⟨rfl, rfl, rfl⟩ := trodAll_nil r0
  obtain rfl : args = #[v0] := by cases args; simp_all
  obtain ⟨n0, t0⟩ := h0
  obtain ⟨D0, R0, S0, _⟩ := rd_all 2 22 (by kernel_rfl) _ _ _ t0
  obtain ⟨esz0, rfl, lz0, az0⟩ := sh_slice (Tryz.underlying22) (show Sh Tryz.prog (0 + 2) 22 D0 from S0)
  obtain ⟨z0, rfl, qz0⟩ := list_of (k := bytK) (R := (fun _ => True)) fun el he => sh_bytK (az0 el he)
  have rz0 : (z0).length ≤ maxLen ∧ ∀ y ∈ z0, (fun _ => True) y := ⟨by simpa using lz0, qz0⟩
  rw [show Tryz.prog.cellsOf 5 = 1 from by kernel_rfl] at R0
  obtain ⟨u0, e0, R0'⟩ := one_arg R0
  obtain rfl := arg_sl Tryz.underlying22 (hval 0 _ _ rfl rfl) e0
  exact law_calls (l := [(false, [.sl 5 1 (z0.map bytK)])]) (vs := [_]) ⟨⟨_, rfl, R0'⟩, trivial⟩ (by simp only [impA, impC, List.length_map, List.nil_append, List.cons_append, List.append_nil, Nat.zero_add, Nat.reduceAdd]; exact FnBudget_k z0 rz0)

theorem FnBudget_proved : Rows.FnBudgetSaid :=
  OpenClaim.holds_of_wide 3 Tryz.f3 rfl rfl rfl rfl rfl rfl rfl ⟨rfl, rfl, rfl, rfl, rfl⟩ rfl rfl rfl rfl rfl (by kernel_rfl) Tryz.func3 (by kernel_rfl)
    (of_decide_eq_true (by kernel_rfl)) (by unfold Func.isWrapper; first | (rw [if_pos (by decide +kernel)]; kernel_rfl) | (rw [if_neg (by decide +kernel)]; exact ⟨rfl, rfl⟩))
    (fun os started H enc _ => law_lifted 3 Tryz.f3 Rows.fnBudgetSpec ⟨rfl, fun H ds h => by match ds, h with | [_], _ => rfl⟩ rfl (by kernel_rfl) (by kernel_rfl) Tryz.func3 Rows.fnBudgetRow.domain os started H enc
      (ChangeSpec.witness6 (enc := enc) (C := Tryz.checked) false ⟨#[], #[.slice none 0 0], []⟩ 8 (by kernel_rfl) (by kernel_rfl) (by kernel_rfl) (by kernel_rfl))
      (fun W b0 args ds ps hval hA => FnBudget_args W b0 args ds ps hval hA))
#print axioms FnBudget_proved

end Go.Proofs.YtfnhchcgieeedaaGreat
