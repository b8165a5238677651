/-
  For every job, vertex, value and views the law FnExactUpdate returns true: the program's Update equals the reference's, leaves its arguments alone and shares no memory with them. No conditions.
-/
import Derived.Test.YtmdajpgemcaefaaLV8
import Derived.Test.YtmdajpgemcaefaaSh2
import Derived.Test.YtmdajpgemcaefaaSh4
namespace Go.Proofs.Ytmdajpgemcaefaa
set_option linter.unusedSimpArgs false
set_option linter.unusedVariables false
set_option maxRecDepth 20000
open Go.RowKit Go.ChangeShapes Go.WideShapes Go.ChangeAt

theorem FnExactUpdate_args {H : Type} {enc : TypeId × Value → H} (W : World) (b0 : Nat) (args : Array Value) (ds : List (DataW H)) (ps : List MemPlace)
    (hval : ∀ (j : Nat) t v, Try.f12.params[j]? = some t → args[j]? = some v → Value.okWide Try.prog W .any b0 t v)
    (hA : DataW.TrodAll enc Try.prog W 0 (fun _ => true) true Try.f12.params.toList args.toList ds ps) :
    Calls Try.prog 12 args W fun e W' => e = .returned (.bool true) ∧ Below W.heap.size W W' := by
  rw [Try.params12] at hA hval
  obtain ⟨v0, vs0, d0, ds0, p0, q0, hargs, rfl, rfl, h0, r0⟩ := trodAll_cons hA
  obtain ⟨v1, vs1, d1, ds1, p1, q1, rfl, rfl, rfl, h1, r1⟩ := trodAll_cons r0
  obtain ⟨v2, vs2, d2, ds2, p2, q2, rfl, rfl, rfl, h2, r2⟩ := trodAll_cons r1
  obtain ⟨v3, vs3, d3, ds3, p3, q3, rfl, rfl, rfl, h3, r3⟩ := trodAll_cons r2
  obtain ⟨rfl, rfl, rfl⟩ := trodAll_nil r3
  obtain rfl : args = #[v0, v1, v2, v3] := by cases args; simp_all
  obtain ⟨cs0, rfl, n0, x0, t0⟩ := arg_struct Try.underlying37 (hval 0 _ _ rfl rfl) h0
  obtain ⟨D0, R0, S0, _⟩ := rd_all 2 37 (by kernel_rfl) _ _ _ t0
  obtain ⟨z0, rfl, rz0⟩ := sh_Job (d := 0) S0
  obtain ⟨n1, t1⟩ := h1
  obtain ⟨D1, R1, S1, _⟩ := rd_all 1 3 (by kernel_rfl) _ _ _ t1
  obtain ⟨z1, rfl, rz1⟩ := sh_int (show Sh Try.prog (0 + 1) 3 D1 from S1)
  obtain ⟨u1, e1, R1'⟩ := one_arg R1
  obtain ⟨w1, rfl, _⟩ := arg_int (hval 1 _ _ rfl rfl) ⟨n1, t1⟩
  obtain rfl : u1 = _ := (by simpa [Value.cells] using e1.symm)
  obtain ⟨n2, t2⟩ := h2
  obtain ⟨D2, R2, S2, _⟩ := rd_all 1 3 (by kernel_rfl) _ _ _ t2
  obtain ⟨z2, rfl, rz2⟩ := sh_int (show Sh Try.prog (0 + 1) 3 D2 from S2)
  obtain ⟨u2, e2, R2'⟩ := one_arg R2
  obtain ⟨w2, rfl, _⟩ := arg_int (hval 2 _ _ rfl rfl) ⟨n2, t2⟩
  obtain rfl : u2 = _ := (by simpa [Value.cells] using e2.symm)
  obtain ⟨n3, t3⟩ := h3
  obtain ⟨D3, R3, S3, _⟩ := rd_all 3 108 (by kernel_rfl) _ _ _ t3
  obtain ⟨esz3, rfl, lz3, az3⟩ := sh_slice (Try.underlying108) (show Sh Try.prog (0 + 3) 108 D3 from S3)
  obtain ⟨z3, rfl, qz3⟩ := list_of (k := ViewD.k) (R := ViewD.rng) fun el he => sh_View (az3 el he)
  have rz3 : (z3).length ≤ maxLen ∧ ∀ y ∈ z3, ViewD.rng y := ⟨by simpa using lz3, qz3⟩
  rw [show Try.prog.cellsOf 175 = 4 from by kernel_rfl] at R3
  obtain ⟨u3, e3, R3'⟩ := one_arg R3
  obtain rfl := arg_sl Try.underlying108 (hval 3 _ _ rfl rfl) e3
  exact law_calls (l := [(true, [.v (.int .i64 z0.Prog), .v (.int .i64 z0.Src)]), (false, [.v (.int .i64 z1)]), (false, [.v (.int .i64 z2)]), (false, [.sl 175 4 (z3.map ViewD.k)])]) (vs := [_, _, _, _]) ⟨⟨cs0, rfl, R0⟩, ⟨_, rfl, R1'⟩, ⟨_, rfl, R2'⟩, ⟨_, rfl, R3'⟩, trivial⟩ (by simp only [impA, impC, List.length_map, List.nil_append, List.cons_append, List.append_nil, Nat.zero_add, Nat.reduceAdd]; exact FnExactUpdate_k z0 z1 z2 z3 rz0 rz1 rz2 rz3)

theorem FnExactUpdate_proved : Rows.FnExactUpdateSaid :=
  OpenClaim.holds_of_wide 12 Try.f12 rfl rfl rfl rfl rfl rfl rfl ⟨rfl, rfl, rfl, rfl, rfl⟩ rfl rfl rfl rfl rfl (by kernel_rfl) Try.func12 (by kernel_rfl)
    (of_decide_eq_true (by kernel_rfl)) (by unfold Func.isWrapper; first | (rw [if_pos (by decide +kernel)]; kernel_rfl) | (rw [if_neg (by decide +kernel)]; exact ⟨rfl, rfl⟩))
    (fun os started H enc _ => law_lifted 12 Try.f12 Rows.fnExactUpdateSpec ⟨rfl, fun H ds h => by match ds, h with | [_, _, _, _], _ => rfl⟩ rfl (by kernel_rfl) (by kernel_rfl) Try.func12 Rows.fnExactUpdateRow.domain os started H enc
      (ChangeSpec.witness6 (enc := enc) (C := Try.checked) false ⟨#[], #[.agg #[.int .i64 0, .int .i64 0], .int .i64 0, .int .i64 0, .slice none 0 0], []⟩ 8 (by kernel_rfl) (by kernel_rfl) (by kernel_rfl) (by kernel_rfl))
      (fun W b0 args ds ps hval hA => FnExactUpdate_args W b0 args ds ps hval hA))
#print axioms FnExactUpdate_proved

end Go.Proofs.Ytmdajpgemcaefaa