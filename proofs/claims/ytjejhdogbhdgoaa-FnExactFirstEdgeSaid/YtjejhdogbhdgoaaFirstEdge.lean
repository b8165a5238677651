/-
  For every job, two vertices and degree the law FnExactFirstEdge returns true: the program's FirstEdge equals the reference's. No conditions.
-/
import Derived.Test.YtjejhdogbhdgoaaJob
namespace Go.Proofs.Ytjejhdogbhdgoaa
set_option linter.unusedSimpArgs false
set_option linter.unusedVariables false
open Go.RowKit Go.ChangeShapes Go.WideShapes Go.ChangeAt

theorem FnExactFirstEdge_walk (w : World) (p : Int) (_ : I64 p) (s : Int) (_ : I64 s) (f : Int) (_ : I64 f) (t : Int) (_ : I64 t) (d : Int) (_ : I64 d) :
    Calls Try.prog 6 #[.agg #[.int .i64 p, .int .i64 s], .int .i64 f, .int .i64 t, .int .i64 d] w fun r w' => r = .returned (.bool true) ∧ Below w.heap.size w w' := by
  have hne : (firstEdge p f t d != firstEdge p f t d) = false := by simp
  go_enter Try.func6, Try.ntmps6
  go_wp2_with fail
  refine (toJob_c _ _ _).mono ?_
  rintro _ w1 ⟨rfl, hb1⟩
  obtain ⟨hc1, hf1⟩ := bcell hb1
  have hz1 := hb1.size
  try simp only [World.size_alloc] at hz1
  have hz1x0 : w.heap.size < w1.heap.size := by omega
  go_wp2_with fail
  refine (specFirstEdge _ _ _ _ _ _).mono ?_
  rintro _ w2 ⟨rfl, hb2⟩
  obtain ⟨hc2, hf2⟩ := bcell hb2
  have hz2 := hb2.size
  try simp only [World.size_alloc] at hz2
  have hz2x0 : w.heap.size < w2.heap.size := by omega
  go_wp2_with fail
  refine (toJob_c _ _ _).mono ?_
  rintro _ w3 ⟨rfl, hb3⟩
  obtain ⟨hc3, hf3⟩ := bcell hb3
  have hz3 := hb3.size
  try simp only [World.size_alloc] at hz3
  have hz3x0 : w.heap.size < w3.heap.size := by omega
  go_wp2_with fail
  refine (implFirstEdge _ _ _ _ _ _).mono ?_
  rintro _ w4 ⟨rfl, hb4⟩
  obtain ⟨hc4, hf4⟩ := bcell hb4
  have hz4 := hb4.size
  try simp only [World.size_alloc] at hz4
  have hz4x0 : w.heap.size < w4.heap.size := by omega
  go_wp2
  go_ret
  exact ⟨rfl, (by repeat (first | exact Below.refl _ _ | assumption | refine Below.step ?_ (by assumption) | refine Below.drew ?_ | refine Below.alloc ?_ (by simp <;> omega) _ | refine Below.setCell ?_ (by simp <;> omega) _))⟩

theorem FnExactFirstEdge_args {H : Type} {enc : TypeId × Value → H} (W : World) (b0 : Nat) (args : Array Value) (ds : List (DataW H)) (ps : List MemPlace)
    (hval : ∀ (j : Nat) t v, Try.f6.params[j]? = some t → args[j]? = some v → Value.okWide Try.prog W .any b0 t v)
    (hA : DataW.TrodAll enc Try.prog W 0 (fun _ => true) true Try.f6.params.toList args.toList ds ps) :
    Calls Try.prog 6 args W fun e W' => e = .returned (.bool true) ∧ Below W.heap.size W W' := by
  rw [Try.params6] at hA hval
  obtain ⟨v0, vs0, d0, ds0, p0, q0, hargs, rfl, rfl, h0, r0⟩ := trodAll_cons hA
  obtain ⟨v1, vs1, d1, ds1, p1, q1, rfl, rfl, rfl, h1, r1⟩ := trodAll_cons r0
  obtain ⟨v2, vs2, d2, ds2, p2, q2, rfl, rfl, rfl, h2, r2⟩ := trodAll_cons r1
  obtain ⟨v3, vs3, d3, ds3, p3, q3, rfl, rfl, rfl, h3, r3⟩ := trodAll_cons r2
  obtain ⟨rfl, rfl, rfl⟩ := trodAll_nil r3
  obtain rfl : args = #[v0, v1, v2, v3] := by cases args; simp_all
  obtain ⟨cs0, rfl, n0, x0, t0⟩ := arg_struct Try.underlying31 (hval 0 _ _ rfl rfl) h0
  obtain ⟨hl0, m0, hf0⟩ := rd_struct Try.underlying31 t0
  rw [show Try.prog.cellsOf 31 = 2 from by kernel_rfl] at hl0
  obtain ⟨c0x0, c0x1, rfl⟩ := list2 hl0
  obtain ⟨y0x0, g0x0⟩ := hf0 0 _ rfl
  simp [show Try.prog.cellsOf 3 = 1 from by kernel_rfl] at g0x0
  obtain ⟨z0, e0, hz0⟩ := rd_int g0x0
  obtain ⟨y0x1, g0x1⟩ := hf0 1 _ rfl
  simp [show Try.prog.cellsOf 3 = 1 from by kernel_rfl] at g0x1
  obtain ⟨z1, e1, hz1⟩ := rd_int g0x1
  obtain ⟨z2, rfl, hz2⟩ := arg_int (hval 1 _ _ rfl rfl) h1
  obtain ⟨z3, rfl, hz3⟩ := arg_int (hval 2 _ _ rfl rfl) h2
  obtain ⟨z4, rfl, hz4⟩ := arg_int (hval 3 _ _ rfl rfl) h3
  simp only [List.cons.injEq, and_true] at e0 e1
  subst e0 e1
  exact FnExactFirstEdge_walk W z0 hz0 z1 hz1 z2 hz2 z3 hz3 z4 hz4

theorem FnExactFirstEdge_proved : Rows.FnExactFirstEdgeSaid :=
  OpenClaim.holds_of_wide 6 Try.f6 rfl rfl rfl rfl rfl rfl rfl ⟨rfl, rfl, rfl, rfl, rfl⟩ rfl rfl rfl rfl rfl (by kernel_rfl) Try.func6 (by kernel_rfl)
    (of_decide_eq_true (by kernel_rfl)) (by unfold Func.isWrapper; first | (rw [if_pos (by decide +kernel)]; kernel_rfl) | (rw [if_neg (by decide +kernel)]; exact ⟨rfl, rfl⟩))
    (fun os started H enc _ => law_lifted 6 Try.f6 Rows.fnExactFirstEdgeSpec ⟨rfl, fun H ds h => by match ds, h with | [_, _, _, _], _ => rfl⟩ rfl (by kernel_rfl) (by kernel_rfl) Try.func6 Rows.fnExactFirstEdgeRow.domain os started H enc
      (ChangeSpec.witness6 (enc := enc) (C := Try.checked) false ⟨#[], #[.agg #[.int .i64 0, .int .i64 0], .int .i64 0, .int .i64 0, .int .i64 0], []⟩ 8 (by kernel_rfl) (by kernel_rfl) (by kernel_rfl) (by kernel_rfl))
      (fun W b0 args ds ps hval hA => FnExactFirstEdge_args W b0 args ds ps hval hA))
#print axioms FnExactFirstEdge_proved

end Go.Proofs.Ytjejhdogbhdgoaa
