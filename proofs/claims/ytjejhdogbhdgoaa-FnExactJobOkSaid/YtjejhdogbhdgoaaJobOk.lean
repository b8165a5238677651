/-
  For every number and job the law FnExactJobOk returns true: the program's JobOk equals the reference's. No conditions.
-/
import Derived.Test.YtjejhdogbhdgoaaJob
namespace Go.Proofs.Ytjejhdogbhdgoaa
set_option linter.unusedSimpArgs false
set_option linter.unusedVariables false
open Go.RowKit Go.ChangeShapes Go.WideShapes Go.ChangeAt

theorem FnExactJobOk_walk (w : World) (n : Int) (_ : I64 n) (p : Int) (_ : I64 p) (s : Int) (_ : I64 s) :
    Calls Try.prog 5 #[.int .i64 n, .agg #[.int .i64 p, .int .i64 s]] w fun r w' => r = .returned (.bool true) ∧ Below w.heap.size w w' := by
  have hne : (jobOk n p s != jobOk n p s) = false := by simp
  go_enter Try.func5, Try.ntmps5
  go_wp2_with fail
  refine (toJob_c _ _ _).mono ?_
  rintro _ w1 ⟨rfl, hb1⟩
  obtain ⟨hc1, hf1⟩ := bcell hb1
  have hz1 := hb1.size
  try simp only [World.size_alloc] at hz1
  have hz1x0 : w.heap.size < w1.heap.size := by omega
  go_wp2_with fail
  refine (specJobOk _ _ _ _).mono ?_
  rintro _ w2 ⟨rfl, hb2⟩
  obtain ⟨hc2, hf2⟩ := bcell hb2
  have hz2 := hb2.size
  try simp only [World.size_alloc] at hz2
  have hz2x0 : w.heap.size < w2.heap.size := by omega
  go_wp2_with fail
  refine (toJob_c _ _ _).mono ?_
  rintro _ w3 ⟨rfl, hb3⟩
  obtain ⟨hc3, hf3⟩ := bcell hb3
  have hz3 := hb3.size
  try simp only [World.size_alloc] at hz3
  have hz3x0 : w.heap.size < w3.heap.size := by omega
  go_wp2_with fail
  refine (implJobOk _ _ _ _).mono ?_
  rintro _ w4 ⟨rfl, hb4⟩
  obtain ⟨hc4, hf4⟩ := bcell hb4
  have hz4 := hb4.size
  try simp only [World.size_alloc] at hz4
  have hz4x0 : w.heap.size < w4.heap.size := by omega
  go_wp2
  go_ret
  exact ⟨rfl, (by repeat (first | exact Below.refl _ _ | assumption | refine Below.step ?_ (by assumption) | refine Below.drew ?_ | refine Below.alloc ?_ (by simp <;> omega) _ | refine Below.setCell ?_ (by simp <;> omega) _))⟩

theorem FnExactJobOk_args {H : Type} {enc : TypeId × Value → H} (W : World) (b0 : Nat) (args : Array Value) (ds : List (DataW H)) (ps : List MemPlace)
    (hval : ∀ (j : Nat) t v, Try.f5.params[j]? = some t → args[j]? = some v → Value.okWide Try.prog W .any b0 t v)
    (hA : DataW.TrodAll enc Try.prog W 0 (fun _ => true) true Try.f5.params.toList args.toList ds ps) :
    Calls Try.prog 5 args W fun e W' => e = .returned (.bool true) ∧ Below W.heap.size W W' := by
  rw [Try.params5] at hA hval
  obtain ⟨v0, vs0, d0, ds0, p0, q0, hargs, rfl, rfl, h0, r0⟩ := trodAll_cons hA
  obtain ⟨v1, vs1, d1, ds1, p1, q1, rfl, rfl, rfl, h1, r1⟩ := trodAll_cons r0
  obtain ⟨rfl, rfl, rfl⟩ := trodAll_nil r1
  obtain rfl : args = #[v0, v1] := by cases args; simp_all
  obtain ⟨z0, rfl, hz0⟩ := arg_int (hval 0 _ _ rfl rfl) h0
  obtain ⟨cs1, rfl, n1, x1, t1⟩ := arg_struct Try.underlying31 (hval 1 _ _ rfl rfl) h1
  obtain ⟨hl0, m0, hf0⟩ := rd_struct Try.underlying31 t1
  rw [show Try.prog.cellsOf 31 = 2 from by kernel_rfl] at hl0
  obtain ⟨c0x0, c0x1, rfl⟩ := list2 hl0
  obtain ⟨y0x0, g0x0⟩ := hf0 0 _ rfl
  simp [show Try.prog.cellsOf 3 = 1 from by kernel_rfl] at g0x0
  obtain ⟨z1, e1, hz1⟩ := rd_int g0x0
  obtain ⟨y0x1, g0x1⟩ := hf0 1 _ rfl
  simp [show Try.prog.cellsOf 3 = 1 from by kernel_rfl] at g0x1
  obtain ⟨z2, e2, hz2⟩ := rd_int g0x1
  simp only [List.cons.injEq, and_true] at e1 e2
  subst e1 e2
  exact FnExactJobOk_walk W z0 hz0 z1 hz1 z2 hz2

theorem FnExactJobOk_proved : Rows.FnExactJobOkSaid :=
  OpenClaim.holds_of_wide 5 Try.f5 rfl rfl rfl rfl rfl rfl rfl ⟨rfl, rfl, rfl, rfl, rfl⟩ rfl rfl rfl rfl rfl (by kernel_rfl) Try.func5 (by kernel_rfl)
    (of_decide_eq_true (by kernel_rfl)) (by unfold Func.isWrapper; first | (rw [if_pos (by decide +kernel)]; kernel_rfl) | (rw [if_neg (by decide +kernel)]; exact ⟨rfl, rfl⟩))
    (fun os started H enc _ => law_lifted 5 Try.f5 Rows.fnExactJobOkSpec ⟨rfl, fun H ds h => by match ds, h with | [_, _], _ => rfl⟩ rfl (by kernel_rfl) (by kernel_rfl) Try.func5 Rows.fnExactJobOkRow.domain os started H enc
      (ChangeSpec.witness6 (enc := enc) (C := Try.checked) false ⟨#[], #[.int .i64 0, .agg #[.int .i64 0, .int .i64 0]], []⟩ 8 (by kernel_rfl) (by kernel_rfl) (by kernel_rfl) (by kernel_rfl))
      (fun W b0 args ds ps hval hA => FnExactJobOk_args W b0 args ds ps hval hA))
#print axioms FnExactJobOk_proved

end Go.Proofs.Ytjejhdogbhdgoaa
