/-
  For every commit the law FnExactCommitOk returns true: the program's CommitOk equals the reference's. No conditions.
-/
import Derived.Test.YtjejhdogbhdgoaaFrame
namespace Go.Proofs.Ytjejhdogbhdgoaa
open Go.RowKit Go.ChangeShapes Go.WideShapes Go.ChangeAt

def commitOk (e g s : Int) (b : Bool) (v : Int) : Bool :=
  decide (1 ≤ e ∧ e ≤ 1000000 ∧ 1 ≤ g ∧ g ≤ e ∧ 0 ≤ s ∧ s ≤ 4294967295 ∧ 0 ≤ v ∧ v ≤ 4294967295 ∧ (b = true ∨ v = 0))

set_option maxHeartbeats 1000000 in
theorem implCommitOk (e g s v : Int) (b : Bool) (w : World) :
    Calls Try.prog 19 #[.agg #[.int .i64 e, .int .i64 g, .int .i64 s, .bool b, .int .i64 v]] w fun r w' => r = .returned (.bool (commitOk e g s b v)) ∧ Below w.heap.size w w' := by
  go_enter Try.func19, Try.ntmps19
  go_wp2
  all_goals go_ret
  all_goals exact ⟨ret_bool (Bool.eq_iff_iff.2 (by cases b <;> simp_all [commitOk] <;> omega)), (Below.refl _ _).alloc (Nat.le_refl _) _⟩

set_option maxHeartbeats 1000000 in
theorem specCommitOk (e g s v : Int) (b : Bool) (w : World) :
    Calls Try.prog 17 #[.agg #[.int .i64 e, .int .i64 g, .int .i64 s, .bool b, .int .i64 v]] w fun r w' => r = .returned (.bool (commitOk e g s b v)) ∧ Below w.heap.size w w' := by
  go_enter Try.func17, Try.ntmps17
  go_wp2
  all_goals go_ret
  all_goals exact ⟨ret_bool (Bool.eq_iff_iff.2 (by cases b <;> simp_all [commitOk] <;> omega)), (Below.refl _ _).alloc (Nat.le_refl _) _⟩

set_option maxHeartbeats 1000000 in
theorem toCommit_c (e g s v : Int) (b : Bool) (w : World) :
    Calls Try.prog 18 #[.agg #[.int .i64 e, .int .i64 g, .int .i64 s, .bool b, .int .i64 v]] w fun r w' => r = .returned (.agg #[.int .i64 e, .int .i64 g, .int .i64 s, .bool b, .int .i64 v]) ∧ Below w.heap.size w w' := by
  go_enter Try.func18, Try.ntmps18
  go_wp2
  refine bodyPost_ret (v := .agg #[.int .i64 e, .int .i64 g, .int .i64 s, .bool b, .int .i64 v]) (by simp [results, Try.results18, go_sem]) rfl ⟨rfl, ?_⟩
  exact (by repeat (first | exact Below.refl _ _ | assumption | refine Below.step ?_ (by assumption) | refine Below.drew ?_ | refine Below.alloc ?_ (by simp <;> omega) _ | refine Below.setCell ?_ (by simp <;> omega) _))

set_option maxHeartbeats 1000000 in
theorem FnExactCommitOk_walk (e g s v : Int) (b : Bool) (w : World) :
    Calls Try.prog 4 #[.agg #[.int .i64 e, .int .i64 g, .int .i64 s, .bool b, .int .i64 v]] w fun r w' => r = .returned (.bool true) ∧ Below w.heap.size w w' := by
  have hne : (commitOk e g s b v != commitOk e g s b v) = false := by simp
  go_enter Try.func4, Try.ntmps4
  go_wp2_with fail
  refine (toCommit_c _ _ _ _ _ _).mono ?_
  rintro _ w1 ⟨rfl, hb1⟩
  obtain ⟨hc1, hf1⟩ := bcell hb1
  have hz1 := hb1.size
  try simp only [World.size_alloc] at hz1
  have hz1_0 : w.heap.size < w1.heap.size := by omega
  go_wp2_with fail
  refine (specCommitOk _ _ _ _ _ _).mono ?_
  rintro _ w2 ⟨rfl, hb2⟩
  obtain ⟨hc2, hf2⟩ := bcell hb2
  have hz2 := hb2.size
  try simp only [World.size_alloc] at hz2
  have hz2_0 : w.heap.size < w2.heap.size := by omega
  go_wp2_with fail
  refine (toCommit_c _ _ _ _ _ _).mono ?_
  rintro _ w3 ⟨rfl, hb3⟩
  obtain ⟨hc3, hf3⟩ := bcell hb3
  have hz3 := hb3.size
  try simp only [World.size_alloc] at hz3
  have hz3_0 : w.heap.size < w3.heap.size := by omega
  go_wp2_with fail
  refine (implCommitOk _ _ _ _ _ _).mono ?_
  rintro _ w4 ⟨rfl, hb4⟩
  obtain ⟨hc4, hf4⟩ := bcell hb4
  have hz4 := hb4.size
  try simp only [World.size_alloc] at hz4
  have hz4_0 : w.heap.size < w4.heap.size := by omega
  go_wp2
  go_ret
  exact ⟨rfl, (by repeat (first | exact Below.refl _ _ | assumption | refine Below.step ?_ (by assumption) | refine Below.drew ?_ | refine Below.alloc ?_ (by simp <;> omega) _ | refine Below.setCell ?_ (by simp <;> omega) _))⟩

theorem FnExactCommitOk_args {H : Type} {enc : TypeId × Value → H} (W : World) (b0 : Nat) (args : Array Value) (ds : List (DataW H)) (ps : List MemPlace)
    (hval : ∀ (j : Nat) t v, Try.f4.params[j]? = some t → args[j]? = some v → Value.okWide Try.prog W .any b0 t v)
    (hA : DataW.TrodAll enc Try.prog W 0 (fun _ => true) true Try.f4.params.toList args.toList ds ps) :
    Calls Try.prog 4 args W fun e W' => e = .returned (.bool true) ∧ Below W.heap.size W W' := by
  rw [Try.params4] at hA hval
  obtain ⟨v0, vs0, d0, ds0, p0, q0, hargs, rfl, rfl, h0, r0⟩ := trodAll_cons hA
  obtain ⟨rfl, rfl, rfl⟩ := trodAll_nil r0
  obtain rfl : args = #[v0] := by cases args; simp_all
  obtain ⟨cs, rfl, n, x, h⟩ := arg_struct Try.underlying25 (hval 0 _ _ rfl rfl) h0
  obtain ⟨hl, m, hf⟩ := rd_struct Try.underlying25 h
  rw [show Try.prog.cellsOf 25 = 5 from by kernel_rfl] at hl
  match cs, hl with
  | [c0, c1, c2, c3, c4], _ =>
    obtain ⟨y0, h0⟩ := hf 0 _ rfl
    obtain ⟨y1, h1⟩ := hf 1 _ rfl
    obtain ⟨y2, h2⟩ := hf 2 _ rfl
    obtain ⟨y3, h3⟩ := hf 3 _ rfl
    obtain ⟨y4, h4⟩ := hf 4 _ rfl
    simp [cells_int, cells_bool] at h0 h1 h2 h3 h4
    obtain ⟨z0, e0, _⟩ := rd_int h0
    obtain ⟨z1, e1, _⟩ := rd_int h1
    obtain ⟨z2, e2, _⟩ := rd_int h2
    obtain ⟨z3, e3⟩ := rd_bool h3
    obtain ⟨z4, e4, _⟩ := rd_int h4
    simp only [List.cons.injEq, and_true] at e0 e1 e2 e3 e4
    subst e0 e1 e2 e3 e4
    exact FnExactCommitOk_walk _ _ _ _ _ _

theorem FnExactCommitOk_proved : Rows.FnExactCommitOkSaid :=
  OpenClaim.holds_of_wide 4 Try.f4 rfl rfl rfl rfl rfl rfl rfl ⟨rfl, rfl, rfl, rfl, rfl⟩ rfl rfl rfl rfl rfl (by kernel_rfl) Try.func4 (by kernel_rfl)
    (of_decide_eq_true (by kernel_rfl)) (by unfold Func.isWrapper; first | (rw [if_pos (by decide +kernel)]; kernel_rfl) | (rw [if_neg (by decide +kernel)]; exact ⟨rfl, rfl⟩))
    (fun os started H enc _ => law_lifted 4 Try.f4 Rows.fnExactCommitOkSpec ⟨rfl, fun H ds h => by match ds, h with | [_], _ => rfl⟩ rfl (by kernel_rfl) (by kernel_rfl) Try.func4 Rows.fnExactCommitOkRow.domain os started H enc
      (ChangeSpec.witness6 (enc := enc) (C := Try.checked) false ⟨#[], #[.agg #[.int .i64 0, .int .i64 0, .int .i64 0, .bool false, .int .i64 0]], []⟩ 8 (by kernel_rfl) (by kernel_rfl) (by kernel_rfl) (by kernel_rfl))
      (fun W b0 args ds ps hval hA => FnExactCommitOk_args W b0 args ds ps hval hA))
#print axioms FnExactCommitOk_proved

end Go.Proofs.Ytjejhdogbhdgoaa
