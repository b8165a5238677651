/-
  The contracts of JobOk, FirstVal and FirstEdge, the program's and the reference's, and their three laws: for every input the laws return true. No conditions.
-/
import Derived.Test.YtjejhdogbhdgoaaFrame
namespace Go.Proofs.Ytjejhdogbhdgoaa
set_option linter.unusedSimpArgs false
set_option linter.unusedVariables false
open Go.RowKit Go.ChangeShapes Go.WideShapes Go.ChangeAt

def jobOk (n p s : Int) : Bool := decide (1 ≤ p ∧ p ≤ 4 ∧ (p = 3 → 0 ≤ s ∧ s < n) ∧ (p ≠ 3 → s = 0))
def firstVal (p s v : Int) : Int := if 0 ≤ v ∧ v < 150 then (if p = 1 then 1048576 else if p = 2 ∨ p = 4 then v else if p = 3 ∧ v ≠ s then 1099511627776 else 0) else 0
def firstEdge (p f t d : Int) : Int := if 0 ≤ f ∧ f < 150 ∧ 0 ≤ t ∧ t < 150 ∧ 1 ≤ d ∧ d ≤ 400 then (if p = 1 then 1048576 / d else if p = 2 ∨ p = 3 then 1099511627776 else if p = 4 then f * 1000 + t else 0) else 0

theorem toJob_c (p s : Int) (w : World) :
    Calls Try.prog 21 #[.agg #[.int .i64 p, .int .i64 s]] w fun r w' => r = .returned (.agg #[.int .i64 p, .int .i64 s]) ∧ Below w.heap.size w w' := by
  go_enter Try.func21, Try.ntmps21
  go_wp2
  refine bodyPost_ret (v := .agg #[.int .i64 p, .int .i64 s]) (by simp [results, Try.results21, go_sem]) rfl ⟨rfl, ?_⟩
  exact (by repeat (first | exact Below.refl _ _ | assumption | refine Below.step ?_ (by assumption) | refine Below.drew ?_ | refine Below.alloc ?_ (by simp <;> omega) _ | refine Below.setCell ?_ (by simp <;> omega) _))

set_option maxHeartbeats 1000000 in
theorem implJobOk (n p s : Int) (w : World) :
    Calls Try.prog 22 #[.int .i64 n, .agg #[.int .i64 p, .int .i64 s]] w fun r w' => r = .returned (.bool (jobOk n p s)) ∧ Below w.heap.size w w' := by
  by_cases h3 : p = 3
  · have e : (p == 3) = true := beq_iff_eq.2 h3
    have H3 := Lib.hid h3
    clear h3
    go_enter Try.func22, Try.ntmps22
    go_wp2
    all_goals go_ret
    all_goals exact ⟨ret_bool (Bool.eq_iff_iff.2 (by have := H3.out; simp [jobOk]; omega)), (by repeat (first | exact Below.refl _ _ | assumption | refine Below.step ?_ (by assumption) | refine Below.drew ?_ | refine Below.alloc ?_ (by simp <;> omega) _ | refine Below.setCell ?_ (by simp <;> omega) _))⟩
  · have e : (p == 3) = false := beq_eq_false_iff_ne.2 h3
    go_enter Try.func22, Try.ntmps22
    go_wp2
    all_goals go_ret
    all_goals exact ⟨ret_bool (Bool.eq_iff_iff.2 (by simp [jobOk]; omega)), (by repeat (first | exact Below.refl _ _ | assumption | refine Below.step ?_ (by assumption) | refine Below.drew ?_ | refine Below.alloc ?_ (by simp <;> omega) _ | refine Below.setCell ?_ (by simp <;> omega) _))⟩

set_option maxHeartbeats 1000000 in
theorem specJobOk (n p s : Int) (w : World) :
    Calls Try.prog 20 #[.int .i64 n, .agg #[.int .i64 p, .int .i64 s]] w fun r w' => r = .returned (.bool (jobOk n p s)) ∧ Below w.heap.size w w' := by
  by_cases h3 : p = 3
  · have e : (p == 3) = true := beq_iff_eq.2 h3
    have e1 : ¬ p < 1 := by omega
    have e4 : ¬ 4 < p := by omega
    have H3 := Lib.hid h3
    clear h3
    go_enter Try.func20, Try.ntmps20
    go_wp2
    all_goals go_ret
    all_goals exact ⟨ret_bool (Bool.eq_iff_iff.2 (by have := H3.out; simp [jobOk]; omega)), (by repeat (first | exact Below.refl _ _ | assumption | refine Below.step ?_ (by assumption) | refine Below.drew ?_ | refine Below.alloc ?_ (by simp <;> omega) _ | refine Below.setCell ?_ (by simp <;> omega) _))⟩
  · have e : (p == 3) = false := beq_eq_false_iff_ne.2 h3
    go_enter Try.func20, Try.ntmps20
    go_wp2
    all_goals go_ret
    all_goals exact ⟨ret_bool (Bool.eq_iff_iff.2 (by simp [jobOk]; omega)), (by repeat (first | exact Below.refl _ _ | assumption | refine Below.step ?_ (by assumption) | refine Below.drew ?_ | refine Below.alloc ?_ (by simp <;> omega) _ | refine Below.setCell ?_ (by simp <;> omega) _))⟩

set_option maxHeartbeats 1000000 in
theorem implFirstVal (p s v : Int) (w : World) :
    Calls Try.prog 26 #[.agg #[.int .i64 p, .int .i64 s], .int .i64 v] w fun r w' => r = .returned (.int .i64 (firstVal p s v)) ∧ Below w.heap.size w w' := by
  go_enter Try.func26, Try.ntmps26
  go_wp2
  all_goals go_ret
  all_goals exact ⟨ret_int (by go_light; (try simp only [beq_iff_eq, beq_eq_false_iff_ne, bne_iff_ne, bne_eq_false_iff_eq, ne_eq, decide_eq_true_eq, decide_eq_false_iff_not, Bool.not_eq_true, Bool.not_eq_false, Bool.not_eq_true', Bool.not_eq_false', Bool.and_eq_true, Bool.or_eq_true, Int.not_lt, Int.not_le] at *); unfold firstVal; (repeat' split) <;> omega), (by repeat (first | exact Below.refl _ _ | assumption | refine Below.step ?_ (by assumption) | refine Below.drew ?_ | refine Below.alloc ?_ (by simp <;> omega) _ | refine Below.setCell ?_ (by simp <;> omega) _))⟩

set_option maxHeartbeats 1000000 in
theorem specFirstVal (p s v : Int) (w : World) :
    Calls Try.prog 25 #[.agg #[.int .i64 p, .int .i64 s], .int .i64 v] w fun r w' => r = .returned (.int .i64 (firstVal p s v)) ∧ Below w.heap.size w w' := by
  go_enter Try.func25, Try.ntmps25
  go_wp2
  all_goals go_ret
  all_goals exact ⟨ret_int (by go_light; (try simp only [beq_iff_eq, beq_eq_false_iff_ne, bne_iff_ne, bne_eq_false_iff_eq, ne_eq, decide_eq_true_eq, decide_eq_false_iff_not, Bool.not_eq_true, Bool.not_eq_false, Bool.not_eq_true', Bool.not_eq_false', Bool.and_eq_true, Bool.or_eq_true, Int.not_lt, Int.not_le] at *); unfold firstVal; (repeat' split) <;> omega), (by repeat (first | exact Below.refl _ _ | assumption | refine Below.step ?_ (by assumption) | refine Below.drew ?_ | refine Below.alloc ?_ (by simp <;> omega) _ | refine Below.setCell ?_ (by simp <;> omega) _))⟩

set_option maxHeartbeats 2000000 in
theorem implFirstEdge (p s f t d : Int) (w : World) :
    Calls Try.prog 24 #[.agg #[.int .i64 p, .int .i64 s], .int .i64 f, .int .i64 t, .int .i64 d] w fun r w' => r = .returned (.int .i64 (firstEdge p f t d)) ∧ Below w.heap.size w w' := by
  by_cases hv : 0 ≤ f ∧ f < 150 ∧ 0 ≤ t ∧ t < 150 ∧ 1 ≤ d ∧ d ≤ 400
  · obtain ⟨h1, h2, h3, h4, h5, h6⟩ := hv
    go_enter Try.func24, Try.ntmps24
    go_wp2
    all_goals go_ret
    all_goals exact ⟨ret_int (by go_light; (try simp only [beq_iff_eq, beq_eq_false_iff_ne, bne_iff_ne, bne_eq_false_iff_eq, ne_eq, decide_eq_true_eq, decide_eq_false_iff_not, Bool.not_eq_true, Bool.not_eq_false, Bool.not_eq_true', Bool.not_eq_false', Bool.and_eq_true, Bool.or_eq_true, Int.not_lt, Int.not_le] at *); unfold firstEdge; (repeat' split) <;> omega), (by repeat (first | exact Below.refl _ _ | assumption | refine Below.step ?_ (by assumption) | refine Below.drew ?_ | refine Below.alloc ?_ (by simp <;> omega) _ | refine Below.setCell ?_ (by simp <;> omega) _))⟩
  · have HV := Lib.hid hv
    clear hv
    go_enter Try.func24, Try.ntmps24
    go_wp2
    all_goals go_ret
    all_goals exact ⟨ret_int (by go_light; have hv := HV.out; try simp only [Bool.not_eq_true', Bool.not_eq_false', decide_eq_true_eq, decide_eq_false_iff_not] at *
                                 first | (exfalso; omega) | (unfold firstEdge; rw [if_neg hv])), (by repeat (first | exact Below.refl _ _ | assumption | refine Below.step ?_ (by assumption) | refine Below.drew ?_ | refine Below.alloc ?_ (by simp <;> omega) _ | refine Below.setCell ?_ (by simp <;> omega) _))⟩

set_option maxHeartbeats 2000000 in
theorem specFirstEdge (p s f t d : Int) (w : World) :
    Calls Try.prog 23 #[.agg #[.int .i64 p, .int .i64 s], .int .i64 f, .int .i64 t, .int .i64 d] w fun r w' => r = .returned (.int .i64 (firstEdge p f t d)) ∧ Below w.heap.size w w' := by
  by_cases hv : 0 ≤ f ∧ f < 150 ∧ 0 ≤ t ∧ t < 150 ∧ 1 ≤ d ∧ d ≤ 400
  · obtain ⟨h1, h2, h3, h4, h5, h6⟩ := hv
    go_enter Try.func23, Try.ntmps23
    go_wp2
    all_goals go_ret
    all_goals exact ⟨ret_int (by go_light; (try simp only [beq_iff_eq, beq_eq_false_iff_ne, bne_iff_ne, bne_eq_false_iff_eq, ne_eq, decide_eq_true_eq, decide_eq_false_iff_not, Bool.not_eq_true, Bool.not_eq_false, Bool.not_eq_true', Bool.not_eq_false', Bool.and_eq_true, Bool.or_eq_true, Int.not_lt, Int.not_le] at *); unfold firstEdge; (repeat' split) <;> omega), (by repeat (first | exact Below.refl _ _ | assumption | refine Below.step ?_ (by assumption) | refine Below.drew ?_ | refine Below.alloc ?_ (by simp <;> omega) _ | refine Below.setCell ?_ (by simp <;> omega) _))⟩
  · have HV := Lib.hid hv
    clear hv
    go_enter Try.func23, Try.ntmps23
    go_wp2
    all_goals go_ret
    all_goals exact ⟨ret_int (by go_light; have hv := HV.out; try simp only [Bool.not_eq_true', Bool.not_eq_false', decide_eq_true_eq, decide_eq_false_iff_not] at *
                                 first | (exfalso; omega) | (unfold firstEdge; rw [if_neg hv])), (by repeat (first | exact Below.refl _ _ | assumption | refine Below.step ?_ (by assumption) | refine Below.drew ?_ | refine Below.alloc ?_ (by simp <;> omega) _ | refine Below.setCell ?_ (by simp <;> omega) _))⟩

end Go.Proofs.Ytjejhdogbhdgoaa
