/-
  The form of simple data. No conditions of its own.
-/
import Derived.Test.YtfnhchcgieeedaaMC
import Derived.Test.YtfnhchcgieeedaaFrame
import Derived.Test.YtfnhchcgieeedaaS1
namespace Go.Proofs.Ytfnhchcgieeedaa
set_option linter.unusedSimpArgs false
set_option linter.unusedVariables false
set_option linter.unusedSimpArgs false
set_option linter.unusedVariables false
set_option linter.defProp false
set_option maxRecDepth 20000
open Go.RowKit

theorem sh_int {d : Nat} {ds : List DC} (h : Sh Try.prog (d + 1) 3 ds) : ∃ z, ds = [.v (.int .i64 z)] ∧ I64 z := by
  unfold Sh at h
  rw [Try.underlying3] at h
  obtain ⟨n, rfl, hw⟩ := h
  refine ⟨n, rfl, ?_⟩
  simpa [Lit.wf, IntKind.min, IntKind.max, IntKind.bits, IntKind.signed, I64] using hw

theorem sh_bool {d : Nat} {ds : List DC} (h : Sh Try.prog (d + 1) 4 ds) : ∃ z, ds = [.v (.bool z)] := by
  unfold Sh at h
  rw [Try.underlying4] at h
  exact h

theorem sh_intK {d : Nat} {ds : List DC} (h : Sh Try.prog (d + 1) 3 ds) : ∃ z, ds = intK z ∧ I64 z := sh_int h

theorem sh_bytK {d : Nat} {ds : List DC} (h : Sh Try.prog (d + 1) 5 ds) : ∃ z, ds = bytK z ∧ True := by
  unfold Sh at h
  rw [Try.underlying5] at h
  obtain ⟨n, rfl, hw⟩ := h
  have hz' : 0 ≤ n ∧ n ≤ 255 := by simpa [Lit.wf, IntKind.min, IntKind.max, IntKind.bits, IntKind.signed] using hw
  refine ⟨UInt8.ofNat n.toNat, ?_, trivial⟩
  simp only [bytK]
  have : ((UInt8.ofNat n.toNat).toNat : Int) = n := by simp; omega
  rw [this]

theorem sh_slice {d t e : Nat} {ds : List DC} (ht : Try.prog.underlying t = some (.slice e)) (h : Sh Try.prog (d + 1) t ds) :
    ∃ es : List (List DC), ds = [.sl e (Try.prog.cellsOf e) es] ∧ es.length ≤ maxLen ∧ ∀ el ∈ es, Sh Try.prog d e el := by
  unfold Sh at h
  rw [ht] at h
  exact h

theorem list_of {α : Type} {k : α → List DC} {R : α → Prop} : ∀ {es : List (List DC)}, (∀ el ∈ es, ∃ y, el = k y ∧ R y) → ∃ l : List α, es = l.map k ∧ ∀ y ∈ l, R y
  | [], _ => ⟨[], rfl, fun y hy => (by cases hy)⟩
  | e :: es, h => by
    obtain ⟨y, hy, hR⟩ := h e (by simp)
    obtain ⟨l, hl, hl2⟩ := list_of (es := es) fun el he => h el (by simp [he])
    refine ⟨y :: l, by rw [hy, hl]; rfl, fun z hz => ?_⟩
    rcases List.mem_cons.1 hz with rfl | hz
    · exact hR
    · exact hl2 z hz

theorem one_arg {w : World} {F : Nat → Prop} {d : DC} {us : List Value} (h : All2 (Rd w F) [d] us) : ∃ u, us = [u] ∧ Rd w F d u := by
  match us, h with
  | [u], h => exact ⟨u, rfl, h.1⟩

end Go.Proofs.Ytfnhchcgieeedaa
