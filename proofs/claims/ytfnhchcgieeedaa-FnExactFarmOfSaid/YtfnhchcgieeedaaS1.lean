/-
  First contracts by the engine. No conditions of its own.
-/
import Derived.Test.YtfnhchcgieeedaaTi
import Derived.Test.YtfnhchcgieeedaaMC
namespace Go.Proofs.Ytfnhchcgieeedaa
set_option linter.unusedSimpArgs false
set_option linter.unusedVariables false
set_option linter.unusedSimpArgs false
set_option linter.unusedVariables false
set_option linter.defProp false
open Go.RowKit

theorem mixed : Try.prog.follows .mixedOrders = true := by kernel_rfl

theorem u8_le (x : UInt8) : (x.toNat : Int) ≤ 9223372036854775807 := by have := x.toNat_lt; omega

theorem ex_p {p : Prop} {q : p → Prop} (h : p) (k : ∀ h, q h) : ∃ h, q h := ⟨h, k h⟩

def intK (x : Int) : List DC := [.v (.int .i64 x)]

theorem flat_map {α : Type} {k : α → List DC} (h : ∀ x, ∀ c ∈ k x, DC.flat c) (l : List α) : ∀ e ∈ l.map k, ∀ c ∈ e, DC.flat c := by
  intro e he c hc
  obtain ⟨x, _, rfl⟩ := List.mem_map.1 he
  exact h x c hc
theorem flat_intK (l : List Int) : ∀ e ∈ l.map intK, ∀ c ∈ e, DC.flat c := flat_map (fun x c hc => by simp [intK] at hc; subst hc; exact ⟨_, rfl, rfl⟩) l
theorem flat_bytK (l : List UInt8) : ∀ e ∈ l.map bytK, ∀ c ∈ e, DC.flat c := flat_map (fun x c hc => by simp [bytK] at hc; subst hc; exact ⟨_, rfl, rfl⟩) l

/-- what is left of b behind n -/
def szL (b n : Nat) : Int := if n ≤ b then ((b - n : Nat) : Int) else -1
theorem szL_neg (b n : Nat) (h : b < n) : szL b n = -1 := by unfold szL; rw [if_neg (by omega)]
theorem szL_lt {b n : Nat} (h : szL b n < 0) : b < n := by
  unfold szL at h; split at h <;> omega
theorem szL_le {b n : Nat} (h : 0 ≤ szL b n) : n ≤ b := by
  unfold szL at h; split at h <;> omega
theorem szL_sub (b n : Nat) (h : n ≤ b) : szL b n = ((b - n : Nat) : Int) := by unfold szL; rw [if_pos h]
theorem szL_pos (b n : Nat) (h : n ≤ b) : szL b n = (b : Int) - n := by unfold szL; rw [if_pos h]; omega

section
variable {α : Type}
/-- the first k elements are copied -/
def fillTo (f : α → List DC) (z : List DC) (l : List α) (k : Nat) : List (List DC) := (l.take k).map f ++ List.replicate (l.length - k) z
theorem fillTo_len (f : α → List DC) (z : List DC) (l : List α) (k : Nat) : (fillTo f z l k).length = l.length := by simp [fillTo]; omega
theorem fillTo_get (f : α → List DC) (z : List DC) (l : List α) (k : Nat) (h : k < (fillTo f z l k).length) : (fillTo f z l k)[k] = z := by
  have h1 : k < l.length := by rw [fillTo_len] at h; exact h
  have : (fillTo f z l k)[k]? = some z := by
    unfold fillTo
    have hl : ((l.take k).map f).length = k := by simp; omega
    rw [List.getElem?_append_right (by rw [hl]; exact Nat.le_refl _), hl, Nat.sub_self, List.getElem?_replicate, if_pos (by omega)]
  rw [List.getElem?_eq_getElem h] at this
  exact Option.some.inj this
theorem fillTo_set (f : α → List DC) (z : List DC) (l : List α) (k : Nat) (h : k < l.length) : (fillTo f z l k).set k (f l[k]) = fillTo f z l (k + 1) := by
  unfold fillTo
  obtain ⟨m, hm⟩ : ∃ m, l.length - k = m + 1 := ⟨l.length - k - 1, by omega⟩
  have e : l.length - (k + 1) = m := by omega
  have hl : ((l.take k).map f).length = k := by simp; omega
  rw [hm, e, List.set_append_right _ _ (by rw [hl]; exact Nat.le_refl _), hl, List.take_succ_eq_append_getElem h, List.map_append, Nat.sub_self, List.replicate_succ, List.set_cons_zero]
  simp
/-- the first k elements are set anew -/
def setTo (g : Nat → List DC) (f : α → List DC) (l : List α) (k : Nat) : List (List DC) := (List.range k).map g ++ (l.drop k).map f
theorem setTo_len (g : Nat → List DC) (f : α → List DC) (l : List α) (k : Nat) (h : k ≤ l.length) : (setTo g f l k).length = l.length := by simp [setTo]; omega
theorem setTo_get (g : Nat → List DC) (f : α → List DC) (l : List α) (k : Nat) (h : k < l.length) (h' : k < (setTo g f l k).length) : (setTo g f l k)[k] = f l[k] := by
  have : (setTo g f l k)[k]? = some (f l[k]) := by
    unfold setTo
    rw [List.getElem?_append_right (by simp)]
    simp [h]
  rw [List.getElem?_eq_getElem h'] at this
  exact Option.some.inj this
theorem setTo_set (g : Nat → List DC) (f : α → List DC) (l : List α) (k : Nat) (h : k < l.length) : (setTo g f l k).set k (g k) = setTo g f l (k + 1) := by
  unfold setTo
  have hl : ((List.range k).map g).length = k := by simp
  rw [List.set_append_right _ _ (by rw [hl]; exact Nat.le_refl _), hl, Nat.sub_self, List.drop_eq_getElem_cons h, List.map_cons, List.set_cons_zero, List.range_succ, List.map_append, List.append_assoc]
  rfl
theorem setTo_zero (g : Nat → List DC) (f : α → List DC) (l : List α) : setTo g f l 0 = l.map f := by simp [setTo]
theorem setTo_end (g : Nat → List DC) (f : α → List DC) (l : List α) : setTo g f l l.length = (List.range l.length).map g := by simp [setTo]
theorem range_get (g : Nat → List DC) (n i : Nat) (h : i < ((List.range n).map g).length) : ((List.range n).map g)[i] = g i := by simp
theorem range_len (g : Nat → List DC) (n : Nat) : ((List.range n).map g).length = n := by simp
theorem eqs_hit {l m : List α} [DecidableEq α] (k : Nat) (h1 : k < l.length) (h2 : k < m.length) (h : ¬ l[k] = m[k]) : false = decide (l = m) := by
  symm; rw [decide_eq_false_iff_not]; rintro rfl; exact h rfl
theorem eqs_len {l m : List α} [DecidableEq α] (h : l.length ≠ m.length) : false = decide (l = m) := by
  symm; rw [decide_eq_false_iff_not]; rintro rfl; exact h rfl
theorem eqs_end {l m : List α} [DecidableEq α] (h : l.length = m.length) (k : Nat) (hk : l.length ≤ k) (he : ∀ i, i < k → l[i]? = m[i]?) : true = decide (l = m) := by
  symm; rw [decide_eq_true_eq]
  apply List.ext_getElem?
  intro i
  by_cases hi : i < k
  · exact he i hi
  · rw [List.getElem?_eq_none (by omega), List.getElem?_eq_none (by omega)]
theorem fillTo_zero (f : α → List DC) (z : List DC) (l : List α) : fillTo f z l 0 = List.replicate l.length z := by simp [fillTo]
theorem fillTo_end (f : α → List DC) (z : List DC) (l : List α) : fillTo f z l l.length = l.map f := by simp [fillTo]
theorem map_take (f : α → List DC) (l : List α) : (l.map f).take l.length = l.map f := List.take_of_length_le (by simp)
end

end Go.Proofs.Ytfnhchcgieeedaa
