/-
  The reference's files: plain, no conditions of its own.
-/
import Derived.Test.YtfnhchcgieeedaaDK4
namespace Go.Proofs.Ytfnhchcgieeedaa
set_option linter.unusedSimpArgs false
set_option linter.unusedVariables false
set_option linter.unusedSimpArgs false
set_option linter.unusedVariables false
set_option linter.defProp false
open Go.RowKit

/-- The place of a name, -1 where there is none. -/
def atF (l : List FileD) (s : List UInt8) : Int := match l.findIdx? (fun f => decide (f.Name = s)) with
  | some i => (i : Int)
  | none => -1
theorem atF_hit {l : List FileD} {s : List UInt8} {k : Nat} (h : ∀ i (hi : i < l.length), i < k → l[i].Name ≠ s) (hk : k < l.length) (e : l[k].Name = s) : atF l s = (k : Int) := by
  have : l.findIdx? (fun f => decide (f.Name = s)) = some k := by
    rw [List.findIdx?_eq_some_iff_getElem]
    exact ⟨hk, by simpa using e, fun j hj => by simpa using h j (by omega) hj⟩
  unfold atF
  rw [this]
theorem atF_miss {l : List FileD} {s : List UInt8} (h : ∀ i (hi : i < l.length), l[i].Name ≠ s) : atF l s = -1 := by
  have : l.findIdx? (fun f => decide (f.Name = s)) = none := by
    rw [List.findIdx?_eq_none_iff]
    intro f hf
    obtain ⟨i, hi, rfl⟩ := List.mem_iff_getElem.1 hf
    simpa using h i hi
  unfold atF
  rw [this]
theorem atF_spec (l : List FileD) (s : List UInt8) : (atF l s = -1 ∧ lkF l s = none) ∨ ∃ (k : Nat) (h : k < l.length), atF l s = (k : Int) ∧ lkF l s = some l[k].Data := by
  induction l with
  | nil => exact .inl ⟨rfl, rfl⟩
  | cons f l ih =>
    by_cases e : f.Name = s
    · refine .inr ⟨0, by simp, atF_hit (fun i hi h0 => absurd h0 (by omega)) (by simp) (by simpa using e), ?_⟩
      rw [lkF_cons, if_pos e]; rfl
    · rw [lkF_cons, if_neg e]
      have hc : atF (f :: l) s = if atF l s = -1 then -1 else atF l s + 1 := by
        unfold atF
        rw [List.findIdx?_cons]
        simp only [e, decide_false, Bool.false_eq_true, if_false]
        cases h : List.findIdx? (fun f => decide (f.Name = s)) l with
        | none => simp
        | some i =>
          simp only [Option.map_some]
          rw [if_neg (by omega)]
          omega
      rcases ih with ⟨h1, h2⟩ | ⟨k, hk, h1, h2⟩
      · exact .inl ⟨by rw [hc, if_pos h1], h2⟩
      · refine .inr ⟨k + 1, by simpa using hk, ?_, by rw [h2]; rfl⟩
        rw [hc, if_neg (by omega), h1]; omega
theorem atF_there (l : List FileD) (s : List UInt8) : decide (0 ≤ atF l s) = (lkF l s).isSome := by
  rcases atF_spec l s with ⟨h1, h2⟩ | ⟨k, hk, h1, h2⟩
  · rw [h1, h2]; rfl
  · rw [h1, h2]; simp

theorem lessF_take {l : List FileD} {k : Nat} (h : k < l.length) (s : List UInt8) : lessF (l.take (k + 1)) s = if l[k].Name = s then lessF (l.take k) s else lessF (l.take k) s ++ [l[k]] := by
  rw [take_snoc h]
  unfold lessF
  rw [List.filter_append]
  by_cases e : l[k].Name = s
  · rw [if_pos e]; simp [e]
  · rw [if_neg e]; simp [e]
theorem lessF_le (l : List FileD) (s : List UInt8) : (lessF l s).length ≤ l.length := List.length_filter_le _ _
theorem lessF_sub {l : List FileD} {s : List UInt8} {f : FileD} (h : f ∈ lessF l s) : f ∈ l := (List.mem_filter.1 h).1

/-- What stands before place k when x has been put in ahead of the first greater name. -/
def gtF (x : FileD) (f : FileD) : Bool := bl x.Name f.Name
def insP (x : FileD) (l : List FileD) : List FileD := if l.any (gtF x) then insF x l else l
theorem insF_app (x : FileD) : ∀ (l m : List FileD), insF x (l ++ m) = if l.any (gtF x) then insF x l ++ m else l ++ insF x m
  | [], m => by simp
  | f :: l, m => by
    cases e : bl x.Name f.Name with
    | true =>
      have h1 : (f :: l).any (gtF x) = true := by
        rw [List.any_cons]
        show (bl x.Name f.Name || _) = true
        rw [e]; rfl
      rw [if_pos h1]
      simp [insF, e]
    | false =>
      have h1 : (f :: l).any (gtF x) = l.any (gtF x) := by
        rw [List.any_cons]
        show (bl x.Name f.Name || _) = _
        rw [e]; rfl
      rw [h1]
      have h2 := insF_app x l m
      simp only [List.cons_append, insF, e, Bool.false_eq_true, if_false, h2]
      split <;> rfl
theorem insF_not {x : FileD} : ∀ {l : List FileD}, l.any (gtF x) = false → insF x l = l ++ [x]
  | [], _ => rfl
  | f :: l, h => by
    rw [List.any_cons, Bool.or_eq_false_iff] at h
    have e : ¬ bl x.Name f.Name = true := by rw [show bl x.Name f.Name = gtF x f from rfl, h.1]; exact fun h => by cases h
    simp only [insF, if_neg e, insF_not h.2, List.cons_append]
theorem insP_zero (x : FileD) : insP x [] = [] := rfl
theorem insP_take {x : FileD} {l : List FileD} {k : Nat} (h : k < l.length) : insP x (l.take (k + 1)) = if (l.take k).any (gtF x) then insP x (l.take k) ++ [l[k]] else if gtF x l[k] then insP x (l.take k) ++ [x] ++ [l[k]] else insP x (l.take k) ++ [l[k]] := by
  rw [take_snoc h]
  unfold insP
  rw [List.any_append, insF_app]
  cases e : (l.take k).any (gtF x) with
  | true => simp
  | false =>
    cases e2 : gtF x l[k] with
    | true => simp [e2, insF, show bl x.Name l[k].Name = true from e2]
    | false => simp [e2]
theorem any_take {x : FileD} {l : List FileD} {k : Nat} (h : k < l.length) : (l.take (k + 1)).any (gtF x) = ((l.take k).any (gtF x) || gtF x l[k]) := by
  rw [take_snoc h, List.any_append]; simp
theorem insP_end (x : FileD) (l : List FileD) : insF x l = if l.any (gtF x) then insP x l else insP x l ++ [x] := by
  unfold insP
  cases e : l.any (gtF x) with
  | true => simp
  | false => simp [insF_not e]
theorem insP_len (x : FileD) (l : List FileD) : (insP x l).length ≤ l.length + 1 := by
  unfold insP
  split
  · rw [insF_len]; exact Nat.le_refl _
  · omega

end Go.Proofs.Ytfnhchcgieeedaa
