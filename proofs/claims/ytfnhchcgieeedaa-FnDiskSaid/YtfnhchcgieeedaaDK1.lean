/-
  Lists of files in the order of their names: plain, no conditions of its own.
-/
import Derived.Test.YtfnhchcgieeedaaE28
namespace Go.Proofs.Ytfnhchcgieeedaa
set_option linter.unusedSimpArgs false
set_option linter.unusedVariables false
set_option linter.unusedSimpArgs false
set_option linter.unusedVariables false
set_option linter.defProp false
open Go.RowKit

def bl (x y : List UInt8) : Bool := Op.bytesLess x y
theorem bl_irr : ∀ x, bl x x = false
  | [] => rfl
  | a :: x => by
    have := bl_irr x
    unfold bl at this ⊢
    simp [Op.bytesLess, this]
theorem bl_trans : ∀ {x y z}, bl x y = true → bl y z = true → bl x z = true
  | _, y, [], _, h => by cases y <;> simp [bl, Op.bytesLess] at h
  | [], _, c :: z, _, _ => rfl
  | a :: x, [], c :: z, h, _ => by unfold bl at h; simp [Op.bytesLess] at h
  | a :: x, b :: y, c :: z, h1, h2 => by
    unfold bl at h1 h2 ⊢
    simp only [Op.bytesLess, Bool.or_eq_true, Bool.and_eq_true, decide_eq_true_eq, beq_iff_eq] at h1 h2 ⊢
    rcases h1 with h1 | ⟨rfl, h1⟩
    · rcases h2 with h2 | ⟨rfl, h2⟩
      · exact .inl (UInt8.lt_trans h1 h2)
      · exact .inl h1
    · rcases h2 with h2 | ⟨rfl, h2⟩
      · exact .inl h2
      · exact .inr ⟨rfl, bl_trans (x := x) (y := y) (z := z) h1 h2⟩
theorem bl_tri : ∀ {x y}, x ≠ y → bl x y = true ∨ bl y x = true
  | [], [], h => absurd rfl h
  | [], _ :: _, _ => .inl rfl
  | _ :: _, [], _ => .inr rfl
  | a :: x, b :: y, h => by
    unfold bl
    simp only [Op.bytesLess, Bool.or_eq_true, Bool.and_eq_true, decide_eq_true_eq, beq_iff_eq]
    rcases Nat.lt_trichotomy a.toNat b.toNat with h1 | h1 | h1
    · exact .inl (.inl (UInt8.lt_iff_toNat_lt.2 h1))
    · obtain rfl : a = b := UInt8.toNat_inj.1 h1
      rcases bl_tri (x := x) (y := y) (by rintro rfl; exact h rfl) with h2 | h2
      · exact .inl (.inr ⟨rfl, h2⟩)
      · exact .inr (.inr ⟨rfl, h2⟩)
    · exact .inr (.inl (UInt8.lt_iff_toNat_lt.2 h1))
theorem bl_asym {x y : List UInt8} (h : bl x y = true) : bl y x = false := by
  cases h' : bl y x with
  | false => rfl
  | true => have := bl_trans h h'; rw [bl_irr] at this; cases this
theorem bl_ne {x y : List UInt8} (h : bl x y = true) : x ≠ y := by rintro rfl; rw [bl_irr] at h; cases h

/-- In the order of the names, each once. -/
def srtF (M : List FileD) : Prop := M.Pairwise fun f g => bl f.Name g.Name = true

def lessF (M : List FileD) (s : List UInt8) : List FileD := M.filter fun f => !decide (f.Name = s)
/-- A file put in ahead of the first with a greater name. -/
def insF (x : FileD) : List FileD → List FileD
  | [] => [x]
  | f :: M => if bl x.Name f.Name then x :: f :: M else f :: insF x M
def withF (M : List FileD) (x : FileD) : List FileD := insF x (lessF M x.Name)

theorem lessF_srt {M : List FileD} (h : srtF M) (s : List UInt8) : srtF (lessF M s) := h.sublist List.filter_sublist
theorem lessF_no (M : List FileD) (s : List UInt8) : ∀ f ∈ lessF M s, f.Name ≠ s := fun f hf => by simpa [lessF] using (List.mem_filter.1 hf).2
theorem insF_mem {x g : FileD} : ∀ {M : List FileD}, g ∈ insF x M ↔ g = x ∨ g ∈ M
  | [] => by simp [insF]
  | f :: M => by
    unfold insF
    split
    · simp
    · simp only [List.mem_cons, insF_mem (M := M)]
      constructor
      · rintro (h | h | h)
        · exact .inr (.inl h)
        · exact .inl h
        · exact .inr (.inr h)
      · rintro (h | h | h)
        · exact .inr (.inl h)
        · exact .inl h
        · exact .inr (.inr h)
theorem insF_srt {x : FileD} : ∀ {M : List FileD}, srtF M → (∀ f ∈ M, f.Name ≠ x.Name) → srtF (insF x M)
  | [], _, _ => List.pairwise_singleton _ _
  | f :: M, h, hn => by
    obtain ⟨h1, h2⟩ := List.pairwise_cons.1 h
    unfold insF
    split
    · rename_i hb
      refine List.pairwise_cons.2 ⟨fun g hg => ?_, h⟩
      rcases List.mem_cons.1 hg with rfl | hg
      · exact hb
      · exact bl_trans hb (h1 g hg)
    · rename_i hb
      refine List.pairwise_cons.2 ⟨fun g hg => ?_, insF_srt h2 fun g hg => hn g (by simp [hg])⟩
      rcases insF_mem.1 hg with rfl | hg
      · rcases bl_tri (hn f (by simp)) with h3 | h3
        · exact h3
        · exact absurd h3 hb
      · exact h1 g hg
theorem withF_srt {M : List FileD} (h : srtF M) (x : FileD) : srtF (withF M x) := insF_srt (lessF_srt h _) (lessF_no M _)
theorem insF_len (x : FileD) : ∀ M : List FileD, (insF x M).length = M.length + 1
  | [] => rfl
  | f :: M => by
    unfold insF
    split
    · rfl
    · simp [insF_len x M]

theorem lkF_nil (s : List UInt8) : lkF [] s = none := rfl
theorem lkF_cons (f : FileD) (M : List FileD) (s : List UInt8) : lkF (f :: M) s = if f.Name = s then some f.Data else lkF M s := by
  unfold lkF
  rw [List.find?_cons]
  by_cases h : f.Name = s
  · simp [h]
  · simp [h]
theorem lkF_ins {x : FileD} (s : List UInt8) : ∀ {M : List FileD}, (∀ f ∈ M, f.Name ≠ x.Name) → lkF (insF x M) s = if s = x.Name then some x.Data else lkF M s
  | [], _ => by
    unfold insF
    rw [lkF_cons, lkF_nil]
    by_cases h : x.Name = s
    · rw [if_pos h, if_pos h.symm]
    · rw [if_neg h, if_neg fun e => h e.symm]
  | f :: M, hn => by
    unfold insF
    split
    · rw [lkF_cons]
      by_cases h : x.Name = s
      · rw [if_pos h, if_pos h.symm]
      · rw [if_neg h, if_neg fun e => h e.symm]
    · rw [lkF_cons, lkF_ins s fun g hg => hn g (by simp [hg]), lkF_cons]
      by_cases h : f.Name = s
      · rw [if_pos h, if_pos h, if_neg fun e => hn f (by simp) (h.trans e)]
      · rw [if_neg h, if_neg h]
theorem lkF_less (s t : List UInt8) : ∀ M : List FileD, lkF (lessF M s) t = if t = s then none else lkF M t
  | [] => by simp [lessF, lkF]
  | f :: M => by
    have ih := lkF_less s t M
    by_cases h : f.Name = s
    · have e : lessF (f :: M) s = lessF M s := by simp [lessF, h]
      rw [e, ih, lkF_cons]
      by_cases h2 : t = s
      · rw [if_pos h2, if_pos h2]
      · rw [if_neg h2, if_neg h2, if_neg fun e => h2 (e.symm.trans h)]
    · have e : lessF (f :: M) s = f :: lessF M s := by simp [lessF, h]
      rw [e, lkF_cons, ih, lkF_cons]
      by_cases h2 : f.Name = t
      · rw [if_pos h2, if_pos h2, if_neg fun e => h (h2.trans e)]
      · rw [if_neg h2, if_neg h2]
theorem lkF_some {M : List FileD} {s d : List UInt8} (h : lkF M s = some d) : ∃ f ∈ M, f.Name = s ∧ f.Data = d := by
  unfold lkF at h
  obtain ⟨f, h1, h2⟩ := Option.map_eq_some_iff.1 h
  exact ⟨f, List.mem_of_find?_eq_some h1, by simpa using List.find?_some h1, h2⟩
theorem lkF_none {M : List FileD} {s : List UInt8} (h : lkF M s = none) : ∀ f ∈ M, f.Name ≠ s := fun f hf e => by
  unfold lkF at h
  rw [Option.map_eq_none_iff] at h
  have := List.find?_eq_none.1 h f hf
  simp [e] at this

theorem lessF_len : ∀ {M : List FileD}, srtF M → ∀ s, (lessF M s).length + (if (lkF M s).isSome then 1 else 0) = M.length
  | [], _, s => rfl
  | f :: M, h, s => by
    obtain ⟨h1, h2⟩ := List.pairwise_cons.1 h
    have ih := lessF_len h2 s
    rw [lkF_cons]
    by_cases e : f.Name = s
    · have e1 : lessF (f :: M) s = lessF M s := by simp [lessF, e]
      have e2 : lkF M s = none := by
        cases e3 : lkF M s with
        | none => rfl
        | some d =>
          obtain ⟨g, g1, g2, _⟩ := lkF_some e3
          exact absurd (e.trans g2.symm) (bl_ne (h1 g g1))
      rw [e2] at ih
      rw [e1, if_pos e]
      simp at ih ⊢
      omega
    · have e1 : lessF (f :: M) s = f :: lessF M s := by simp [lessF, e]
      rw [e1, if_neg e]
      simp only [List.length_cons]
      omega
theorem isDel {M : List FileD} (h : srtF M) (s : List UInt8) : IsDel M s (lessF M s) := ⟨fun x => lkF_less s x M, lessF_len h s⟩
theorem isPut {M : List FileD} (h : srtF M) (s d : List UInt8) : IsPut M s d (withF M ⟨s, d⟩) := by
  refine ⟨fun x => ?_, ?_⟩
  · unfold withF
    rw [lkF_ins x (lessF_no M s), lkF_less]
    by_cases e : x = s
    · rw [if_pos e, if_pos e]
    · rw [if_neg e, if_neg e, if_neg e]
  · unfold withF
    rw [insF_len]
    have := lessF_len h s
    simp only at this ⊢
    split <;> split at this <;> simp_all <;> omega

end Go.Proofs.Ytfnhchcgieeedaa
