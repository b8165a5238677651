/-
  The engine, fourth part: the operations on slots alone do what is told of them. No conditions of its own.
-/
import Derived.Test.YtmdajpgemcaefaaE3
namespace Go.Proofs.Ytmdajpgemcaefaa
set_option linter.unusedSimpArgs false
set_option linter.unusedVariables false
open Go.RowKit

theorem splice_r {V : Nat → Prop} {ρ : Nat → At} {cs : List CV} {vs : List Value} (h : All2 (CVr V ρ) cs vs) (c : Nat) {l : List CV} {us : List Value} (hl : All2 (CVr V ρ) l us) :
    All2 (CVr V ρ) (splice cs c l) (vs.take c ++ us ++ vs.drop (c + us.length)) := by
  unfold splice
  rw [hl.length]
  exact ((h.take c).append hl).append (h.drop _)

theorem partS_r {P : Program} {V : Nat → Prop} {ρ : Nat → At} {n : Nat} {row : Bool} {cs : List CV} {c : Nat} {y : SV} {vs : List Value} (h : All2 (CVr V ρ) cs vs) (hp : partS n row cs c = some y) (t : TypeId)
    (hi : (P.info? t).map (·.size) = some n) (hr : isRowD (P.underlying t) = row) (hd : ∃ d, P.underlying t = some d) :
    ∃ u, SVr V ρ y u ∧ ∀ w, (part t vs.toArray c).run P w = .ok u w := by
  obtain ⟨d, hd⟩ := hd
  obtain ⟨i, hi1, hi2⟩ : ∃ i, P.info? t = some i ∧ i.size = n := by
    cases h : P.info? t with
    | none => simp [h] at hi
    | some i => exact ⟨i, rfl, by simpa [h] using hi⟩
  unfold partS at hp
  rw [hd] at hr
  have hagg : ∀ w, (isAgg t).run P w = .ok row w := by
    intro w
    unfold isAgg
    rw [Sem.run_bind, run_underlying hd w]
    cases d <;> simp_all [isRowD]
  cases row with
  | true =>
    simp only [if_true] at hp
    split at hp
    · rename_i hlt
      cases hp
      have hl := h.length
      refine ⟨.agg ((vs.drop c).take n).toArray, ⟨_, rfl, (h.drop c).take n⟩, fun w => ?_⟩
      unfold part
      simp only [Sem.run_bind, hagg, Result.andThen_ok, if_true, sizeOf, typeInfo, run_program, hi1, Sem.run_pure, hi2]
      congr 2
      apply Array.ext'
      simp [List.drop_take]
    · cases hp
  | false =>
    simp only [Bool.false_eq_true, if_false] at hp
    obtain ⟨x, hx, rfl⟩ := Option.map_eq_some_iff.1 hp
    obtain ⟨u, hu, hxu⟩ := h.get hx
    refine ⟨u, hxu, fun w => ?_⟩
    unfold part
    simp [Sem.run_bind, hagg, hu]

theorem fold_set (us : List Value) : ∀ (k off : Nat) (arr : Array Value), off + k + us.length ≤ arr.size →
    (us.zipIdx k).foldl (fun cs (p : Value × Nat) => cs.setIfInBounds (off + p.2) p.1) arr = (arr.toList.take (off + k) ++ us ++ arr.toList.drop (off + k + us.length)).toArray := by
  induction us with
  | nil => intro k off arr _; simp
  | cons u us ih =>
    intro k off arr h
    simp only [List.zipIdx_cons, List.foldl_cons]
    rw [ih (k + 1) off _ (by simp at h ⊢; omega)]
    apply Array.ext'
    simp only [Array.toList_setIfInBounds, List.length_cons]
    have e := list_seg_step arr.toList (off + k) u us (by simp at h ⊢; omega)
    simpa [Nat.add_assoc, Nat.add_comm 1, Nat.add_left_comm] using e

theorem fillS_r {V : Nat → Prop} {ρ : Nat → At} {place : Nat → Option (Nat × Nat)} : ∀ (l : List (Nat × List CV)) (ps : List (Nat × Value)) (cs out : List CV) (arr : Array Value),
    All2 (CVr V ρ) cs arr.toList → All2 (fun p q => p.1 = q.1 ∧ All2 (CVr V ρ) p.2 q.2.cells.toList) l ps → fillS place cs l = some out →
    ∃ arr', Instr.fill place arr ps = some arr' ∧ All2 (CVr V ρ) out arr'.toList
  | [], [], cs, out, arr, h, _, hf => by cases hf; exact ⟨arr, rfl, h⟩
  | [], _ :: _, _, _, _, _, h, _ => h.elim
  | _ :: _, [], _, _, _, _, h, _ => h.elim
  | (i, x) :: l, (j, u) :: ps, cs, out, arr, h, hl, hf => by
    obtain ⟨⟨e1, h1⟩, h2⟩ := hl
    simp only at e1 h1
    subst e1
    unfold fillS at hf
    unfold Instr.fill
    split at hf
    · cases hf
    · rename_i off n hp
      split at hf
      · rename_i hc
        have hxl := h1.length
        have hal := h.length
        simp only [Array.length_toList] at hxl hal
        simp only [hp]
        rw [if_neg (by simp; omega)]
        have e := fold_set u.cells.toList 0 off arr (by simp; omega)
        have e2 : u.cells.zipIdx.foldl (fun cs (p : Value × Nat) => cs.setIfInBounds (off + p.2) p.1) arr = (arr.toList.take off ++ u.cells.toList ++ arr.toList.drop (off + u.cells.toList.length)).toArray := by
          rw [← Array.foldl_toList]
          simpa using e
        have h3 := splice_r h off h1
        exact fillS_r l ps _ out _ (by rw [e2]; exact h3) h2 hf
      · cases hf

theorem partsOf_r {V : Nat → Prop} {ρ : Nat → At} {ev : Operand → SV} {ea : Operand → Value} (hev : ∀ x, SVr V ρ (ev x) (ea x)) : ∀ {ps : List (Nat × Operand)} {l : List (Nat × List CV)}, partsOf ev ps = some l →
    All2 (fun p q => p.1 = q.1 ∧ All2 (CVr V ρ) p.2 q.2.cells.toList) l (ps.map fun (i, x) => (i, ea x))
  | [], l, h => by cases h; trivial
  | (i, x) :: ps, l, h => by
    unfold partsOf at h
    split at h
    · rename_i l' r h1 h2
      cases h
      exact ⟨⟨rfl, cellsOf_r h1 (hev x)⟩, partsOf_r hev h2⟩
    · cases h

theorem cvOf_r (V : Nat → Prop) (ρ : Nat → At) {x : Value} (h : x.oneCell' = true) : CVr V ρ (cvOf x) x := by
  unfold cvOf
  split
  · rfl
  · exact ⟨rfl, h⟩

theorem zero_r (V : Nat → Prop) (ρ : Nat → At) : ∀ {l : List Value}, (∀ x ∈ l, x.oneCell' = true) → All2 (CVr V ρ) (l.map cvOf) l
  | [], _ => trivial
  | x :: l, h => ⟨cvOf_r V ρ (h x (by simp)), zero_r V ρ fun y hy => h y (by simp [hy])⟩

end Go.Proofs.Ytmdajpgemcaefaa
