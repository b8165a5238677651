/-
  A row of the call's own is from now on only read. No conditions of its own.
-/
import Derived.Test.YtfnhchcgieeedaaS1
namespace Go.Proofs.Ytfnhchcgieeedaa
set_option linter.unusedSimpArgs false
set_option linter.unusedVariables false
set_option linter.unusedSimpArgs false
set_option linter.unusedVariables false
set_option linter.defProp false
open Go.RowKit

def frz (ρ : Nat → At) (g : Nat) (k : Nat) : At := if k = g then { ρ g with ex := False } else ρ k
theorem frz_g (ρ : Nat → At) (g : Nat) : frz ρ g g = { ρ g with ex := False } := if_pos rfl
theorem frz_o (ρ : Nat → At) {g k : Nat} (h : k ≠ g) : frz ρ g k = ρ k := if_neg h
theorem frz_adr (ρ : Nat → At) (g k : Nat) : (frz ρ g k).adr = (ρ k).adr := by
  unfold frz; split
  · rename_i h; rw [h]
  · rfl
theorem frz_off (ρ : Nat → At) (g k : Nat) : (frz ρ g k).off = (ρ k).off := by
  unfold frz; split
  · rename_i h; rw [h]
  · rfl
theorem frz_sz (ρ : Nat → At) (g k : Nat) : (frz ρ g k).sz = (ρ k).sz := by
  unfold frz; split
  · rename_i h; rw [h]
  · rfl
theorem frz_F (ρ : Nat → At) (g k : Nat) : (frz ρ g k).F = (ρ k).F := by
  unfold frz; split
  · rename_i h; rw [h]
  · rfl
theorem frz_cv {V : Nat → Prop} {ρ : Nat → At} {g : Nat} {x : CV} {u : Value} (h : CVr V ρ x u) : CVr V (frz ρ g) x u := by
  cases x with
  | any => exact h
  | v x => exact h
  | nil => exact h
  | ptr f i c =>
    obtain ⟨h1, b, h2, h3⟩ := h
    exact ⟨h1, b, by rw [frz_adr]; exact h2, by rw [frz_off, frz_sz]; exact h3⟩
  | sl f sz o n =>
    obtain ⟨h1, h2, a, cp, h3, h4, h5, h6, h7, h8⟩ := h
    refine ⟨h1, by rw [frz_sz]; exact h2, a, cp, h3, h4, h5, h6, fun ho hex => ?_, fun hn => ?_⟩
    · by_cases hf : f = g
      · subst hf; rw [frz_g] at hex; exact hex.elim
      · rw [frz_o ρ hf] at hex ⊢; exact h7 ho hex
    · obtain ⟨b, q1, q2⟩ := h8 hn
      exact ⟨b, by rw [frz_adr]; exact q1, by rw [frz_off]; exact q2⟩
theorem frz_sv {V : Nat → Prop} {ρ : Nat → At} {g : Nat} {x : SV} {u : Value} (h : SVr V ρ x u) : SVr V (frz ρ g) x u := by
  cases x with
  | any => trivial
  | c x => exact frz_cv h
  | agg l => obtain ⟨vs, h1, h2⟩ := h; exact ⟨vs, h1, h2.mono fun _ _ => frz_cv⟩
  | tup l =>
    obtain ⟨vs, h1, h2⟩ := h
    refine ⟨vs, h1, h2.mono fun a b hab => ?_⟩
    cases a with
    | inl x => exact frz_cv hab
    | inr l => obtain ⟨ws, q1, q2⟩ := hab; exact ⟨ws, q1, q2.mono fun _ _ => frz_cv⟩
theorem frz_holds {V : Nat → Prop} {ρ : Nat → At} {g : Nat} {w : World} {p : At} {blk : Blk} (h : Holds V ρ w p blk) : Holds V (frz ρ g) w p blk := by
  cases blk with
  | box T cs =>
    obtain ⟨h0, b, vs, h1, h2, h3, h4⟩ := h
    exact ⟨h0, b, vs, h1, h2, h3, h4.mono fun _ _ => frz_cv⟩
  | row T es => exact h
  | ro es => exact h
  | gh S φ => exact h
  | mix T es => exact h
  | gx S φ => exact h
  | nst T es x =>
    obtain ⟨q, n⟩ := h
    exact ⟨q, n.hole fun i j u => ⟨fun h => h, fun y hy => ⟨y, hy, frz_cv⟩⟩⟩

/-- A row that is only read from now on. -/
theorem wk_freezeG {n0 : Nat} {sl : List SV} {H : Heap} {nx g : Nat} {es : List (List DC)} {blk0 : Blk} (hg : hget H g = some blk0) (hk : (∃ T, blk0 = .row T es) ∨ (∃ T, blk0 = .nst T es none) ∨ ∃ T, blk0 = .mix T es) (hn : n0 ≤ g) : Wk n0 (sl, H, nx) (sl, hput H g (some (.ro es)), nx) := by
  rintro X a w hX ⟨V, ρ, hV, hn0, hst⟩
  obtain ⟨hVg, hrow, hsg⟩ := hst.mem.dom g _ hg
  have hcc : es.length ≤ (ρ g).cap ∧ (ρ g).cap ≤ maxLen := by
    rcases hk with ⟨T, rfl⟩ | ⟨T, rfl⟩ | ⟨T, rfl⟩
    · exact ⟨hrow.2.2.1, hrow.2.1⟩
    · obtain ⟨q, n⟩ := hrow; exact ⟨n.le, n.cap⟩
    · exact ⟨hrow.2.2.1, hrow.2.1⟩
  have hro : Holds V (frz ρ g) w (frz ρ g g) (.ro es) := by
    have := ro_part (V := V) (ρ := ρ) (w := w) (g := g) (b := 0) (m := es.length) (r := true) (es := es) (es' := es) (by
      rcases hk with ⟨T, rfl⟩ | ⟨T, rfl⟩ | ⟨T, rfl⟩
      · exact .inl ⟨T, hrow⟩
      · exact .inr (.inr (.inl ⟨T, hrow⟩))
      · exact .inr (.inr (.inr ⟨T, hrow⟩))) (by simp) rfl V (frz ρ g)
    obtain ⟨a1, a2, a3, a4, a5, a6⟩ := this
    rw [frz_g]
    refine ⟨fun h => h, hcc.2, hcc.1, a4, a5, fun i e j c b h1 h2 h3 => ?_⟩
    have := a6 i e j c b h1 h2 h3
    simpa [vwAt] using this
  have hH : ∀ k, hget (hput H g (some (.ro es))) k = if k = g then some (.ro es) else hget H k := hget_hput H g _
  refine ⟨V, frz ρ g, hV, ⟨hn0.1, fun k hk => ?_⟩, ⟨hst.slots.mono fun _ _ => frz_sv, hst.defers, ⟨fun k blk hb => ?_, fun k k' blk blk' hkk hb hb' b hF hF' => ?_⟩, fun k blk hb b hF => ?_, fun k blk hb b hF => ?_, hst.os, hst.tape, hst.output, hst.size, hst.block, hst.le⟩⟩
  · have : k ≠ g := by rw [← hX] at hn; omega
    rw [frz_o ρ this]; exact hn0.2 k hk
  · rw [hH] at hb
    split at hb
    · rename_i e; subst e; cases hb
      exact ⟨hVg, hro, fun b hF => hsg b (by rw [frz_F] at hF; exact hF)⟩
    · rename_i e
      rw [frz_o ρ e]
      obtain ⟨h1, h2, h3⟩ := hst.mem.dom k blk hb
      exact ⟨h1, frz_holds h2, h3⟩
  · rw [frz_F] at hF'
    rw [hH] at hb hb'
    split at hb
    · cases hb; exact hF.elim
    · rename_i e0
      rw [frz_o ρ e0] at hF
      split at hb'
      · rename_i e; subst e
        exact hst.mem.sep k k' _ _ hkk hb hg b hF hF'
      · exact hst.mem.sep k k' _ _ hkk hb hb' b hF hF'
  · rw [hH] at hb
    split at hb
    · cases hb; exact hF.elim
    · rename_i e0
      rw [frz_o ρ e0] at hF
      exact hst.base k blk hb b hF
  · rw [frz_F] at hF
    rw [hH] at hb
    split at hb
    · rename_i e; subst e
      exact hst.foot k _ hg b hF
    · exact hst.foot k blk hb b hF
theorem wk_freeze {n0 : Nat} {sl : List SV} {H : Heap} {nx g T : Nat} {es : List (List DC)} (hg : hget H g = some (.row T es)) (hn : n0 ≤ g) : Wk n0 (sl, H, nx) (sl, hput H g (some (.ro es)), nx) := wk_freezeG hg (.inl ⟨T, rfl⟩) hn

end Go.Proofs.Ytfnhchcgieeedaa
