/-
  Two weaker states: memory that is only read under a second number; a row of rows as a row that leans on what is only read. No conditions of its own.
-/
import Derived.Test.YtfnhchcgieeedaaGF
namespace Go.Proofs.Ytfnhchcgieeedaa
set_option linter.unusedSimpArgs false
set_option linter.unusedVariables false
set_option linter.unusedSimpArgs false
set_option linter.unusedVariables false
set_option linter.defProp false
open Go.RowKit

theorem wk_alias {n0 : Nat} {sl : List SV} {H : Heap} {nx g t sz n : Nat} {es : List (List DC)} (hg : hget H g = some (.ro es)) (ht : sl[t]? = some (.c (.sl g sz 0 n))) : Wk n0 (sl, H, nx) (sl.set t (.c (.sl nx sz 0 n)), hput H nx (some (.ro es)), nx + 1) := by
  rintro X a w hX ⟨V, ρ, hV, hn0, hst⟩
  obtain ⟨hVg, hro, hsg⟩ := hst.mem.dom g _ hg
  have hV : ∀ f, V f → f < nx := hV
  have hn1 : X.n0 ≤ nx := hn0.1
  let ρ' : Nat → At := fun k => if k = nx then ρ g else ρ k
  have hρn : ρ' nx = ρ g := if_pos rfl
  have hρ : ∀ k, V k → ρ' k = ρ k := fun k hk => if_neg (by have := hV k hk; omega)
  have hVm : ∀ f, V f → (V f ∨ f = nx) ∧ (ρ' f).nf = (ρ f).nf := fun f hf => ⟨.inl hf, by rw [hρ f hf]⟩
  have hH : ∀ k, hget (hput H nx (some (.ro es))) k = if k = nx then some (.ro es) else hget H k := hget_hput H nx _
  obtain ⟨u, hu, hr⟩ := hst.slots.get ht
  have hr' : SVr (fun f => V f ∨ f = nx) ρ' (.c (.sl nx sz 0 n)) u := by
    obtain ⟨_, h1⟩ : CVr V ρ (.sl g sz 0 n) u := hr
    refine ⟨.inr rfl, ?_⟩
    rw [hρn]
    exact h1
  have hset : a.tmps.toList.set t u = a.tmps.toList := by
    refine List.ext_getElem? fun i => ?_
    rw [List.getElem?_set]
    split
    · rename_i e; subst e
      split
      · exact hu.symm
      · rename_i h; rw [List.getElem?_eq_none (by omega)] at hu; cases hu
    · rfl
  refine ⟨fun f => V f ∨ f = nx, ρ', fun f hf => ?_, ⟨Nat.le_succ_of_le hn1, fun k hk => ?_⟩, ⟨?_, hst.defers, ⟨fun k blk hb => ?_, fun k k' blk blk' hkk hb hb' b hF hF' => ?_⟩, fun k blk hb b hF => ?_, fun k blk hb b hF => ?_, hst.os, hst.tape, hst.output, hst.size, hst.block, hst.le⟩⟩
  · show f < nx + 1
    rcases hf with hf | rfl
    · have := hV f hf; omega
    · omega
  · have e : ρ' k = ρ k := if_neg (by omega)
    rw [e]; exact hn0.2 k hk
  · have := (hst.slots.mono fun _ _ => SVr.mono hVm).set t hr'
    rwa [hset] at this
  · rw [hH] at hb
    split at hb
    · rename_i e; subst e; cases hb
      rw [hρn]
      exact ⟨.inr rfl, hro.keep hVm fun _ _ => rfl, hsg⟩
    · obtain ⟨h1, h2, h3⟩ := hst.mem.dom k blk hb
      rw [hρ k h1]
      exact ⟨.inl h1, h2.keep hVm fun _ _ => rfl, h3⟩
  · rw [hH] at hb hb'
    split at hb
    · cases hb; exact hF.elim
    · rw [hρ k (hst.mem.dom k blk hb).1] at hF
      split at hb'
      · rename_i e; subst e; cases hb'
        rw [hρn] at hF'
        by_cases e : k = g
        · subst e; rw [hg] at hb; cases hb; exact hF.elim
        · exact hst.mem.sep k g _ _ e hb hg b hF hF'
      · rw [hρ k' (hst.mem.dom k' blk' hb').1] at hF'
        exact hst.mem.sep k k' _ _ hkk hb hb' b hF hF'
  · rw [hH] at hb
    split at hb
    · cases hb; exact hF.elim
    · rw [hρ k (hst.mem.dom k blk hb).1] at hF
      exact hst.base k blk hb b hF
  · rw [hH] at hb
    split at hb
    · rename_i e; subst e; cases hb
      rw [hρn] at hF
      exact hst.foot g _ hg b hF
    · rw [hρ k (hst.mem.dom k blk hb).1] at hF
      exact hst.foot k blk hb b hF

theorem wk_nm {n0 : Nat} {sl : List SV} {H : Heap} {nx g T : Nat} {es : List (List DC)} (hg : hget H g = some (.nst T es none)) : Wk n0 (sl, H, nx) (sl, hput H g (some (.mix T es)), nx) := by
  rintro X a w hX ⟨V, ρ, hV, hn0, hst⟩
  obtain ⟨hVg, ⟨q, N⟩, hsg⟩ := hst.mem.dom g _ hg
  have hH : ∀ k, hget (hput H g (some (.mix T es))) k = if k = g then some (.mix T es) else hget H k := hget_hput H g _
  have hmix : Holds V ρ w (ρ g) (.mix T es) := by
    refine ⟨N.off, N.cap, N.le, N.sz, N.nil, fun b hb => ?_⟩
    obtain ⟨h1, cur, h2, h3, h4⟩ := N.cells b hb
    refine ⟨h1, cur, h2, h3, fun i e j c hi hj => ?_⟩
    obtain ⟨u, h5, h6⟩ := h4 i e j c hi hj
    refine ⟨u, h5, ?_⟩
    have h6 : Cel w (q i j) c u := h6
    cases c with
    | v x => obtain ⟨rfl, hx⟩ := h6; exact .v hx
    | sl T' sz d => obtain ⟨g1, g2, rfl⟩ := h6; exact g2.rd g1 fun b hb => N.sub i j b hb
  have hex : ∀ b, (Blk.mix T es).exc (ρ g) b → (ρ g).F b := fun b hb => (N.cells b hb).1
  refine ⟨V, ρ, hV, hn0, ⟨hst.slots, hst.defers, ⟨fun k blk hb => ?_, fun k k' blk blk' hkk hb hb' b hF hF' => ?_⟩, fun k blk hb b hF => ?_, fun k blk hb b hF => ?_, hst.os, hst.tape, hst.output, hst.size, hst.block, hst.le⟩⟩
  · rw [hH] at hb
    split at hb
    · rename_i e; subst e; cases hb; exact ⟨hVg, hmix, hsg⟩
    · exact hst.mem.dom k blk hb
  · rw [hH] at hb hb'
    split at hb
    · rename_i e; subst e; cases hb
      split at hb'
      · rename_i e; exact absurd e.symm hkk
      · exact hst.mem.sep k k' _ _ hkk hg hb' b (hex b hF) hF'
    · split at hb'
      · rename_i e; subst e
        exact hst.mem.sep k k' _ _ hkk hb hg b hF hF'
      · exact hst.mem.sep k k' _ _ hkk hb hb' b hF hF'
  · rw [hH] at hb
    split at hb
    · rename_i e; subst e; cases hb
      exact hst.base k _ hg b (hex b hF)
    · exact hst.base k blk hb b hF
  · rw [hH] at hb
    split at hb
    · rename_i e; subst e
      exact hst.foot k _ hg b hF
    · exact hst.foot k blk hb b hF

end Go.Proofs.Ytfnhchcgieeedaa
