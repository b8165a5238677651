/-
  The farm of a graph has this graph. Plain, no conditions of its own.
-/
import Derived.Test.YtfdhdkljpeohlaaGreatMFR
import Derived.Test.YtfdhdkljpeohlaaGreatMCT
namespace Go.Proofs.YtfdhdkljpeohlaaGreat
set_option linter.unusedSimpArgs false
set_option linter.unusedVariables false
set_option linter.unusedSimpArgs false
set_option linter.unusedVariables false
set_option linter.defProp false
set_option maxRecDepth 20000
open Go.RowKit

theorem fgO_eq {g : GraphD} {b : Int} (h : cutOk g b = true) {size : Nat} (hs : 0 < size) : fgR (farmO g b size) = g := by
  obtain ⟨hf, hsum⟩ := farmO_ok h hs
  obtain ⟨hg, _, _⟩ := cutOk_out h
  have he := cut_ends h
  have hperm := shL_all hg he hs
  have e0 := fg_eq hf
  have hl := fgE_len hf
  rw [hsum] at hl
  have hN : (fgR (farmO g b size)).N = g.N := by rw [e0]; rfl
  have hE : (fgR (farmO g b size)).Edges = g.Edges := by
    apply List.ext_getElem hl
    intro i h1 h2
    obtain ⟨e, hm, hei⟩ := farm_all hf i (by rw [hsum]; exact h2)
    have hget := fg_get hf e hm
    have hm2 : e ∈ allE (shL g (cutL g b) (srtG g (cutL g b) size)) := hm
    obtain ⟨k, hk, rfl⟩ := List.mem_map.1 (hperm.subset hm2)
    rw [List.mem_range] at hk
    have es : seOf g (rcAt g (cutL g b) k) = ⟨g.Edges[k].From, g.Edges[k].To, g.Edges[k].W, (k : Int), 0⟩ := by
      have e : g.Edges.getD k edgeZ = g.Edges[k] := by rw [List.getD_eq_getElem?_getD, List.getElem?_eq_getElem hk]; rfl
      unfold seOf rcAt
      simp only [Int.toNat_natCast, e]
    rw [es] at hget hei
    dsimp only at hget hei
    obtain rfl : k = i := by omega
    rw [Int.toNat_natCast, List.getElem?_eq_getElem h1] at hget
    exact Option.some.inj hget
  generalize fgR (farmO g b size) = x at hN hE
  obtain ⟨n, l⟩ := x
  dsimp only at hN hE
  subst hN hE
  rfl
theorem fgM_eq {g : GraphD} {b size : Int} (h : fmOk g b size = true) : fgR (farmR g b size) = g ∧ FarmOk (farmR g b size) ∧ edSum (farmR g b size).Shards = g.Edges.length := by
  have e : farmR g b size = farmO g b size.toNat := by unfold farmR; rw [if_pos h]
  unfold fmOk at h
  rw [Bool.and_eq_true, decide_eq_true_eq] at h
  rw [e]
  exact ⟨fgO_eq h.1 (by omega), farmO_ok h.1 (by omega)⟩

end Go.Proofs.YtfdhdkljpeohlaaGreat

