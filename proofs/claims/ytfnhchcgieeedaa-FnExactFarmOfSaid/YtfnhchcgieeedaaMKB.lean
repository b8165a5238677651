/-
  The engine, texts K5 K6 in one. No conditions of its own.
-/
import Derived.Test.YtfnhchcgieeedaaGO
import Derived.Test.YtfnhchcgieeedaaMKA
namespace Go.Proofs.Ytfnhchcgieeedaa
set_option linter.unusedSimpArgs false
set_option linter.unusedVariables false
set_option linter.unusedSimpArgs false
set_option linter.unusedVariables false
set_option linter.defProp false
open Go.RowKit

def firstVal (j : JobD) (v : Int) : Int :=
  if ¬ (0 ≤ v ∧ v < 150) then 0 else if j.Prog = 1 then 1048576 else if j.Prog = 2 ∨ j.Prog = 4 then v else if j.Prog = 3 ∧ v ≠ j.Src then 1099511627776 else 0
def firstEdge (j : JobD) (f t d : Int) : Int :=
  if ¬ (0 ≤ f ∧ f < 150 ∧ 0 ≤ t ∧ t < 150 ∧ 1 ≤ d ∧ d ≤ 400) then 0 else if j.Prog = 1 then 1048576 / d else if j.Prog = 2 ∨ j.Prog = 3 then 1099511627776 else if j.Prog = 4 then f * 1000 + t else 0

/-! Degrees. -/

def degN (l : List EdgeD) (k : Nat) (v : Nat) : Nat := (l.take k).countP fun e => decide (e.From = (v : Int))
def degRow (n : Nat) (l : List EdgeD) (k : Nat) : List (List DC) := (List.range n).map fun v => [.v (.int .i64 (degN l k v : Int))]
def outDegs (g : GraphD) : List Int := if graphOk g then (List.range g.N.toNat).map fun v => (degN g.Edges g.Edges.length v : Int) else []

theorem degN_le (l : List EdgeD) (k v : Nat) : degN l k v ≤ k := by
  unfold degN
  exact Nat.le_trans List.countP_le_length (by simp; omega)
theorem degN_succ (l : List EdgeD) (k v : Nat) (h : k < l.length) : degN l (k + 1) v = degN l k v + (if l[k].From = (v : Int) then 1 else 0) := by
  unfold degN
  rw [List.take_succ_eq_append_getElem h, List.countP_append]
  simp [List.countP_cons]
theorem degRow_zero (n : Nat) (l : List EdgeD) : degRow n l 0 = List.replicate n [DC.v (.int .i64 0)] := by
  apply List.ext_getElem
  · simp [degRow]
  · intro i h1 h2
    simp [degRow, degN]
theorem degRow_len (n : Nat) (l : List EdgeD) (k : Nat) : (degRow n l k).length = n := by simp [degRow]
theorem degRow_get (n : Nat) (l : List EdgeD) (k v : Nat) (h : v < (degRow n l k).length) : (degRow n l k)[v] = [.v (.int .i64 (degN l k v : Int))] := by simp [degRow]
theorem degRow_set (n : Nat) (l : List EdgeD) (k v : Nat) (h : k < l.length) (hv : l[k].From = (v : Int)) (hn : v < n) : (degRow n l k).set v [.v (.int .i64 ((degN l k v : Int) + 1))] = degRow n l (k + 1) := by
  apply List.ext_getElem
  · simp [degRow]
  · intro i h1 h2
    rw [List.getElem_set]
    simp only [degRow, List.getElem_map, List.getElem_range]
    rw [degN_succ l k i h, hv]
    by_cases hi : v = i
    · subst hi; simp
    · rw [if_neg hi, if_neg (by omega)]; simp
theorem degRow_out (g : GraphD) (h : graphOk g = true) : degRow g.N.toNat g.Edges g.Edges.length = (outDegs g).map intK := by
  unfold outDegs degRow
  rw [if_pos h, List.map_map]
  rfl

theorem graphOk_in {g : GraphD} (h : graphOk g = true) : 0 ≤ g.N ∧ g.N ≤ 150 ∧ g.Edges.length ≤ 400 ∧ ∀ k (hk : k < g.Edges.length), 0 ≤ g.Edges[k].From ∧ g.Edges[k].From < g.N ∧ 0 ≤ g.Edges[k].To ∧ g.Edges[k].To < g.N ∧ 0 ≤ g.Edges[k].W ∧ g.Edges[k].W ≤ 1000 := by
  unfold graphOk at h
  simp only [Bool.and_eq_true, decide_eq_true_eq, List.all_eq_true] at h
  refine ⟨h.1.1, h.1.2.1, h.1.2.2, fun k hk => ?_⟩
  have := h.2 _ (List.getElem_mem hk)
  unfold edgeOk at this
  rw [decide_eq_true_eq] at this
  exact this

end Go.Proofs.Ytfnhchcgieeedaa

namespace Go.Proofs.Ytfnhchcgieeedaa
set_option linter.unusedSimpArgs false
set_option linter.unusedVariables false
set_option linter.defProp false
open Go.RowKit

def edgeFe (j : JobD) (l : List EdgeD) (e : EdgeD) : Int := firstEdge j e.From e.To (degN l l.length e.From.toNat)
def fvTo (j : JobD) (k : Nat) : List Int := (List.range k).map fun (v : Nat) => firstVal j (v : Int)
theorem fvTo_len (j : JobD) (k : Nat) : (fvTo j k).length = k := by simp [fvTo]
theorem fvTo_succ (j : JobD) (k : Nat) : fvTo j (k + 1) = fvTo j k ++ [firstVal j (k : Int)] := by simp [fvTo, List.range_succ]
def feTo (j : JobD) (l : List EdgeD) (k : Nat) : List Int := (l.take k).map (edgeFe j l)
theorem feTo_len (j : JobD) (l : List EdgeD) (k : Nat) (h : k ≤ l.length) : (feTo j l k).length = k := by simp [feTo]; omega
theorem feTo_succ (j : JobD) (l : List EdgeD) (k : Nat) (h : k < l.length) : feTo j l (k + 1) = feTo j l k ++ [edgeFe j l l[k]] := by
  unfold feTo
  rw [List.take_succ_eq_append_getElem h, List.map_append]
  rfl
theorem feTo_end (j : JobD) (l : List EdgeD) : feTo j l l.length = l.map (edgeFe j l) := by simp [feTo]
theorem outDegs_get {g : GraphD} (h : graphOk g = true) (v : Nat) (hv : v < (outDegs g).length) : (outDegs g)[v] = (degN g.Edges g.Edges.length v : Int) := by
  have e : outDegs g = (List.range g.N.toNat).map fun v => (degN g.Edges g.Edges.length v : Int) := by unfold outDegs; rw [if_pos h]
  simp [e]

def runNew (g : GraphD) (j : JobD) : RunD :=
  if graphOk g && jobOk g.N j then ⟨j, 0, g.N == 0, fvTo j g.N.toNat, feTo j g.Edges g.Edges.length, ⟨g.N, newL g.N true⟩⟩ else ⟨⟨0, 0⟩, 0, false, [], [], ⟨0, []⟩⟩

theorem runNew_small (g : GraphD) (j : JobD) : (runNew g j).Vals.length ≤ 400 ∧ (runNew g j).EVals.length ≤ 400 ∧ (runNew g j).Next.Bits.length ≤ 400 := by
  unfold runNew
  cases ho : (graphOk g && jobOk g.N j) with
  | false => simp
  | true =>
    rw [Bool.and_eq_true] at ho
    obtain ⟨h1, h2, h3, _⟩ := graphOk_in ho.1
    rw [if_pos rfl]
    dsimp only
    rw [fvTo_len, feTo_len _ _ _ (Nat.le_refl _)]
    obtain ⟨m, hm⟩ := Int.eq_ofNat_of_zero_le h1
    rw [hm] at h2 ⊢
    rw [newL_in (by omega), fullTo_len]
    exact ⟨by simp; omega, h3, by omega⟩

end Go.Proofs.Ytfnhchcgieeedaa
