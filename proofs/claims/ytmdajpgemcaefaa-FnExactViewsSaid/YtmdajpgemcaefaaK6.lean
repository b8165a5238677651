/-
  Contracts: new runs. No conditions of its own.
-/
import Derived.Test.YtmdajpgemcaefaaK5
namespace Go.Proofs.Ytmdajpgemcaefaa
set_option linter.unusedSimpArgs false
set_option linter.unusedVariables false
open Go.RowKit

def edgeFe (j : JobD) (l : List EdgeD) (e : EdgeD) : Int := firstEdge j e.From e.To (degN l l.length e.From.toNat)
def fvTo (j : JobD) (k : Nat) : List Int := (List.range k).map fun (v : Nat) => firstVal j (v : Int)
theorem fvTo_len (j : JobD) (k : Nat) : (fvTo j k).length = k := by simp [fvTo]
theorem fvTo_succ (j : JobD) (k : Nat) : fvTo j (k + 1) = fvTo j k ++ [firstVal j (k : Int)] := by simp [fvTo, List.range_succ]
def feTo (j : JobD) (l : List EdgeD) (k : Nat) : List Int := (l.take k).map (edgeFe j l)
theorem feTo_len (j : JobD) (l : List EdgeD) (k : Nat) (h : k ≤ l.length) : (feTo j l k).length = k := by simp [feTo]; omega
theorem feTo_succ (j : JobD) (l : List EdgeD) (k : Nat) (h : k < l.length) : feTo j l (k + 1) = feTo j l k ++ [edgeFe j l l[k]] := by
  unfold feTo
  rw [List.take_succ_eq_append_getElem h, List.map_append]
  rfl
theorem feTo_end (j : JobD) (l : List EdgeD) : feTo j l l.length = l.map (edgeFe j l) := by simp [feTo]
theorem outDegs_get {g : GraphD} (h : graphOk g = true) (v : Nat) (hv : v < (outDegs g).length) : (outDegs g)[v] = (degN g.Edges g.Edges.length v : Int) := by
  have e : outDegs g = (List.range g.N.toNat).map fun v => (degN g.Edges g.Edges.length v : Int) := by unfold outDegs; rw [if_pos h]
  simp [e]

def runNew (g : GraphD) (j : JobD) : RunD :=
  if graphOk g && jobOk g.N j then ⟨j, 0, g.N == 0, fvTo j g.N.toNat, feTo j g.Edges g.Edges.length, ⟨g.N, newL g.N true⟩⟩ else ⟨⟨0, 0⟩, 0, false, [], [], ⟨0, []⟩⟩

theorem runNew_small (g : GraphD) (j : JobD) : (runNew g j).Vals.length ≤ 400 ∧ (runNew g j).EVals.length ≤ 400 ∧ (runNew g j).Next.Bits.length ≤ 400 := by
  unfold runNew
  cases ho : (graphOk g && jobOk g.N j) with
  | false => simp
  | true =>
    rw [Bool.and_eq_true] at ho
    obtain ⟨h1, h2, h3, _⟩ := graphOk_in ho.1
    rw [if_pos rfl]
    dsimp only
    rw [fvTo_len, feTo_len _ _ _ (Nat.le_refl _)]
    obtain ⟨m, hm⟩ := Int.eq_ofNat_of_zero_le h1
    rw [hm] at h2 ⊢
    rw [newL_in (by omega), fullTo_len]
    exact ⟨by simp; omega, h3, by omega⟩

end Go.Proofs.Ytmdajpgemcaefaa
