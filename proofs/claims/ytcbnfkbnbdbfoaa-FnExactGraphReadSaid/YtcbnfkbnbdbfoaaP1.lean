/-
  Shards encoded: plain. No conditions of its own.
-/
import Derived.Test.YtcbnfkbnbdbfoaaMNA
import Derived.Test.YtcbnfkbnbdbfoaaC1
namespace Go.Proofs.Ytcbnfkbnbdbfoaa
set_option linter.unusedSimpArgs false
set_option linter.unusedVariables false
set_option linter.unusedSimpArgs false
set_option linter.unusedVariables false
set_option linter.defProp false
open Go.RowKit

def zigN (n : Int) : Nat := if 0 ≤ n then (2 * n).toNat else (-2 * n - 1).toNat
theorem zigN_y {n : Int} (h : 0 ≤ n) : ((zigN n : Nat) : Int) = 2 * n := by unfold zigN; rw [if_pos h]; omega
theorem zigN_n {n : Int} (h : n < 0) : ((zigN n : Nat) : Int) = -2 * n - 1 := by unfold zigN; rw [if_neg (by omega)]; omega
theorem zigN_le {n : Int} {b : Nat} (h : -(b : Int) ≤ n ∧ n ≤ b) : zigN n ≤ 2 * b := by
  unfold zigN
  split <;> omega

/-- An edge behind another one, encoded. -/
def sEB (z y : SEdgeD) : List UInt8 := varB (y.From - z.From).toNat ++ varB (zigN (y.To - z.To)) ++ varB y.W.toNat ++ varB (zigN (y.Index - z.Index))
def edB : SEdgeD → List SEdgeD → List UInt8
  | _, [] => []
  | z, y :: l => sEB z y ++ edB y l
def lastAt (z : SEdgeD) (l : List SEdgeD) : Nat → SEdgeD
  | 0 => z
  | k + 1 => l.getD k z
theorem lastAt_succ {z : SEdgeD} {l : List SEdgeD} {k : Nat} (h : k < l.length) : lastAt z l (k + 1) = l[k] := by
  show l.getD k z = l[k]
  rw [List.getD_eq_getElem?_getD, List.getElem?_eq_getElem h]; rfl
theorem edB_snoc : ∀ (z : SEdgeD) (l : List SEdgeD) (k : Nat) (h : k < l.length), edB z (l.take (k + 1)) = edB z (l.take k) ++ sEB (lastAt z l k) l[k]
  | z, y :: l, 0, h => by simp [edB, lastAt]
  | z, y :: l, k + 1, h => by
    have hk : k < l.length := by simpa using h
    have ih := edB_snoc y l k hk
    have e : lastAt y l k = lastAt z (y :: l) (k + 1) := by
      rw [lastAt_succ (by simp; omega)]
      cases k with
      | zero => rfl
      | succ k => rw [lastAt_succ (by omega)]; rfl
    simp only [List.take_succ_cons, edB, List.getElem_cons_succ, ih, e, List.append_assoc]
def s0 (s : ShardD) : SEdgeD := ⟨0, s.Lo, 0, 0, 0⟩
def shH (s : ShardD) : List UInt8 := varB s.Lo.toNat ++ varB s.Hi.toNat ++ varB s.Edges.length
def shB (s : ShardD) : List UInt8 := shH s ++ edB (s0 s) s.Edges
theorem shH_len {s : ShardD} (h : shHead s) : (shH s).length ≤ 21 := by
  unfold shHead at h
  have w1 := varB_len7 (n := s.Lo.toNat) (by omega)
  have w2 := varB_len7 (n := s.Hi.toNat) (by omega)
  have w3 := varB_len7 (n := s.Edges.length) (by omega)
  unfold shH
  rw [List.length_append, List.length_append]; omega
structure Stp (z y : SEdgeD) : Prop where
  f : 0 ≤ y.From - z.From ∧ y.From - z.From ≤ 150
  t : -150 ≤ y.To - z.To ∧ y.To - z.To ≤ 150
  w : 0 ≤ y.W ∧ y.W ≤ 1000
  i : -400 ≤ y.Index - z.Index ∧ y.Index - z.Index ≤ 400
theorem stp_of {s : ShardD} (h : ShOk s) : ∀ {k : Nat} (hk : k < s.Edges.length), Stp (lastAt (s0 s) s.Edges k) s.Edges[k]
  | 0, hk => by
    have a := (h.2 0 hk hk).1
    have hh := h.1
    unfold shHead at hh
    unfold edOk at a
    exact ⟨by simp only [lastAt, s0]; omega, by simp only [lastAt, s0]; omega, by omega, by simp only [lastAt, s0]; omega⟩
  | k + 1, hk => by
    have a := (h.2 (k + 1) hk hk).1
    have b := (h.2 k (by omega) (by omega)).1
    have c : ordOk s.Edges[k] s.Edges[k + 1] := (h.2 (k + 1) hk hk).2 (by omega)
    have hh := h.1
    unfold shHead at hh
    unfold edOk at a b
    unfold ordOk at c
    rw [lastAt_succ (by omega)]
    exact ⟨by omega, by omega, by omega, by omega⟩
theorem sEB_len {z y : SEdgeD} (h : Stp z y) : (sEB z y).length ≤ 28 := by
  obtain ⟨h1, h2, h3, h4⟩ := h
  have z1 := zigN_le (n := y.To - z.To) (b := 150) (by omega)
  have z2 := zigN_le (n := y.Index - z.Index) (b := 400) (by omega)
  have w1 := varB_len7 (n := (y.From - z.From).toNat) (by omega)
  have w2 := varB_len7 (n := zigN (y.To - z.To)) (by omega)
  have w3 := varB_len7 (n := y.W.toNat) (by omega)
  have w4 := varB_len7 (n := zigN (y.Index - z.Index)) (by omega)
  unfold sEB
  simp only [List.length_append]; omega
theorem edB_len {s : ShardD} (h : ShOk s) : ∀ k, k ≤ s.Edges.length → (edB (s0 s) (s.Edges.take k)).length ≤ 28 * k
  | 0, _ => by simp [edB]
  | k + 1, hk => by
    have ih := edB_len h k (by omega)
    have := sEB_len (stp_of h (k := k) (by omega))
    rw [edB_snoc _ _ _ (by omega), List.length_append]; omega
theorem shB_len {s : ShardD} (h : ShOk s) : (shB s).length ≤ 21 + 28 * s.Edges.length := by
  have a := shH_len h.1
  have b := edB_len h s.Edges.length (Nat.le_refl _)
  rw [List.take_length] at b
  unfold shB
  rw [List.length_append]; omega

end Go.Proofs.Ytcbnfkbnbdbfoaa
