/-
  Contracts: a commit is read. No conditions of its own.
-/
import Derived.Test.YtcbnfkbnbdbfoaaGO
import Derived.Test.YtcbnfkbnbdbfoaaR6
namespace Go.Proofs.Ytcbnfkbnbdbfoaa
set_option linter.unusedSimpArgs false
set_option linter.unusedVariables false
set_option linter.unusedSimpArgs false
set_option linter.unusedVariables false
set_option linter.defProp false
open Go.RowKit

def iS (b : List UInt8) : Nat → RdS
  | 0 => ⟨0, true⟩
  | k + 1 => numS b (iS b k)
def tS (b : List UInt8) : Nat → RdS
  | 0 => ⟨0, true⟩
  | k + 1 => varS b (tS b k)

theorem iS_le (b : List UInt8) : ∀ k, (iS b k).p ≤ b.length
  | 0 => Nat.zero_le _
  | k + 1 => numS_le (iS_le b k)
theorem tS_le (b : List UInt8) : ∀ k, (tS b k).p ≤ b.length
  | 0 => Nat.zero_le _
  | k + 1 => varS_le (tS_le b k)

theorem numS_bad {b : List UInt8} {s : RdS} (h : s.ok = false) : (numS b s).ok = false := by
  unfold numS; split
  · exact h
  · rfl
theorem varS_bad {b : List UInt8} {s : RdS} (h : s.ok = false) : (varS b s).ok = false := by
  unfold varS; rw [h, Bool.and_false]; rfl

theorem rd_both (b : List UInt8) : ∀ k, ((iS b k).ok = false ∧ (tS b k).ok = false) ∨ (iS b k = tS b k ∧ (iS b k).ok = true ∧ (∀ j, j < k → gvN b (iS b j).p = varN b (tS b j) ∧ 0 ≤ gvN b (iS b j).p ∧ gvN b (iS b j).p ≤ 281474976710655) ∧ b.take (iS b k).p = ((List.range k).map fun j => gvN b (iS b j).p).foldl pvL [])
  | 0 => .inr ⟨rfl, rfl, fun j h => absurd h (by omega), by simp [iS]⟩
  | k + 1 => by
    rcases rd_both b k with ⟨h1, h2⟩ | ⟨h1, h2, h3, h4⟩
    · exact .inl ⟨numS_bad h1, varS_bad h2⟩
    · cases hk : gvK b (iS b k).p with
      | false =>
        refine .inl ⟨?_, ?_⟩
        · show (numS b (iS b k)).ok = false
          unfold numS; rw [hk]; rfl
        · show (varS b (tS b k)).ok = false
          unfold varS; rw [← h1, hk]; rfl
      | true =>
        obtain ⟨n, m, _, e1, e2, hle, hn, hv⟩ := gv_facts hk
        have e3 : iS b (k + 1) = ⟨(iS b k).p + m, true⟩ := by
          show numS b (iS b k) = _
          unfold numS; rw [hk, e2, h2]; rfl
        have e4 : tS b (k + 1) = ⟨(iS b k).p + m, true⟩ := by
          show varS b (tS b k) = _
          unfold varS; rw [← h1, hk, e2, h2]; rfl
        have e5 : varN b (tS b k) = gvN b (iS b k).p := by
          unfold varN; rw [← h1, hk, h2]; rfl
        refine .inr ⟨by rw [e3, e4], by rw [e3], fun j hj => ?_, ?_⟩
        · by_cases hjk : j = k
          · subst hjk
            exact ⟨e5.symm, by omega, by omega⟩
          · exact h3 j (by omega)
        · rw [e3, List.range_succ, List.map_append, List.foldl_append, ← h4]
          simp only [List.map_cons, List.map_nil, List.foldl_cons, List.foldl_nil]
          rw [e1, (pvL_yes hn).1, hv, List.take_add]

theorem varB_head {n : Nat} (h : n ≠ 0) : (varB n).head? ≠ some 0 := by
  by_cases hn : n < 128
  · rw [varB_lt hn]
    intro e
    have := congrArg UInt8.toNat (Option.some.inj e)
    rw [UInt8.toNat_ofNat'] at this
    simp at this
    omega
  · rw [varB_ge hn]
    intro e
    have := congrArg UInt8.toNat (Option.some.inj e)
    rw [UInt8.toNat_ofNat'] at this
    simp at this
    omega

theorem varB_ne (n : Nat) : varB n ≠ [] := by
  by_cases hn : n < 128
  · rw [varB_lt hn]; simp
  · rw [varB_ge hn]; simp

/-- Numbers in range, one after the other. -/
theorem pvF_ap (ns : List Int) (h : ∀ n ∈ ns, 0 ≤ n ∧ n ≤ 281474976710655) : ∀ l, ns.foldl pvL l = l ++ ns.foldl pvL [] := by
  induction ns with
  | nil => intro l; simp
  | cons n ns ih =>
    intro l
    have ih := ih fun m hm => h m (List.mem_cons_of_mem _ hm)
    obtain ⟨h1, h2⟩ := h n (List.mem_cons_self ..)
    obtain ⟨m, rfl⟩ := Int.eq_ofNat_of_zero_le h1
    simp only [List.foldl_cons]
    rw [(pvL_yes (by omega)).1, (pvL_yes (by omega)).1, ih, ih ([] ++ varB m)]
    simp

theorem bit_law {b : List UInt8} {n1 n2 n3 n4 n5 : Int} {p : Nat} (h : ∀ n ∈ [n1, n2, n3, n4, n5], 0 ≤ n ∧ n ≤ 281474976710655) (hp : p ≤ b.length) (ht : b.take p = [n1, n2, n3, n4, n5].foldl pvL []) :
    [n1, n2, n3, bitI (n4 == 1), n5].foldl pvL [] = b ↔ p = b.length ∧ n4 ≤ 1 := by
  have h4 := h n4 (by simp)
  constructor
  · intro e
    by_cases hn : n4 ≤ 1
    · refine ⟨?_, hn⟩
      have e1 : bitI (n4 == 1) = n4 := by
        rcases (show n4 = 0 ∨ n4 = 1 by omega) with rfl | rfl <;> rfl
      rw [e1, ← ht] at e
      have := congrArg List.length e
      rw [List.length_take] at this
      omega
    · exfalso
      have e1 : bitI (n4 == 1) = 0 := by
        have : (n4 == 1) = false := by rw [beq_eq_false_iff_ne]; omega
        rw [this]; rfl
      rw [e1] at e
      have hA := fun l => pvF_ap [n4, n5] (fun n hn => h n (by simp at hn ⊢; omega)) l
      have hB := fun l => pvF_ap [0, n5] (fun n hn => by
        simp at hn
        rcases hn with rfl | rfl
        · omega
        · exact h _ (by simp)) l
      have e2 : [n1, n2, n3, n4, n5].foldl pvL [] = [n1, n2, n3].foldl pvL [] ++ [n4, n5].foldl pvL [] := by rw [← hA]; rfl
      have e3 : [n1, n2, n3, (0 : Int), n5].foldl pvL [] = [n1, n2, n3].foldl pvL [] ++ [0, n5].foldl pvL [] := by rw [← hB]; rfl
      have hC := fun l => pvF_ap [n5] (fun n hn => h n (by simp at hn ⊢; omega)) l
      have e4 : [n4, n5].foldl pvL [] = varB n4.toNat ++ [n5].foldl pvL [] := by
        rw [← hC]
        obtain ⟨m, rfl⟩ := Int.eq_ofNat_of_zero_le h4.1
        simp only [List.foldl_cons, List.foldl_nil]
        rw [(pvL_yes (l := []) (by omega)).1]
        rfl
      have e5 : [(0 : Int), n5].foldl pvL [] = 0 :: [n5].foldl pvL [] := by
        have : [(0 : Int), n5].foldl pvL [] = [n5].foldl pvL (pvL [] ((0 : Nat) : Int)) := rfl
        rw [this, (pvL_yes (by omega)).1, hC, varB_lt (by omega)]
        rfl
      rw [e2, e4] at ht
      rw [e3, e5] at e
      obtain ⟨q, hq⟩ : ∃ q, q = [n1, n2, n3].foldl pvL [] := ⟨_, rfl⟩
      rw [← hq] at ht e
      have hh := varB_head (n := n4.toNat) (by omega)
      obtain ⟨x, v, hv⟩ := List.exists_cons_of_ne_nil (varB_ne n4.toNat)
      rw [hv] at ht hh
      have f1 := congrArg (fun l : List UInt8 => l[q.length]?) ht
      simp only [List.getElem?_take, ← e, List.cons_append, List.getElem?_append_right (Nat.le_refl _), Nat.sub_self, List.getElem?_cons_zero] at f1
      split at f1
      · exact hh (by rw [← Option.some.inj f1]; rfl)
      · cases f1
  · rintro ⟨rfl, hn⟩
    have e1 : bitI (n4 == 1) = n4 := by
      rcases (show n4 = 0 ∨ n4 = 1 by omega) with rfl | rfl <;> rfl
    rw [e1, ← ht, List.take_length]

def crI (b : List UInt8) : CommitD := ⟨gvN b (iS b 0).p, gvN b (iS b 1).p, gvN b (iS b 2).p, gvN b (iS b 3).p == 1, gvN b (iS b 4).p⟩
def crS (b : List UInt8) : CommitD := ⟨varN b (tS b 0), varN b (tS b 1), varN b (tS b 2), varN b (tS b 3) == 1, varN b (tS b 4)⟩
def crK (b : List UInt8) : Bool := (iS b 5).ok && decide ((iS b 5).p = b.length) && decide (gvN b (iS b 3).p ≤ 1) && commitOk (crI b)
def crR (b : List UInt8) : CommitD := if crK b then crI b else ⟨0, 0, 0, false, 0⟩
def crT (b : List UInt8) : Bool := (tS b 5).ok && commitOk (crS b) && decide (datL (crS b) = b)

theorem cr_law (b : List UInt8) : crT b = crK b ∧ (crK b = true → crS b = crI b) := by
  unfold crT crK
  rcases rd_both b 5 with ⟨h1, h2⟩ | ⟨h1, h2, h3, h4⟩
  · rw [h1, h2]
    exact ⟨rfl, fun h => by cases h⟩
  · have e : crS b = crI b := by
      unfold crS crI
      rw [(h3 0 (by omega)).1, (h3 1 (by omega)).1, (h3 2 (by omega)).1, (h3 3 (by omega)).1, (h3 4 (by omega)).1]
    refine ⟨?_, fun _ => e⟩
    rw [e, ← h1, h2]
    have hb := bit_law (b := b) (p := (iS b 5).p) (n1 := gvN b (iS b 0).p) (n2 := gvN b (iS b 1).p) (n3 := gvN b (iS b 2).p) (n4 := gvN b (iS b 3).p) (n5 := gvN b (iS b 4).p) (fun n hn => by
      simp only [List.mem_cons, List.not_mem_nil, or_false] at hn
      rcases hn with rfl | rfl | rfl | rfl | rfl
      · exact (h3 0 (by omega)).2
      · exact (h3 1 (by omega)).2
      · exact (h3 2 (by omega)).2
      · exact (h3 3 (by omega)).2
      · exact (h3 4 (by omega)).2) (iS_le b 5) h4
    have hd : datL (crI b) = b ↔ (iS b 5).p = b.length ∧ gvN b (iS b 3).p ≤ 1 := hb
    cases commitOk (crI b) with
    | false => simp
    | true => simp only [Bool.and_true, Bool.true_and, hd, Bool.decide_and]

end Go.Proofs.Ytcbnfkbnbdbfoaa
