/-
  The engine, eighteenth part: regions that draw their order. No conditions of its own.
-/
import Derived.Test.YtmdajpgemcaefaaE17
import Derived.Orders
namespace Go.Proofs.Ytmdajpgemcaefaa
set_option linter.unusedSimpArgs false
set_option linter.unusedVariables false
open Go.RowKit

section
variable {κ ν : Type}

/-- What a key holds behind the first k steps, those of L alone. -/
def folds (W : Nat → κ → Option ν) (b : κ → ν) (L : Nat → Bool) : Nat → κ → ν
  | 0, x => b x
  | k + 1, x => if L k then (W k x).getD (folds W b L k x) else folds W b L k x

theorem folds_agree {W : Nat → κ → Option ν} {b : κ → ν} {L L' : Nat → Bool} {x : κ} : ∀ {k : Nat}, (∀ j, j < k → W j x = none ∨ L j = L' j) → folds W b L k x = folds W b L' k x
  | 0, _ => rfl
  | k + 1, h => by
    have ih := folds_agree (W := W) (b := b) (L := L) (L' := L') (x := x) (k := k) fun j hj => h j (by omega)
    simp only [folds, ih]
    rcases h k (by omega) with h1 | h1
    · simp [h1]
    · rw [h1]

theorem folds_more {W : Nat → κ → Option ν} {b : κ → ν} {L : Nat → Bool} {x : κ} {k : Nat} : ∀ (m : Nat), k ≤ m → (∀ j, k ≤ j → j < m → W j x = none ∨ L j = false) → folds W b L m x = folds W b L k x
  | 0, hk, _ => by rw [Nat.le_zero.1 hk]
  | m + 1, hk, h => by
    rcases Nat.lt_or_ge m k with h1 | h1
    · have : k = m + 1 := by omega
      rw [this]
    · rw [← folds_more m h1 fun j h2 h3 => h j h2 (by omega)]
      simp only [folds]
      rcases h m h1 (by omega) with h2 | h2 <;> simp [h2]

theorem folds_ins {W : Nat → κ → Option ν} {b : κ → ν} {L L' : Nat → Bool} {x : κ} {i m : Nat} (hi : i < m) (hL : L i = false) (hL' : L' i = true) (he : ∀ j, j ≠ i → L' j = L j) (h : ∀ j, i < j → j < m → L j = true → W j x = none ∨ W i x = none) :
    folds W b L' m x = (W i x).getD (folds W b L m x) := by
  cases hw : W i x with
  | none =>
    refine folds_agree fun j hj => ?_
    by_cases hji : j = i
    · subst hji; exact .inl hw
    · exact .inr (he j hji)
  | some v =>
    have h1 : folds W b L' m x = folds W b L' (i + 1) x := folds_more m hi fun j h1 h2 => by
      by_cases hl : L j = true
      · rcases h j (by omega) h2 hl with h3 | h3
        · exact .inl h3
        · rw [hw] at h3; cases h3
      · exact .inr (by rw [he j (by omega)]; simpa using hl)
    rw [h1]
    simp [folds, hL', hw]
end

def maskOf (acc : List Nat) (o : Oper) : Nat := o.after.toList.foldl (fun s e => if Region.binds .any e then s ||| (2 ^ e.on ||| acc.getD e.on 0) else s) 0

def masks : List Oper → List Nat → List Nat
  | [], acc => acc
  | o :: l, acc => masks l (acc ++ [maskOf acc o])

theorem maskOf_bit {acc : List Nat} {o : Oper} {j : Nat} (h : (maskOf acc o).testBit j = true) : ∃ e ∈ o.after, Region.binds .any e = true ∧ (e.on = j ∨ (acc.getD e.on 0).testBit j = true) := by
  unfold maskOf at h
  have key : ∀ (l : List Edge) (s : Nat), (l.foldl (fun s e => if Region.binds .any e then s ||| (2 ^ e.on ||| acc.getD e.on 0) else s) s).testBit j = true →
      s.testBit j = true ∨ ∃ e ∈ l, Region.binds .any e = true ∧ (e.on = j ∨ (acc.getD e.on 0).testBit j = true) := by
    intro l
    induction l with
    | nil => intro s h; exact .inl h
    | cons e l ih =>
      intro s h
      rw [List.foldl_cons] at h
      rcases ih _ h with h1 | ⟨e', h1, h2⟩
      · split at h1
        · rename_i hb
          rw [Nat.testBit_or, Nat.testBit_or, Bool.or_eq_true, Bool.or_eq_true] at h1
          rcases h1 with h1 | h1 | h1
          · exact .inl h1
          · rw [Nat.testBit_two_pow] at h1
            exact .inr ⟨e, by simp, hb, .inl (by simpa using h1)⟩
          · exact .inr ⟨e, by simp, hb, .inr h1⟩
        · exact .inl h1
      · exact .inr ⟨e', by simp [h1], h2⟩
  rcases key o.after.toList 0 h with h1 | ⟨e, h1, h2⟩
  · simp at h1
  · exact ⟨e, by simpa using h1, h2⟩

theorem masks_closed {L : Nat → Prop} : ∀ (l : List Oper) (acc : List Nat), (∀ i j, L i → (acc.getD i 0).testBit j = true → L j) → (∀ i o e, l[i]? = some o → L (acc.length + i) → e ∈ o.after → Region.binds .any e = true → L e.on) →
    ∀ i j, L i → ((masks l acc).getD i 0).testBit j = true → L j
  | [], acc, h, _ => h
  | o :: l, acc, h, hc => by
    refine masks_closed l (acc ++ [maskOf acc o]) (fun i j hi hb => ?_) (fun i o' e ho hi he hb => hc (i + 1) o' e (by simpa using ho) (by simpa [Nat.add_assoc, Nat.add_comm 1] using hi) he hb)
    by_cases hlt : i < acc.length
    · rw [List.getD_eq_getElem?_getD, List.getElem?_append_left hlt, ← List.getD_eq_getElem?_getD] at hb
      exact h i j hi hb
    · by_cases heq : i = acc.length
      · subst heq
        rw [List.getD_eq_getElem?_getD, List.getElem?_append_right (Nat.le_refl _)] at hb
        simp at hb
        obtain ⟨e, h1, h2, h3⟩ := maskOf_bit hb
        have he := hc 0 o e rfl (by simpa using hi) h1 h2
        rcases h3 with rfl | h3
        · exact he
        · exact h _ j he h3
      · rw [List.getD_eq_getElem?_getD, List.getElem?_eq_none (by simp; omega)] at hb
        simp at hb

/-- only what the operation looks at -/
def tmpOf : Operand → Option Nat
  | .tmp t => some t
  | _ => none

def onOps (o : Oper) (ev : Operand → SV) : Operand → SV
  | .tmp t => if (o.op.operands.toList.filterMap tmpOf).contains t then ev (.tmp t) else .any
  | x => ev x

def keysOf (e : Eff) : List Nat := e.wr.map (·.1)

def famsApart : Option Eff → Option Eff → Bool
  | some e, some e' => (keysOf e).all (fun f => !e'.rd.contains f && !(keysOf e').contains f) && (keysOf e').all fun f => !e.rd.contains f
  | _, _ => true

def pairsOK (ops : Array Oper) (ms : List Nat) : Nat → List Oper → List (Option Eff) → Bool
  | i, o :: l, r :: rs => (goJ o r i (i + 1) l rs) && pairsOK ops ms (i + 1) l rs
  | _, _, _ => true
where
  goJ (o : Oper) (r : Option Eff) (i : Nat) : Nat → List Oper → List (Option Eff) → Bool
    | j, o' :: l, r' :: rs => ((ms.getD j 0).testBit i || (o.apart ops o' && famsApart r r')) && goJ o r i (j + 1) l rs
    | _, _, _ => true

/-- The edges go back, and no two operations that no edges order stand in each other's way. -/
def indep (ops : Array Oper) (rs : List (Option Eff)) : Bool :=
  (ops.toList.zipIdx.all fun p => p.1.after.all fun e => !Region.binds .any e || e.on < p.2) && pairsOK ops (masks ops.toList []) 0 ops.toList rs

theorem goJ_spec {ops : Array Oper} {ms : List Nat} {o : Oper} {r : Option Eff} {i : Nat} : ∀ (j : Nat) (l : List Oper) (rs : List (Option Eff)), pairsOK.goJ ops ms o r i j l rs = true → ∀ k o' r', l[k]? = some o' → rs[k]? = some r' →
    (ms.getD (j + k) 0).testBit i = true ∨ (o.apart ops o' = true ∧ famsApart r r' = true)
  | j, o' :: l, r' :: rs, h, 0, _, _, h1, h2 => by
    simp at h1 h2; subst h1 h2
    simp only [pairsOK.goJ, Bool.and_eq_true, Bool.or_eq_true] at h
    exact h.1
  | j, o' :: l, r' :: rs, h, k + 1, _, _, h1, h2 => by
    simp only [pairsOK.goJ, Bool.and_eq_true] at h
    have := goJ_spec (j + 1) l rs h.2 k _ _ (by simpa using h1) (by simpa using h2)
    rwa [show j + 1 + k = j + (k + 1) by omega] at this
  | j, [], rs, h, k, _, _, h1, h2 => by simp at h1
  | j, _ :: _, [], h, k, _, _, h1, h2 => by simp at h2

theorem pairsOK_spec {ops : Array Oper} {ms : List Nat} : ∀ (i : Nat) (l : List Oper) (rs : List (Option Eff)), pairsOK ops ms i l rs = true → ∀ k k' o r o' r', k < k' → l[k]? = some o → rs[k]? = some r → l[k']? = some o' → rs[k']? = some r' →
    (ms.getD (i + k') 0).testBit (i + k) = true ∨ (o.apart ops o' = true ∧ famsApart r r' = true)
  | i, o :: l, r :: rs, h, 0, k' + 1, _, _, o', r', _, h1, h2, h3, h4 => by
    simp at h1 h2; subst h1 h2
    simp only [pairsOK, Bool.and_eq_true] at h
    have := goJ_spec (i + 1) l rs h.1 k' _ _ (by simpa using h3) (by simpa using h4)
    rwa [show i + 1 + k' = i + (k' + 1) by omega] at this
  | i, o :: l, r :: rs, h, k + 1, k' + 1, _, _, o', r', hlt, h1, h2, h3, h4 => by
    simp only [pairsOK, Bool.and_eq_true] at h
    have := pairsOK_spec (i + 1) l rs h.2 k k' _ _ _ _ (by omega) (by simpa using h1) (by simpa using h2) (by simpa using h3) (by simpa using h4)
    rwa [show i + 1 + k' = i + (k' + 1) by omega, show i + 1 + k = i + (k + 1) by omega] at this
  | i, _, _, h, k, 0, _, _, _, _, hlt, _, _, _, _ => by omega
  | i, [], rs, h, k, k' + 1, _, _, _, _, _, h1, _, _, _ => by simp at h1
  | i, _ :: _, [], h, k, k' + 1, _, _, _, _, _, _, h2, _, _ => by simp at h2

end Go.Proofs.Ytmdajpgemcaefaa
