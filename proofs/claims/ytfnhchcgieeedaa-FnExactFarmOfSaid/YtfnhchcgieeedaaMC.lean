/-
  The engine, texts E18 E19 E20 E21 E22 E23 E24 E25 E26 E27 in one. No conditions of its own.
-/
import Derived.Test.YtfnhchcgieeedaaMB
import Derived.Orders
import Derived.Deep.Slices
import Derived.Maps.RangeWalk
import Derived.Maps.OwnOps
namespace Go.Proofs.Ytfnhchcgieeedaa
set_option linter.unusedSimpArgs false
set_option linter.unusedVariables false
set_option linter.unusedSimpArgs false
set_option linter.unusedVariables false
set_option linter.defProp false
open Go.RowKit

section
variable {κ ν : Type}

/-- What a key holds behind the first k steps, those of L alone. -/
def folds (W : Nat → κ → Option ν) (b : κ → ν) (L : Nat → Bool) : Nat → κ → ν
  | 0, x => b x
  | k + 1, x => if L k then (W k x).getD (folds W b L k x) else folds W b L k x

theorem folds_agree {W : Nat → κ → Option ν} {b : κ → ν} {L L' : Nat → Bool} {x : κ} : ∀ {k : Nat}, (∀ j, j < k → W j x = none ∨ L j = L' j) → folds W b L k x = folds W b L' k x
  | 0, _ => rfl
  | k + 1, h => by
    have ih := folds_agree (W := W) (b := b) (L := L) (L' := L') (x := x) (k := k) fun j hj => h j (by omega)
    simp only [folds, ih]
    rcases h k (by omega) with h1 | h1
    · simp [h1]
    · rw [h1]

theorem folds_more {W : Nat → κ → Option ν} {b : κ → ν} {L : Nat → Bool} {x : κ} {k : Nat} : ∀ (m : Nat), k ≤ m → (∀ j, k ≤ j → j < m → W j x = none ∨ L j = false) → folds W b L m x = folds W b L k x
  | 0, hk, _ => by rw [Nat.le_zero.1 hk]
  | m + 1, hk, h => by
    rcases Nat.lt_or_ge m k with h1 | h1
    · have : k = m + 1 := by omega
      rw [this]
    · rw [← folds_more m h1 fun j h2 h3 => h j h2 (by omega)]
      simp only [folds]
      rcases h m h1 (by omega) with h2 | h2 <;> simp [h2]

theorem folds_ins {W : Nat → κ → Option ν} {b : κ → ν} {L L' : Nat → Bool} {x : κ} {i m : Nat} (hi : i < m) (hL : L i = false) (hL' : L' i = true) (he : ∀ j, j ≠ i → L' j = L j) (h : ∀ j, i < j → j < m → L j = true → W j x = none ∨ W i x = none) :
    folds W b L' m x = (W i x).getD (folds W b L m x) := by
  cases hw : W i x with
  | none =>
    refine folds_agree fun j hj => ?_
    by_cases hji : j = i
    · subst hji; exact .inl hw
    · exact .inr (he j hji)
  | some v =>
    have h1 : folds W b L' m x = folds W b L' (i + 1) x := folds_more m hi fun j h1 h2 => by
      by_cases hl : L j = true
      · rcases h j (by omega) h2 hl with h3 | h3
        · exact .inl h3
        · rw [hw] at h3; cases h3
      · exact .inr (by rw [he j (by omega)]; simpa using hl)
    rw [h1]
    simp [folds, hL', hw]
end

def maskOf (acc : List Nat) (o : Oper) : Nat := o.after.toList.foldl (fun s e => if Region.binds .any e then s ||| (2 ^ e.on ||| acc.getD e.on 0) else s) 0

def masks : List Oper → List Nat → List Nat
  | [], acc => acc
  | o :: l, acc => masks l (acc ++ [maskOf acc o])

theorem maskOf_bit {acc : List Nat} {o : Oper} {j : Nat} (h : (maskOf acc o).testBit j = true) : ∃ e ∈ o.after, Region.binds .any e = true ∧ (e.on = j ∨ (acc.getD e.on 0).testBit j = true) := by
  unfold maskOf at h
  have key : ∀ (l : List Edge) (s : Nat), (l.foldl (fun s e => if Region.binds .any e then s ||| (2 ^ e.on ||| acc.getD e.on 0) else s) s).testBit j = true →
      s.testBit j = true ∨ ∃ e ∈ l, Region.binds .any e = true ∧ (e.on = j ∨ (acc.getD e.on 0).testBit j = true) := by
    intro l
    induction l with
    | nil => intro s h; exact .inl h
    | cons e l ih =>
      intro s h
      rw [List.foldl_cons] at h
      rcases ih _ h with h1 | ⟨e', h1, h2⟩
      · split at h1
        · rename_i hb
          rw [Nat.testBit_or, Nat.testBit_or, Bool.or_eq_true, Bool.or_eq_true] at h1
          rcases h1 with h1 | h1 | h1
          · exact .inl h1
          · rw [Nat.testBit_two_pow] at h1
            exact .inr ⟨e, by simp, hb, .inl (by simpa using h1)⟩
          · exact .inr ⟨e, by simp, hb, .inr h1⟩
        · exact .inl h1
      · exact .inr ⟨e', by simp [h1], h2⟩
  rcases key o.after.toList 0 h with h1 | ⟨e, h1, h2⟩
  · simp at h1
  · exact ⟨e, by simpa using h1, h2⟩

theorem masks_closed {L : Nat → Prop} : ∀ (l : List Oper) (acc : List Nat), (∀ i j, L i → (acc.getD i 0).testBit j = true → L j) → (∀ i o e, l[i]? = some o → L (acc.length + i) → e ∈ o.after → Region.binds .any e = true → L e.on) →
    ∀ i j, L i → ((masks l acc).getD i 0).testBit j = true → L j
  | [], acc, h, _ => h
  | o :: l, acc, h, hc => by
    refine masks_closed l (acc ++ [maskOf acc o]) (fun i j hi hb => ?_) (fun i o' e ho hi he hb => hc (i + 1) o' e (by simpa using ho) (by simpa [Nat.add_assoc, Nat.add_comm 1] using hi) he hb)
    by_cases hlt : i < acc.length
    · rw [List.getD_eq_getElem?_getD, List.getElem?_append_left hlt, ← List.getD_eq_getElem?_getD] at hb
      exact h i j hi hb
    · by_cases heq : i = acc.length
      · subst heq
        rw [List.getD_eq_getElem?_getD, List.getElem?_append_right (Nat.le_refl _)] at hb
        simp at hb
        obtain ⟨e, h1, h2, h3⟩ := maskOf_bit hb
        have he := hc 0 o e rfl (by simpa using hi) h1 h2
        rcases h3 with rfl | h3
        · exact he
        · exact h _ j he h3
      · rw [List.getD_eq_getElem?_getD, List.getElem?_eq_none (by simp; omega)] at hb
        simp at hb

/-- only what the operation looks at -/
def tmpOf : Operand → Option Nat
  | .tmp t => some t
  | _ => none

def onOps (o : Oper) (ev : Operand → SV) : Operand → SV
  | .tmp t => if (o.op.operands.toList.filterMap tmpOf).contains t then ev (.tmp t) else .any
  | x => ev x

def keysOf (e : Eff) : List Nat := e.wr.map (·.1)

def famsApart : Option Eff → Option Eff → Bool
  | some e, some e' => (keysOf e).all (fun f => !e'.rd.contains f && !(keysOf e').contains f) && (keysOf e').all fun f => !e.rd.contains f
  | _, _ => true

def pairsOK (ops : Array Oper) (ms : List Nat) : Nat → List Oper → List (Option Eff) → Bool
  | i, o :: l, r :: rs => (goJ o r i (i + 1) l rs) && pairsOK ops ms (i + 1) l rs
  | _, _, _ => true
where
  goJ (o : Oper) (r : Option Eff) (i : Nat) : Nat → List Oper → List (Option Eff) → Bool
    | j, o' :: l, r' :: rs => ((ms.getD j 0).testBit i || (o.apart ops o' && famsApart r r')) && goJ o r i (j + 1) l rs
    | _, _, _ => true

/-- The edges go back, and no two operations that no edges order stand in each other's way. -/
def indep (ops : Array Oper) (rs : List (Option Eff)) : Bool :=
  (ops.toList.zipIdx.all fun p => p.1.after.all fun e => !Region.binds .any e || e.on < p.2) && pairsOK ops (masks ops.toList []) 0 ops.toList rs

theorem goJ_spec {ops : Array Oper} {ms : List Nat} {o : Oper} {r : Option Eff} {i : Nat} : ∀ (j : Nat) (l : List Oper) (rs : List (Option Eff)), pairsOK.goJ ops ms o r i j l rs = true → ∀ k o' r', l[k]? = some o' → rs[k]? = some r' →
    (ms.getD (j + k) 0).testBit i = true ∨ (o.apart ops o' = true ∧ famsApart r r' = true)
  | j, o' :: l, r' :: rs, h, 0, _, _, h1, h2 => by
    simp at h1 h2; subst h1 h2
    simp only [pairsOK.goJ, Bool.and_eq_true, Bool.or_eq_true] at h
    exact h.1
  | j, o' :: l, r' :: rs, h, k + 1, _, _, h1, h2 => by
    simp only [pairsOK.goJ, Bool.and_eq_true] at h
    have := goJ_spec (j + 1) l rs h.2 k _ _ (by simpa using h1) (by simpa using h2)
    rwa [show j + 1 + k = j + (k + 1) by omega] at this
  | j, [], rs, h, k, _, _, h1, h2 => by simp at h1
  | j, _ :: _, [], h, k, _, _, h1, h2 => by simp at h2

theorem pairsOK_spec {ops : Array Oper} {ms : List Nat} : ∀ (i : Nat) (l : List Oper) (rs : List (Option Eff)), pairsOK ops ms i l rs = true → ∀ k k' o r o' r', k < k' → l[k]? = some o → rs[k]? = some r → l[k']? = some o' → rs[k']? = some r' →
    (ms.getD (i + k') 0).testBit (i + k) = true ∨ (o.apart ops o' = true ∧ famsApart r r' = true)
  | i, o :: l, r :: rs, h, 0, k' + 1, _, _, o', r', _, h1, h2, h3, h4 => by
    simp at h1 h2; subst h1 h2
    simp only [pairsOK, Bool.and_eq_true] at h
    have := goJ_spec (i + 1) l rs h.1 k' _ _ (by simpa using h3) (by simpa using h4)
    rwa [show i + 1 + k' = i + (k' + 1) by omega] at this
  | i, o :: l, r :: rs, h, k + 1, k' + 1, _, _, o', r', hlt, h1, h2, h3, h4 => by
    simp only [pairsOK, Bool.and_eq_true] at h
    have := pairsOK_spec (i + 1) l rs h.2 k k' _ _ _ _ (by omega) (by simpa using h1) (by simpa using h2) (by simpa using h3) (by simpa using h4)
    rwa [show i + 1 + k' = i + (k' + 1) by omega, show i + 1 + k = i + (k + 1) by omega] at this
  | i, _, _, h, k, 0, _, _, _, _, hlt, _, _, _, _ => by omega
  | i, [], rs, h, k, k' + 1, _, _, _, _, _, h1, _, _, _ => by simp at h1
  | i, _ :: _, [], h, k, k' + 1, _, _, _, _, _, _, h2, _, _ => by simp at h2

end Go.Proofs.Ytfnhchcgieeedaa

namespace Go.Proofs.Ytfnhchcgieeedaa
set_option linter.unusedSimpArgs false
set_option linter.unusedVariables false
set_option linter.defProp false
open Go.RowKit

abbrev SHN := List SV × Heap × Nat

/-- The state behind an operation that had this effect (none: it was left out). -/
def aft (o : Oper) (r : Option Eff) (s : SHN) : SHN :=
  match r with
  | some e => (putS s.1 o.dst e.r, hputs s.2.1 e.wr, e.nx)
  | none => (putS s.1 o.dst (.tup []), s.2.1, s.2.2)

def stOf (ops : List Oper) (rs : List (Option Eff)) (s : SHN) : Nat → SHN
  | 0 => s
  | k + 1 => match ops[k]?, rs[k]? with
    | some o, some r => aft o r (stOf ops rs s k)
    | _, _ => stOf ops rs s k

/-- The guard's word on an operation. -/
def guardOK (ops : Array Oper) (o : Oper) (sl : List SV) (r : Option Eff) : Prop :=
  match o.guard with
  | none => r.isSome = true
  | some (j, want) => ∃ d, (ops[j]?).bind (·.dst) = some d ∧ ((∃ t, sl[d]? = some (.c (.v (.bool t))) ∧ (r.isSome = true ↔ t = want)) ∨ (sl[d]? = some (.tup []) ∧ r.isSome = false))

def recOK (P : Program) (ops : Array Oper) (o : Oper) (r : Option Eff) (s : SHN) : Prop :=
  guardOK ops o s.1 r ∧ ∀ e, r = some e → Fit s.2.1 s.2.2 e ∧ EffOK P o (onOps o (evS s.1)) s.2.1 s.2.2 e

/-- What an effect looks at and changes. -/
def kE (e : Eff) : List Nat × List Nat := (e.rd, e.wr.map (·.1))
abbrev Keys := Option (List Nat × List Nat)

def lexD (P : Program) (ck : Bool) (ds : List (Option Tmp)) : List Oper → List SV → Heap → Nat → List Keys → (List Keys → List SV → Heap → Nat → Prop) → Prop
  | [], sl, H, nx, acc, K => K acc sl H nx
  | o :: l, sl, H, nx, acc, K => match o.guard with
    | none => stepK P ck o (onOps o (evS sl)) H nx fun e => lexD P ck ds l (putS sl o.dst e.r) (hputs H e.wr) e.nx (acc ++ [some (kE e)]) K
    | some (j, want) => match ds[j]? with
      | some (some d) => match sl[d]? with
        | some (.c (.v (.bool t))) =>
          (t = want → stepK P ck o (onOps o (evS sl)) H nx fun e => lexD P ck ds l (putS sl o.dst e.r) (hputs H e.wr) e.nx (acc ++ [some (kE e)]) K) ∧
          (t = !want → lexD P ck ds l (putS sl o.dst (.tup [])) H nx (acc ++ [none]) K)
        | some (.tup []) => lexD P ck ds l (putS sl o.dst (.tup [])) H nx (acc ++ [none]) K
        | _ => False
      | _ => False

def keysApart : Keys → Keys → Bool
  | some e, some e' => e.2.all (fun f => !e'.1.contains f && !e'.2.contains f) && e'.2.all fun f => !e.1.contains f
  | _, _ => true

def pairsK (ops : Array Oper) (ms : List Nat) : Nat → List Oper → List Keys → Bool
  | i, o :: l, r :: rs => (goJ o r i (i + 1) l rs) && pairsK ops ms (i + 1) l rs
  | _, _, _ => true
where
  goJ (o : Oper) (r : Keys) (i : Nat) : Nat → List Oper → List Keys → Bool
    | j, o' :: l, r' :: rs => ((ms.getD j 0).testBit i || (o.apart ops o' && keysApart r r')) && goJ o r i (j + 1) l rs
    | _, _, _ => true

def indepK (ops : Array Oper) (rs : List Keys) : Bool :=
  (ops.toList.zipIdx.all fun p => p.1.after.all fun e => !Region.binds .any e || e.on < p.2) && pairsK ops (masks ops.toList []) 0 ops.toList rs

theorem keysApart_eq (r r' : Option Eff) : keysApart (r.map kE) (r'.map kE) = famsApart r r' := by
  cases r <;> cases r' <;> rfl

theorem pairsK_goJ {ops : Array Oper} {ms : List Nat} {o : Oper} {r : Option Eff} {i : Nat} : ∀ (j : Nat) (l : List Oper) (rs : List (Option Eff)), pairsK.goJ ops ms o (r.map kE) i j l (rs.map (·.map kE)) = pairsOK.goJ ops ms o r i j l rs
  | j, o' :: l, r' :: rs => by
    simp only [List.map_cons, pairsK.goJ, pairsOK.goJ, keysApart_eq]
    rw [pairsK_goJ (j + 1) l rs]
  | j, [], rs => by cases rs <;> rfl
  | j, _ :: _, [] => rfl

theorem pairsK_eq {ops : Array Oper} {ms : List Nat} : ∀ (i : Nat) (l : List Oper) (rs : List (Option Eff)), pairsK ops ms i l (rs.map (·.map kE)) = pairsOK ops ms i l rs
  | i, o :: l, r :: rs => by
    simp only [List.map_cons, pairsK, pairsOK]
    rw [pairsK_goJ, pairsK_eq (i + 1) l rs]
  | i, [], rs => by cases rs <;> rfl
  | i, _ :: _, [] => rfl

theorem indepK_eq (ops : Array Oper) (rs : List (Option Eff)) : indepK ops (rs.map (·.map kE)) = indep ops rs := by
  unfold indepK indep
  rw [pairsK_eq]

def drawK (P : Program) (ck : Bool) (ops : Array Oper) (sl : List SV) (H : Heap) (nx : Nat) (K : List SV → Heap → Nat → Prop) : Prop :=
  (ops.toList.all fun o => !isEsc o.op) = true ∧ lexD P ck (dstsOf ops.toList) ops.toList sl H nx [] fun rs sl H nx => indepK ops rs = true ∧ K sl H nx

/-- The blocks' numbers of a heap are below the next. -/
theorem bnd_step {H : Heap} {nx : Nat} {e : Eff} (hB : Bnd H nx) (hf : Fit H nx e) : Bnd (hputs H e.wr) e.nx := by
  intro f blk hb
  rw [hput_keys _ _ hf.nodup] at hb
  split at hb
  · rename_i h
    obtain ⟨⟨g, x⟩, h1, h2⟩ := List.mem_map.1 h
    simp only at h2; subst h2
    exact (hf.key _ _ h1).1
  · exact Nat.lt_of_lt_of_le (hB f blk hb) hf.le

theorem lexD_spec {P : Program} {ck : Bool} {ops : Array Oper} {K : List Keys → List SV → Heap → Nat → Prop} {s0 : SHN} : ∀ (l : List Oper) (k : Nat) (acc : List (Option Eff)), (∀ o ∈ l, isEsc o.op = false) → acc.length = k → (∀ j, l[j]? = ops.toList[k + j]?) → k + l.length = ops.toList.length →
    Bnd (stOf ops.toList acc s0 k).2.1 (stOf ops.toList acc s0 k).2.2 →
    (∀ j o r, j < k → ops.toList[j]? = some o → acc[j]? = some r → recOK P ops o r (stOf ops.toList acc s0 j)) →
    lexD P ck (dstsOf ops.toList) l (stOf ops.toList acc s0 k).1 (stOf ops.toList acc s0 k).2.1 (stOf ops.toList acc s0 k).2.2 (acc.map (·.map kE)) K →
    ∃ rs, rs.length = ops.toList.length ∧ (∀ j o r, ops.toList[j]? = some o → rs[j]? = some r → recOK P ops o r (stOf ops.toList rs s0 j)) ∧
      K (rs.map (·.map kE)) (stOf ops.toList rs s0 ops.toList.length).1 (stOf ops.toList rs s0 ops.toList.length).2.1 (stOf ops.toList rs s0 ops.toList.length).2.2
  | [], k, acc, _, hk, _, hlen, _, hok, h => by
    simp only [List.length_nil, Nat.add_zero] at hlen
    refine ⟨acc, by omega, fun j o r ho hr => hok j o r (by have := (List.getElem?_eq_some_iff.1 hr).1; omega) ho hr, ?_⟩
    rw [← hlen]; exact h
  | o :: l, k, acc, hne, hk, hl, hlen, hB, hok, h => by
    have ho : ops.toList[k]? = some o := by have := hl 0; simpa using this.symm
    have pre : ∀ (r : Option Eff) (j : Nat), j ≤ k → stOf ops.toList (acc ++ [r]) s0 j = stOf ops.toList acc s0 j := by
      intro r j
      induction j with
      | zero => intro _; rfl
      | succ j ih =>
        intro hj
        simp only [stOf, ih (by omega)]
        rw [List.getElem?_append_left (by omega)]
    have now : ∀ r, stOf ops.toList (acc ++ [r]) s0 (k + 1) = aft o r (stOf ops.toList acc s0 k) := by
      intro r
      simp only [stOf, pre r k (Nat.le_refl _), ho]
      rw [List.getElem?_append_right (by omega), hk]
      simp
    have go : ∀ (r : Option Eff), recOK P ops o r (stOf ops.toList acc s0 k) → Bnd (aft o r (stOf ops.toList acc s0 k)).2.1 (aft o r (stOf ops.toList acc s0 k)).2.2 →
        lexD P ck (dstsOf ops.toList) l (aft o r (stOf ops.toList acc s0 k)).1 (aft o r (stOf ops.toList acc s0 k)).2.1 (aft o r (stOf ops.toList acc s0 k)).2.2 (acc.map (·.map kE) ++ [r.map kE]) K → _ := fun r hr hB' h' =>
      lexD_spec l (k + 1) (acc ++ [r]) (fun o ho => hne o (by simp [ho])) (by simp [hk]) (fun j => by have := hl (j + 1); simpa [Nat.add_assoc, Nat.add_comm 1] using this) (by rw [List.length_cons] at hlen; omega) (by rw [now]; exact hB') (fun j o' r' hj ho' hr' => by
        rw [pre r j (by omega)]
        by_cases hjk : j = k
        · subst hjk
          rw [ho] at ho'; cases ho'
          rw [List.getElem?_append_right (by omega), hk] at hr'
          simp at hr'; subst hr'
          exact hr
        · rw [List.getElem?_append_left (by omega)] at hr'
          exact hok j o' r' (by omega) ho' hr') (by rw [now, List.map_append]; exact h')
    unfold lexD at h
    cases hg : o.guard with
    | none =>
      rw [hg] at h
      obtain ⟨e, h1, h2, h3⟩ := stepK_ok hB (hne o (by simp)) h
      exact go (some e) ⟨by unfold guardOK; rw [hg]; rfl, fun e' he => by cases he; exact ⟨h1, h2⟩⟩ (bnd_step hB h1) h3
    | some p =>
      obtain ⟨j, want⟩ := p
      rw [hg] at h
      simp only at h
      split at h
      · rename_i d hd
        replace hd := dstsOf_get hd
        split at h
        · rename_i t ht
          by_cases htw : t = want
          · obtain ⟨e, h1, h2, h3⟩ := stepK_ok hB (hne o (by simp)) (h.1 htw)
            exact go (some e) ⟨by unfold guardOK; rw [hg]; exact ⟨d, hd, .inl ⟨t, ht, by simp [htw]⟩⟩, fun e' he => by cases he; exact ⟨h1, h2⟩⟩ (bnd_step hB h1) h3
          · exact go none ⟨by unfold guardOK; rw [hg]; exact ⟨d, hd, .inl ⟨t, ht, by simp [htw]⟩⟩, fun e' he => (by cases he)⟩ hB (h.2 (by cases t <;> cases want <;> simp_all))
        · rename_i ht
          exact go none ⟨by unfold guardOK; rw [hg]; exact ⟨d, hd, .inr ⟨ht, rfl⟩⟩, fun e' he => (by cases he)⟩ hB h
        · exact h.elim
      · exact h.elim

/-! The state under any set of operations that have come up. -/

def recR : Option Eff → SV
  | some e => e.r
  | none => .tup []

def wS (len : Nat) (ops : List Oper) (rs : List (Option Eff)) (i : Nat) (t : Nat) : Option (Option SV) :=
  match ops[i]?, rs[i]? with
  | some o, some r => if o.dst = some t then (if t < len then some (some (recR r)) else none) else none
  | _, _ => none

def wH (rs : List (Option Eff)) (i : Nat) (f : Nat) : Option (Option Blk) :=
  match rs[i]? with
  | some (some e) => if f ∈ keysOf e then some (hget e.wr f) else none
  | _ => none

theorem putS_get (sl : List SV) (d : Option Tmp) (r : SV) (t : Nat) : (putS sl d r)[t]? = if d = some t then (if t < sl.length then some r else none) else sl[t]? := by
  cases d with
  | none => simp [putS]
  | some d =>
    simp only [putS, List.getElem?_set, Option.some.injEq]
    by_cases h : d = t
    · subst h; simp
    · simp [h]

theorem putS_len (sl : List SV) (d : Option Tmp) (r : SV) : (putS sl d r).length = sl.length := by cases d <;> simp [putS]

theorem stOf_get {ops : List Oper} {rs : List (Option Eff)} {s : SHN} (hrs : rs.length = ops.length) (hn : ∀ (i : Nat) (o : Oper) (e : Eff), ops[i]? = some o → rs[i]? = some (some e) → (keysOf e).Nodup) : ∀ k, (stOf ops rs s k).1.length = s.1.length ∧ (∀ t, (stOf ops rs s k).1[t]? = folds (wS s.1.length ops rs) (fun t => s.1[t]?) (fun _ => true) k t) ∧
    ∀ f, hget (stOf ops rs s k).2.1 f = folds (wH rs) (hget s.2.1) (fun _ => true) k f
  | 0 => ⟨rfl, fun _ => rfl, fun _ => rfl⟩
  | k + 1 => by
    obtain ⟨h0, h1, h2⟩ := stOf_get (s := s) hrs hn k
    simp only [stOf, folds, if_true]
    cases ho : ops[k]? with
    | none =>
      have : rs[k]? = none := by
        rw [List.getElem?_eq_none_iff] at ho ⊢; omega
      simp only [this, wS, wH, ho]
      exact ⟨h0, h1, h2⟩
    | some o =>
      obtain ⟨r, hr⟩ : ∃ r, rs[k]? = some r := by
        have := (List.getElem?_eq_some_iff.1 ho).1
        exact ⟨_, List.getElem?_eq_getElem (by omega)⟩
      simp only [hr, wS, wH, ho]
      cases r with
      | none =>
        simp only [aft]
        refine ⟨by rw [putS_len]; exact h0, fun t => ?_, fun f => by simpa using h2 f⟩
        rw [putS_get, h0]
        split
        · split
          · rfl
          · rename_i hlt
            have : (stOf ops rs s k).1[t]? = none := List.getElem?_eq_none (by omega)
            rw [h1] at this
            simp [this]
        · simpa using h1 t
      | some e =>
        simp only [aft]
        refine ⟨by rw [putS_len]; exact h0, fun t => ?_, fun f => ?_⟩
        · rw [putS_get, h0]
          split
          · split
            · rfl
            · rename_i hlt
              have : (stOf ops rs s k).1[t]? = none := List.getElem?_eq_none (by omega)
              rw [h1] at this
              simp [this]
          · simpa using h1 t
        · rw [hput_keys _ _ (hn k o e ho hr)]
          unfold keysOf
          split
          · simp
          · simpa using h2 f

end Go.Proofs.Ytfnhchcgieeedaa

namespace Go.Proofs.Ytfnhchcgieeedaa
set_option linter.unusedSimpArgs false
set_option linter.unusedVariables false
set_option linter.defProp false
open Go.RowKit

theorem onOps_look {o : Oper} {ops : Array Oper} {t : Nat} (h : t ∈ o.op.operands.toList.filterMap tmpOf) : t ∈ o.looksAt ops := by
  obtain ⟨x, hx, he⟩ := List.mem_filterMap.1 h
  cases x <;> simp only [tmpOf] at he <;> try (cases he; done)
  cases he
  exact List.mem_append_left _ (List.mem_filterMap.2 ⟨_, hx, rfl⟩)

/-- EffOK under other slots and blocks that agree where the operation looks. -/
theorem EffOK.other {P : Program} {o : Oper} {sl sl' : List SV} {H H' : Heap} {nx : Nat} {e : Eff} (h : EffOK P o (onOps o (evS sl)) H nx e) (hfit : Fit H nx e)
    (hs : ∀ t, t ∈ (o.op.operands.toList.filterMap tmpOf) → sl[t]? = sl'[t]?) (hH : ∀ f ∈ e.rd, hget H f = hget H' f) : EffOK P o (evS sl') H' nx e := by
  intro V ρ a w K Q hV hev hm hK
  have hl : looked H e.rd = looked H' e.rd := by
    funext f
    unfold looked
    split
    · rename_i hf; exact hH f hf
    · rfl
  refine h V ρ a w K Q hV (fun x => ?_) (by rw [hl]; exact hm) fun u ρ' w' hd => hK u ρ' w' ⟨hd.same, hd.val, hd.mem, fun f blk hb b hF => ?_, hd.os, hd.tape, hd.output, hd.size, fun k hk hn => ?_⟩
  · cases x with
    | tmp t =>
      simp only [onOps]
      split
      · rename_i hc
        have := hev (.tmp t)
        simp only [evS] at this ⊢
        rw [hs t (by rwa [List.contains_eq_mem, decide_eq_true_eq] at hc)]
        exact this
      · trivial
    | const v => exact hev (.const v)
    | global g => exact hev (.global g)
    | func f => exact hev (.func f)
  · rcases hd.foot f blk hb b hF with q | ⟨g, x, q1, q2, blk2, q3, q4⟩ | ⟨q1, g, q2, blk', q3, q4⟩
    · exact .inl q
    · exact .inr (.inl ⟨g, x, q1, q2, blk2, by rw [← hH g ((hfit.key g x q1).2 q2).1]; exact q3, q4⟩)
    · exact .inr (.inr ⟨q1, g, q2, blk', by rw [← hH g q2]; exact q3, q4⟩)
  · refine hd.block k hk fun g x q1 q2 => ?_
    rintro ⟨blk2, q3, q4⟩
    exact hn g x q1 q2 ⟨blk2, by rw [← hH g ((hfit.key g x q1).2 q2).1]; exact q3, q4⟩

theorem Fit.other {H H' : Heap} {nx : Nat} {e : Eff} (h : Fit H nx e) (hH : ∀ f ∈ e.rd, hget H f = hget H' f) : Fit H' nx e :=
  ⟨h.le, fun f hf => by rw [← hH f hf]; exact h.rd f hf, fun f b hb => ⟨(h.key f b hb).1, fun hlt => by
    obtain ⟨h1, blk, h2, h3⟩ := (h.key f b hb).2 hlt
    exact ⟨h1, blk, by rw [← hH f h1]; exact h2, h3⟩⟩, h.nodup⟩

theorem St.heap {V : Nat → Prop} {ρ : Nat → At} {sl : List SV} {H H' : Heap} {B : Nat} {T R : Nat → Prop} {w0 : World} {a : Act} {w : World} (h : St V ρ sl H B T R w0 a w) (hH : ∀ f, hget H' f = hget H f) : St V ρ sl H' B T R w0 a w := by
  have e : hget H' = hget H := funext hH
  exact ⟨h.slots, h.defers, by rw [e]; exact h.mem, fun f blk hb => h.base f blk (by rw [← hH f]; exact hb), fun f blk hb => h.foot f blk (by rw [← hH f]; exact hb), h.os, h.tape, h.output, h.size, h.block, h.le⟩

theorem indep_edge {ops : Array Oper} {rs : List (Option Eff)} (h : indep ops rs = true) {i : Nat} {o : Oper} (ho : ops.toList[i]? = some o) {e : Edge} (he : e ∈ o.after) (hb : Region.binds .any e = true) : e.on < i := by
  simp only [indep, Bool.and_eq_true, List.all_eq_true] at h
  have := h.1 (o, i) (by
    rw [List.mem_iff_getElem?]
    exact ⟨i, by rw [List.getElem?_zipIdx, ho]; simp⟩)
  simp only at this
  rw [Array.all_eq_true_iff_forall_mem] at this
  have := this e he
  simpa [hb] using this

theorem draw_ok {P : Program} {ck : Bool} (hmix : P.follows .mixedOrders = true) : DrOK P (drawK P ck) := by
  intro id ops sl0 H0 nx0 K Q X a w h hs hQ
  obtain ⟨V0, ρ0, hV0, hX0, hst0⟩ := hs
  obtain ⟨hne, h⟩ := h
  obtain ⟨rs, hlen, hok, hind, hK⟩ := lexD_spec (s0 := (sl0, H0, nx0)) ops.toList 0 [] (fun o ho => by have := List.all_eq_true.1 hne o ho; simpa using this) rfl (fun j => by rw [Nat.zero_add]) (Nat.zero_add _) (hst0.bnd hV0) (fun j o r hj => by omega) h
  rw [indepK_eq] at hind
  have hop : ∀ i : Nat, ops[i]? = ops.toList[i]? := fun i => by simp
  have hnod : ∀ (i : Nat) (o : Oper) (e : Eff), ops.toList[i]? = some o → rs[i]? = some (some e) → (keysOf e).Nodup := fun i o e ho hr => ((hok i o _ ho hr).2 e rfl).1.nodup
  have hget' := stOf_get (s := (sl0, H0, nx0)) hlen hnod
  -- the numbers of blocks rise
  have hnx : ∀ k, (stOf ops.toList rs (sl0, H0, nx0) k).2.2 ≤ (stOf ops.toList rs (sl0, H0, nx0) (k + 1)).2.2 := by
    intro k
    simp only [stOf]
    cases ho : ops.toList[k]? with
    | none => exact Nat.le_refl _
    | some o =>
      cases hr : rs[k]? with
      | none => exact Nat.le_refl _
      | some r =>
        cases r with
        | none => exact Nat.le_refl _
        | some e => exact ((hok k o _ ho hr).2 e rfl).1.le
  have hnxm : ∀ k m, k ≤ m → (stOf ops.toList rs (sl0, H0, nx0) k).2.2 ≤ (stOf ops.toList rs (sl0, H0, nx0) m).2.2 := by
    intro k m hkm
    induction m with
    | zero => rw [Nat.le_zero.1 hkm]; exact Nat.le_refl _
    | succ m ih =>
      rcases Nat.lt_or_ge k (m + 1) with h1 | h1
      · exact Nat.le_trans (ih (by omega)) (hnx m)
      · have : k = m + 1 := by omega
        rw [this]; exact Nat.le_refl _
  let Inv : (Nat → Bool) → Act → World → Prop := fun L a w => ∃ V ρ sl H, sl.length = sl0.length ∧ (∀ t, sl[t]? = folds (wS sl0.length ops.toList rs) (fun t => sl0[t]?) L ops.size t) ∧ (∀ f, hget H f = folds (wH rs) (hget H0) L ops.size f) ∧
    (∀ f, V f → f < nx0 ∨ ∃ j, j < ops.size ∧ L j = true ∧ (stOf ops.toList rs (sl0, H0, nx0) j).2.2 ≤ f ∧ f < (stOf ops.toList rs (sl0, H0, nx0) (j + 1)).2.2) ∧ (∀ f, f < X.n0 → (ρ f).nf = (X.ρ0 f).nf) ∧ St V ρ sl H X.B X.T X.R X.w0 a w
  have hpair := fun k k' o r o' r' => pairsOK_spec (ops := ops) (ms := masks ops.toList []) 0 ops.toList rs (by simp only [indep, Bool.and_eq_true] at hind; exact hind.2) k k' o r o' r'
  -- one operation that may come up
  have step : ∀ (listed : Array Bool) (a : Act) (w : World) (i : Nat) (Kn : Act → World → Prop), (∀ (j : Nat) o e, ops[j]? = some o → listed.getD j false = true → e ∈ o.after → Region.binds .any e = true → listed.getD e.on false = true) →
      listed.size = ops.size → i ∈ Region.ready .any ops listed → Inv (fun j => listed.getD j false) a w →
      (∀ a w, Inv (fun j => (listed.setIfInBounds i true).getD j false) a w → Kn a w) → wpOp P ops Q i Kn a w := by
    intro listed a w i Kn hcl hsz hr hI hKn
    obtain ⟨hun, o, ho, haf⟩ := mem_ready.1 hr
    have hio : i < ops.size := (Array.getElem?_eq_some_iff.1 ho).1
    have ho' : ops.toList[i]? = some o := by rw [← hop]; exact ho
    have hunf : listed.getD i false = false := by
      have hi2 : i < listed.size := by omega
      simp only [Array.getD, hi2] at hun ⊢
      exact hun
    obtain ⟨r, hri⟩ : ∃ r, rs[i]? = some r := ⟨_, List.getElem?_eq_getElem (by rw [hlen]; simpa using hio)⟩
    obtain ⟨hgd, hrec⟩ := hok i o r ho' hri
    -- what is ordered before i has come up; what has come up is not ordered behind i
    have hbef : ∀ j, ((masks ops.toList []).getD i 0).testBit j = true → listed.getD j false = true := by
      intro j hj
      have := masks_closed (L := fun k => listed.getD k false = true ∨ k = i) ops.toList [] (fun i j _ h => by simp at h) (fun k o' e hk hL he hb => by
        simp only [List.length_nil, Nat.zero_add] at hL
        rcases hL with hL | rfl
        · exact .inl (hcl k o' e (by rw [hop]; exact hk) hL he hb)
        · rw [ho'] at hk; cases hk
          exact .inl (haf e he hb)) i j (.inr rfl) hj
      rcases this with h1 | h1
      · exact h1
      · exfalso
        subst h1
        have hlt : ∀ (n : Nat), ∀ i j, i < n → ((masks ops.toList []).getD i 0).testBit j = true → j < i := by
          intro n i j _ hb
          exact masks_closed (L := fun k => k < i ∨ (k = i ∧ True)) ops.toList [] (fun i j _ h => by simp at h) (fun k o' e hk hL he hb => by
            simp only [List.length_nil, Nat.zero_add] at hL
            have := indep_edge hind hk he hb
            left; omega) i j (.inr ⟨rfl, trivial⟩) hb |>.elim (fun h => h) (fun h => by
              obtain ⟨h, _⟩ := h
              subst h
              -- the own bit is never set
              exfalso
              have own : ∀ (l : List Oper) (acc : List Nat), (∀ k, (acc.getD k 0).testBit k = false) → (∀ k j, (acc.getD k 0).testBit j = true → j < k) → (∀ k o' e, l[k]? = some o' → e ∈ o'.after → Region.binds .any e = true → e.on < acc.length + k) → ∀ k j, ((masks l acc).getD k 0).testBit j = true → j < k := by
                intro l
                induction l with
                | nil => intro acc _ h2 _; exact h2
                | cons o' l ih =>
                  intro acc h1 h2 h3
                  have hm : ∀ j, (maskOf acc o').testBit j = true → j < acc.length := by
                    intro j hj
                    obtain ⟨e, q1, q2, q3⟩ := maskOf_bit hj
                    have := h3 0 o' e rfl q1 q2
                    rcases q3 with rfl | q3
                    · simpa using this
                    · have := h2 _ _ q3; omega
                  have g : ∀ k, (acc ++ [maskOf acc o']).getD k 0 = if k < acc.length then acc.getD k 0 else if k = acc.length then maskOf acc o' else 0 := by
                    intro k
                    simp only [List.getD_eq_getElem?_getD]
                    by_cases hk : k < acc.length
                    · rw [List.getElem?_append_left hk, if_pos hk]
                    · rw [if_neg hk, List.getElem?_append_right (by omega)]
                      by_cases hk2 : k = acc.length
                      · simp [hk2]
                      · rw [if_neg hk2, List.getElem?_eq_none (by simp; omega)]; rfl
                  refine ih _ (fun k => ?_) (fun k j hj => ?_) (fun k o2 e hk he hb => by have := h3 (k + 1) o2 e (by simpa using hk) he hb; simp; omega)
                  · rw [g]
                    split
                    · exact h1 k
                    · split
                      · rename_i hk; subst hk
                        cases hb : (maskOf acc o').testBit acc.length with
                        | false => rfl
                        | true => have := hm _ hb; omega
                      · simp
                  · rw [g] at hj
                    split at hj
                    · exact h2 k j hj
                    · split at hj
                      · rename_i hk; subst hk; exact hm j hj
                      · simp at hj
              have := own ops.toList [] (fun k => by simp) (fun k j h => by simp at h) (fun k o' e hk he hb => by simpa using indep_edge hind hk he hb) _ _ hb
              omega)
        have := hlt (j + 1) j j (Nat.lt_succ_self _) hj
        omega
    have haft : ∀ j, listed.getD j false = true → ((masks ops.toList []).getD j 0).testBit i = true → False := by
      intro j hj hb
      have := masks_closed (L := fun k => listed.getD k false = true) ops.toList [] (fun i j _ h => by simp at h) (fun k o' e hk hL he hb => by
        simp only [List.length_nil, Nat.zero_add] at hL
        exact hcl k o' e (by rw [hop]; exact hk) hL he hb) j i hj hb
      rw [hunf] at this; cases this
    -- another operation: on its side, or apart
    have apart : ∀ j o' r', ops.toList[j]? = some o' → rs[j]? = some r' → j ≠ i → (listed.getD j false = decide (j < i)) ∨ ((o.apart ops o' = true ∧ famsApart r r' = true) ∨ (o'.apart ops o = true ∧ famsApart r' r = true)) := by
      intro j o' r' hj hr' hne
      rcases Nat.lt_or_gt_of_ne hne with h1 | h1
      · rcases hpair j i o' r' o r h1 hj hr' ho' hri with h2 | h2
        · left
          rw [hbef j (by simpa using h2)]; simp [h1]
        · exact .inr (.inr h2)
      · rcases hpair i j o r o' r' h1 ho' hri hj hr' with h2 | h2
        · left
          have : listed.getD j false = false := by
            cases hb : listed.getD j false with
            | false => rfl
            | true => exact (haft j hb (by simpa using h2)).elim
          rw [this]; simp; omega
        · exact .inr (.inl h2)
    have slot : ∀ t, (t ∈ o.looksAt ops ∨ o.dst = some t) → ∀ j, j ≠ i → wS sl0.length ops.toList rs j t = none ∨ listed.getD j false = decide (j < i) := by
      intro t ht j hne
      cases hj : ops.toList[j]? with
      | none => left; simp [wS, hj]
      | some o' =>
        cases hr' : rs[j]? with
        | none => left; simp [wS, hr']
        | some r' =>
          rcases apart j o' r' hj hr' hne with h1 | h1
          · exact .inr h1
          · left
            simp only [wS, hj, hr']
            rw [if_neg]
            intro hd
            rcases h1 with h1 | h1
            · obtain ⟨q1, q2, q3⟩ := Oper.apart_spec h1.1
              rcases ht with ht | ht
              · exact q3 t hd ht
              · exact q2 t ht hd
            · obtain ⟨q1, q2, q3⟩ := Oper.apart_spec h1.1
              rcases ht with ht | ht
              · exact q1 t hd ht
              · exact q2 t hd ht
    have fam : ∀ e, r = some e → ∀ f, (f ∈ e.rd ∨ f ∈ keysOf e) → ∀ j, j ≠ i → wH rs j f = none ∨ listed.getD j false = decide (j < i) := by
      rintro e rfl f hf j hne
      cases hr' : rs[j]? with
      | none => left; simp [wH, hr']
      | some r' =>
        cases r' with
        | none => left; simp [wH, hr']
        | some e' =>
          obtain ⟨o', hj⟩ : ∃ o', ops.toList[j]? = some o' := ⟨_, List.getElem?_eq_getElem (by rw [← hlen]; exact (List.getElem?_eq_some_iff.1 hr').1)⟩
          rcases apart j o' _ hj hr' hne with h1 | h1
          · exact .inr h1
          · left
            simp only [wH, hr']
            rw [if_neg]
            intro hk
            rcases h1 with h1 | h1
            · have := h1.2
              simp only [famsApart, Bool.and_eq_true, List.all_eq_true, Bool.not_eq_true', List.contains_eq_mem, decide_eq_false_iff_not] at this
              rcases hf with hf | hf
              · exact this.2 f hk hf
              · exact (this.1 f hf).2 hk
            · have := h1.2
              simp only [famsApart, Bool.and_eq_true, List.all_eq_true, Bool.not_eq_true', List.contains_eq_mem, decide_eq_false_iff_not] at this
              rcases hf with hf | hf
              · exact (this.1 f hk).1 hf
              · exact (this.1 f hk).2 hf
    obtain ⟨V, ρ, sl, H, hl, hsl, hH, hV, hρ, hst⟩ := hI
    obtain ⟨g0, g1, g2⟩ := hget' i
    -- what i looks at is as in the order of the text
    have slEq : ∀ t, t ∈ o.looksAt ops → (stOf ops.toList rs (sl0, H0, nx0) i).1[t]? = sl[t]? := by
      intro t ht
      rw [g1, hsl]
      have e1 : folds (wS sl0.length ops.toList rs) (fun t => sl0[t]?) (fun j => decide (j < i)) ops.size t = folds (wS sl0.length ops.toList rs) (fun t => sl0[t]?) (fun j => decide (j < i)) i t :=
        folds_more ops.size (by omega) fun j h1 h2 => .inr (by simp; omega)
      have e2 : folds (wS sl0.length ops.toList rs) (fun t => sl0[t]?) (fun _ => true) i t = folds (wS sl0.length ops.toList rs) (fun t => sl0[t]?) (fun j => decide (j < i)) i t := folds_agree fun j hj => .inr (by simp [hj])
      rw [e2, ← e1]
      refine folds_agree fun j hj => ?_
      by_cases hji : j = i
      · subst hji; right; rw [hunf]; simp
      · rcases slot t (.inl ht) j hji with h1 | h1
        · exact .inl h1
        · exact .inr h1.symm
    have famEq : ∀ e, r = some e → ∀ f, (f ∈ e.rd ∨ f ∈ keysOf e) → hget (stOf ops.toList rs (sl0, H0, nx0) i).2.1 f = hget H f := by
      intro e he f hf
      rw [g2, hH]
      have e1 : folds (wH rs) (hget H0) (fun j => decide (j < i)) ops.size f = folds (wH rs) (hget H0) (fun j => decide (j < i)) i f :=
        folds_more ops.size (by omega) fun j h1 h2 => .inr (by simp; omega)
      have e2 : folds (wH rs) (hget H0) (fun _ => true) i f = folds (wH rs) (hget H0) (fun j => decide (j < i)) i f := folds_agree fun j hj => .inr (by simp [hj])
      rw [e2, ← e1]
      refine folds_agree fun j hj => ?_
      by_cases hji : j = i
      · subst hji; right; rw [hunf]; simp
      · rcases fam e he f hf j hji with h1 | h1
        · exact .inl h1
        · exact .inr h1.symm
    -- the state behind i
    have hL' : ∀ j, j ≠ i → (listed.setIfInBounds i true).getD j false = listed.getD j false := fun j hj => getD_set_ne false (Ne.symm hj)
    have hLi : (listed.setIfInBounds i true).getD i false = true := by
      have hi2 : i < listed.size := by omega
      simp [Array.getD, hi2]
    have insS : ∀ (rv : SV), recR r = rv → ∀ t, (putS sl o.dst rv)[t]? = folds (wS sl0.length ops.toList rs) (fun t => sl0[t]?) (fun j => (listed.setIfInBounds i true).getD j false) ops.size t := by
      intro rv hrv t
      have e1 := folds_ins (W := wS sl0.length ops.toList rs) (b := fun t => sl0[t]?) (L := fun j => listed.getD j false) (L' := fun j => (listed.setIfInBounds i true).getD j false) (x := t) hio hunf hLi hL' (fun j h1 h2 h3 => by
        by_cases hd : o.dst = some t
        · rcases slot t (.inr hd) j (by omega) with h4 | h4
          · exact .inl h4
          · rw [h4] at h3; simp at h3; omega
        · right; simp [wS, ho', hri, hd])
      rw [e1, ← hsl t, putS_get, hl]
      simp only [wS, ho', hri, hrv]
      split
      · split
        · rfl
        · rename_i hlt
          have : sl[t]? = none := List.getElem?_eq_none (by omega)
          simp [this]
      · rfl
    unfold wpOp
    rw [ho]
    simp only
    -- the guard
    have hwant : Region.wanted o (yielded ops a.tmps) = r.isSome := by
      unfold guardOK at hgd
      unfold Region.wanted
      cases hg : o.guard with
      | none => rw [hg] at hgd; simp [hgd]
      | some p =>
        obtain ⟨j, want⟩ := p
        rw [hg] at hgd
        obtain ⟨d, h1, hgd⟩ := hgd
        have hdl : d ∈ o.looksAt ops := by
          unfold Oper.looksAt
          rw [hg]
          exact List.mem_append_right _ (by simp [h1])
        rcases hgd with ⟨t, h2, h3⟩ | ⟨h2, h3⟩
        case inr =>
          rw [slEq d hdl] at h2
          obtain ⟨u, hu, vs, rfl, hr⟩ := hst.slots.get h2
          have hy : yielded ops a.tmps j = none := by
            unfold yielded
            rw [h1]
            cases vs with
            | nil =>
              have : a.tmps[d]? = some (.tuple #[]) := by simpa using hu
              simp only [Option.bind_some, this]
            | cons _ _ => exact hr.elim
          simp [hy, h3]
        rw [slEq d hdl] at h2
        obtain ⟨u, hu, hur⟩ := hst.slots.get h2
        have hy : yielded ops a.tmps j = some t := by
          unfold yielded
          rw [h1]
          have : a.tmps[d]? = some (.bool t) := by rw [hur.1] at hu; simpa using hu
          simp only [Option.bind_some, this]
        simp only [hy]
        cases hs : r.isSome with
        | true => simp [h3.1 hs]
        | false =>
          have : t ≠ want := fun e => by rw [h3.2 e] at hs; cases hs
          simp [this]
    cases hrr : r with
    | none =>
      rw [hrr] at hwant
      rw [if_neg (by rw [hwant]; simp)]
      refine hKn _ w ⟨V, ρ, putS sl o.dst (.tup []), H, by rw [putS_len]; exact hl, insS (.tup []) (by rw [hrr]; rfl), fun f => ?_, fun f hf => ?_, hρ, ⟨putS_r hst.slots o.dst ⟨[], rfl, trivial⟩, ?_, hst.mem, hst.base, hst.foot, hst.os, hst.tape, hst.output, hst.size, hst.block, hst.le⟩⟩
      · rw [hH f]
        refine folds_agree fun j hj => ?_
        by_cases hji : j = i
        · subst hji; left; simp [wH, hri, hrr]
        · exact .inr (hL' j hji).symm
      · rcases hV f hf with h1 | ⟨j, h1, h2, h3⟩
        · exact .inl h1
        · refine .inr ⟨j, h1, ?_, h3⟩
          by_cases hji : j = i
          · subst hji; exact hLi
          · exact (hL' j hji).trans h2
      · cases o.dst <;> simp [Act.put, hst.defers]
    | some e =>
      rw [hrr] at hwant
      rw [if_pos (by rw [hwant]; rfl)]
      left
      obtain ⟨hfit, heff⟩ := hrec e hrr
      have hnxi : (stOf ops.toList rs (sl0, H0, nx0) (i + 1)).2.2 = e.nx := by
        simp only [stOf, ho', hri, hrr, aft]
      have hH' : ∀ f ∈ e.rd, hget (stOf ops.toList rs (sl0, H0, nx0) i).2.1 f = hget H f := fun f hf => famEq e hrr f (.inl hf)
      have hVi : ∀ f, V f → f < (stOf ops.toList rs (sl0, H0, nx0) i).2.2 ∨ e.nx ≤ f := by
        intro f hf
        rcases hV f hf with h1 | ⟨j, h1, h2, h3, h4⟩
        · exact .inl (Nat.lt_of_lt_of_le h1 (hnxm 0 i (Nat.zero_le _)))
        · rcases Nat.lt_trichotomy j i with h5 | h5 | h5
          · exact .inl (Nat.lt_of_lt_of_le h4 (hnxm (j + 1) i h5))
          · subst h5; have h2' : listed.getD j false = true := h2; rw [hunf] at h2'; cases h2'
          · right
            rw [← hnxi]
            exact Nat.le_trans (hnxm (i + 1) j h5) h3
      refine hst.stepS hVi (hfit.other hH') (heff.other hfit (fun t ht => slEq t (onOps_look ht)) hH') fun a' w' ρ' hst' hsm => hKn a' w' ⟨_, ρ', _, _, by rw [putS_len]; exact hl, insS e.r (by rw [hrr]; rfl), fun f => ?_, fun f hf => ?_, fun f hf => ?_, hst'⟩
      · have e1 := folds_ins (W := wH rs) (b := hget H0) (L := fun j => listed.getD j false) (L' := fun j => (listed.setIfInBounds i true).getD j false) (x := f) hio hunf hLi hL' (fun j h1 h2 h3 => by
          by_cases hd : f ∈ keysOf e
          · rcases fam e hrr f (.inr hd) j (by omega) with h4 | h4
            · exact .inl h4
            · rw [h4] at h3; simp at h3; omega
          · right; simp [wH, hri, hrr, hd])
        rw [e1, hput_keys _ _ hfit.nodup, ← hH f]
        simp only [wH, hri, hrr]
        unfold keysOf
        split <;> rfl
      · rcases hf with hf | ⟨h1, h2⟩
        · rcases hV f hf with h1 | ⟨j, h1, h2, h3⟩
          · exact .inl h1
          · refine .inr ⟨j, h1, ?_, h3⟩
            by_cases hji : j = i
            · subst hji; exact hLi
            · exact (hL' j hji).trans h2
        · exact .inr ⟨i, hio, hLi, h1, by rw [hnxi]; exact h2⟩
      · exact (hsm f (.inl (Nat.lt_of_lt_of_le hf (Nat.le_trans hX0.1 (hnxm 0 i (Nat.zero_le _)))))).trans (hρ f hf)
  -- all of them
  have all : ∀ (fuel : Nat) (listed : Array Bool) (a : Act) (w : World), listed.size = ops.size → (∀ (j : Nat) o e, ops[j]? = some o → listed.getD j false = true → e ∈ o.after → Region.binds .any e = true → listed.getD e.on false = true) →
      (listed.toList.filter (!·)).length = fuel → Inv (fun j => listed.getD j false) a w → wpAny P .any ops Q fuel listed a w := by
    have fin : ∀ (listed : Array Bool) (a : Act) (w : World), listed.size = ops.size → Region.ready .any ops listed = [] → (∀ (j : Nat) o e, ops[j]? = some o → listed.getD j false = true → e ∈ o.after → Region.binds .any e = true → listed.getD e.on false = true) → Inv (fun j => listed.getD j false) a w → Q .normal a w := by
      intro listed a w hsz hr hcl hI
      have hall : ∀ (n i : Nat), i < n → i < ops.size → listed.getD i false = true := by
        intro n
        induction n with
        | zero => intro i h; omega
        | succ n ih =>
          intro i hi his
          cases hb : listed.getD i false with
          | true => rfl
          | false =>
            exfalso
            have hi2 : i < listed.size := by omega
            have ho : ops[i]? = some ops[i] := Array.getElem?_eq_getElem his
            have : i ∈ Region.ready .any ops listed := mem_ready.2 ⟨by simp only [Array.getD, hi2] at hb ⊢; exact hb, _, ho, fun e he hbd => by
              have hlt := indep_edge hind (i := i) (o := ops[i]) (by rw [← hop]; exact ho) he hbd
              exact ih e.on (by omega) (by omega)⟩
            rw [hr] at this; cases this
      obtain ⟨V, ρ, sl, H, hl, hsl, hH, hV, hρ, hst⟩ := hI
      have hn : ops.toList.length = ops.size := by simp
      obtain ⟨g0, g1, g2⟩ := hget' ops.size
      have e1 : sl = (stOf ops.toList rs (sl0, H0, nx0) ops.toList.length).1 := by
        apply List.ext_getElem?
        intro t
        rw [hn, g1, hsl]
        exact folds_agree fun j hj => .inr (hall (j + 1) j (Nat.lt_succ_self _) hj)
      have e2 : ∀ f, hget (stOf ops.toList rs (sl0, H0, nx0) ops.toList.length).2.1 f = hget H f := by
        intro f
        rw [hn, g2, hH]
        exact (folds_agree fun j hj => .inr (hall (j + 1) j (Nat.lt_succ_self _) hj)).symm
      refine hQ _ _ _ a w hK ⟨V, ρ, fun f hf => ?_, ⟨Nat.le_trans hX0.1 (hnxm 0 _ (Nat.zero_le _)), hρ⟩, ?_⟩
      · rcases hV f hf with h1 | ⟨j, h1, _, _, h2⟩
        · exact Nat.lt_of_lt_of_le h1 (hnxm 0 _ (Nat.zero_le _))
        · exact Nat.lt_of_lt_of_le h2 (hnxm (j + 1) _ (by rw [hn]; exact h1))
      · rw [← e1]; exact hst.heap e2
    intro fuel
    induction fuel with
    | zero =>
      intro listed a w hsz hcl hf hI
      have hr : Region.ready .any ops listed = [] := by
        cases hrr : Region.ready .any ops listed with
        | nil => rfl
        | cons i l =>
          exfalso
          have hi : i ∈ Region.ready .any ops listed := by rw [hrr]; simp
          obtain ⟨hun, o, ho, _⟩ := mem_ready.1 hi
          have hi2 : i < listed.size := by rw [hsz]; exact (Array.getElem?_eq_some_iff.1 ho).1
          simp only [Array.getD, hi2] at hun
          have : listed.toList.filter (!·) ≠ [] := by
            intro e0
            have := List.filter_eq_nil_iff.1 e0 (listed[i]) (by simp)
            simp at this
            simp at hun
            rw [this] at hun; cases hun
          exact this (List.eq_nil_of_length_eq_zero hf)
      exact ⟨hr, fin listed a w hsz hr hcl hI⟩
    | succ fuel ih =>
      intro listed a w hsz hcl hf hI
      refine ⟨fun hr => fin listed a w hsz hr hcl hI, fun i hi => step listed a w i _ hcl hsz hi hI fun a' w' hI' => ih _ a' w' (by simpa using hsz) (fun j o e ho hj he hb => ?_) ?_ hI'⟩
      · obtain ⟨hun, o', ho', haf⟩ := mem_ready.1 hi
        by_cases hji : j = i
        · subst hji
          rw [ho] at ho'; cases ho'
          have hlt := indep_edge hind (i := j) (o := o) (by rw [← hop]; exact ho) he hb
          rw [getD_set_ne false (by omega)]
          exact haf e he hb
        · rw [getD_set_ne false (Ne.symm hji)] at hj
          have := hcl j o e ho hj he hb
          by_cases hei : e.on = i
          · rw [hei]
            have hi2 : i < listed.size := by rw [hsz]; exact (Array.getElem?_eq_some_iff.1 ho').1
            simp [Array.getD, hi2]
          · rw [getD_set_ne false (Ne.symm hei)]; exact this
      · obtain ⟨hun, o', ho', haf⟩ := mem_ready.1 hi
        have hi2 : i < listed.size := by rw [hsz]; exact (Array.getElem?_eq_some_iff.1 ho').1
        have hun' : listed.toList[i]? = some false := by
          simp only [Array.getD, hi2] at hun
          simp [hi2]; simpa using hun
        have cnt : ∀ (l : List Bool) (i : Nat), l[i]? = some false → ((l.set i true).filter (!·)).length + 1 = (l.filter (!·)).length := by
          intro l
          induction l with
          | nil => intro i h; simp at h
          | cons b l ih =>
            intro i h
            cases i with
            | zero => simp at h; subst h; simp
            | succ i =>
              have := ih i (by simpa using h)
              cases b <;> simp [List.filter_cons] at this ⊢ <;> omega
        have := cnt listed.toList i hun'
        rw [Array.toList_setIfInBounds]
        omega
  refine wp_region_any hmix (all ops.size (Array.replicate ops.size false) a _ (by simp) (fun j o e _ hj => ?_) (by simp) ?_)
  · exfalso
    have : (Array.replicate ops.size false).getD j false = false := by
      simp only [Array.getD]
      split <;> simp
    rw [this] at hj; cases hj
  · have hf : ∀ j, (Array.replicate ops.size false).getD j false = false := by
      intro j
      simp only [Array.getD]
      split <;> simp
    have e1 : (fun j => (Array.replicate ops.size false).getD j false) = fun _ => false := funext hf
    rw [e1]
    have z : ∀ {κ ν : Type} (W : Nat → κ → Option ν) (b : κ → ν) (k : Nat) (x : κ), folds W b (fun _ => false) k x = b x := by
      intro κ ν W b k x
      induction k with
      | zero => rfl
      | succ k ih => simp [folds, ih]
    refine ⟨V0, ρ0, sl0, H0, rfl, fun t => (z _ _ _ _).symm, fun f => (z _ _ _ _).symm, fun f hf => .inl (hV0 f hf), hX0.2, ⟨hst0.slots, hst0.defers, ⟨fun f blk hb => ?_, hst0.mem.sep⟩, hst0.base, hst0.foot, hst0.os, hst0.tape, hst0.output, hst0.size, hst0.block, hst0.le⟩⟩
    obtain ⟨q1, q2, q3⟩ := hst0.mem.dom f blk hb
    exact ⟨q1, Holds.keep (w := w) (w' := { w with drawn := w.drawn + 1 }) (fun f hf => ⟨hf, rfl⟩) (fun _ _ => rfl) q2, q3⟩

end Go.Proofs.Ytfnhchcgieeedaa

namespace Go.Proofs.Ytfnhchcgieeedaa
set_option linter.unusedSimpArgs false
set_option linter.unusedVariables false
set_option linter.defProp false
open Go.RowKit

def vwl (l : List Vw) (i : Nat) : Vw := (l[i]?).getD (.emp 0 true)

/-- no block is seen as one's own and as something else -/
def uniqB (π : Nat → Vw) (ks : List Nat) : Bool :=
  ks.all fun i => match π i with
    | .same g => ks.all fun j => i == j || !((π j).blk == some g)
    | _ => true

theorem uniqB_spec {π : Nat → Vw} {ks : List Nat} (h : uniqB π ks = true) {i j g : Nat} (hi : i ∈ ks) (hj : j ∈ ks) (hne : i ≠ j) (hp : π i = .same g) : (π j).blk ≠ some g := by
  unfold uniqB at h
  rw [List.all_eq_true] at h
  have := h i hi
  rw [hp] at this
  simp only [List.all_eq_true] at this
  have := this j hj
  simp only [Bool.or_eq_true, beq_iff_eq, Bool.not_eq_true', beq_eq_false_iff_ne] at this
  exact this.resolve_left hne

def argsW (π : Nat → Vw) (n0 : Nat) : List SV → Prop
  | [] => True
  | x :: l => wfs (wfc π n0) x ∧ argsW π n0 l

def preL (H : Heap) (π : Nat → Vw) (n0 : Nat) : Heap → Prop
  | [] => True
  | (i, some b) :: l => (i < n0 ∧ preOK H π n0 i b) ∧ preL H π n0 l
  | (_, none) :: l => preL H π n0 l

def domL (H : Heap) : List Vw → Prop
  | [] => True
  | v :: l => (match v with | .ro g _ _ true => ∃ es, hget H g = some (.ro es) | .ro g _ _ false => (hget H g).isSome = true | .same g => (hget H g).isSome = true | .emp _ _ => True) ∧ domL H l

def ownL : Heap → Prop
  | [] => True
  | (_, some b) :: l => b.own = true ∧ ownL l
  | (_, none) :: l => ownL l

/-- whether a result leans on memory that is only read -/
def shrL : Heap → Bool
  | [] => false
  | (_, some b) :: l => b.shr || shrL l
  | (_, none) :: l => shrL l

def roL (H : Heap) : List Vw → Prop
  | [] => True
  | .ro g _ _ _ :: l => (∃ es, hget H g = some (.ro es)) ∧ roL H l
  | .same _ :: l => roL H l
  | .emp _ _ :: l => roL H l

theorem shrL_mem : ∀ {l : Heap} {f : Nat} {b : Blk}, (f, some b) ∈ l → b.shr = true → shrL l = true
  | (g, some b') :: l, f, b, hm, h => by
    simp only [List.mem_cons, Prod.mk.injEq, Option.some.injEq] at hm
    rcases hm with ⟨_, rfl⟩ | hm
    · simp [shrL, h]
    · simp [shrL, shrL_mem hm h]
  | (g, none) :: l, f, b, hm, h => by
    simp only [List.mem_cons, Prod.mk.injEq] at hm
    rcases hm with ⟨_, hc⟩ | hm
    · cases hc
    · simp [shrL, shrL_mem hm h]

theorem roL_get {H : Heap} : ∀ {l : List Vw}, roL H l → ∀ (i g b m : Nat) (r : Bool), l[i]? = some (.ro g b m r) → ∃ es, hget H g = some (.ro es)
  | v' :: l, h, 0, g, b, m, r, hv => by
    simp at hv; subst hv
    exact h.1
  | v' :: l, h, i + 1, g, b, m, r, hv => by
    have h' : roL H l := by cases v' <;> first | exact h.2 | exact h
    exact roL_get h' i g b m r (by simpa using hv)

theorem argsW_mem {π : Nat → Vw} {n0 : Nat} : ∀ {l : List SV}, argsW π n0 l → ∀ x ∈ l, wfs (wfc π n0) x
  | y :: l, h, x, hx => by
    rcases List.mem_cons.1 hx with rfl | hx
    · exact h.1
    · exact argsW_mem h.2 x hx

theorem preL_get {H : Heap} {π : Nat → Vw} {n0 : Nat} : ∀ {l : Heap}, preL H π n0 l → ∀ i b, hget l i = some b → i < n0 ∧ preOK H π n0 i b
  | (j, some b') :: l, h, i, b, hb => by
    simp only [hget] at hb
    split at hb
    · rename_i e; subst e; cases hb; exact h.1
    · exact preL_get h.2 i b hb
  | (j, none) :: l, h, i, b, hb => by
    simp only [hget] at hb
    split at hb
    · cases hb
    · exact preL_get (by simpa [preL] using h) i b hb

theorem domL_get {H : Heap} : ∀ {l : List Vw}, domL H l → ∀ (i : Nat) v g, l[i]? = some v → v.blk = some g → ∃ b, hget H g = some b
  | v' :: l, h, 0, v, g, hv, hg => by
    simp at hv; subst hv
    have := h.1
    cases v' with
    | ro g' b m r =>
      cases hg
      cases r with
      | true => obtain ⟨es, he⟩ := this; exact ⟨_, he⟩
      | false => exact Option.isSome_iff_exists.1 this
    | same g' => cases hg; exact Option.isSome_iff_exists.1 this
    | emp _ _ => cases hg
  | v' :: l, h, i + 1, v, g, hv, hg => domL_get h.2 i v g (by simpa using hv) hg

theorem domL_ro {H : Heap} : ∀ {l : List Vw}, domL H l → ∀ (i : Nat) g b m, l[i]? = some (.ro g b m true) → ∃ es, hget H g = some (.ro es)
  | v' :: l, h, 0, g, b, m, hv => by
    simp at hv; subst hv
    exact h.1
  | v' :: l, h, i + 1, g, b, m, hv => domL_ro h.2 i g b m (by simpa using hv)

theorem ownL_mem : ∀ {l : Heap}, ownL l → ∀ f b, (f, some b) ∈ l → b.own = true
  | (g, some b') :: l, h, f, b, hm => by
    simp only [List.mem_cons, Prod.mk.injEq, Option.some.injEq] at hm
    rcases hm with ⟨_, rfl⟩ | hm
    · exact h.1
    · exact ownL_mem h.2 f b hm
  | (g, none) :: l, h, f, b, hm => by
    simp only [List.mem_cons, Prod.mk.injEq] at hm
    rcases hm with ⟨_, hc⟩ | hm
    · cases hc
    · exact ownL_mem (by simpa [ownL] using h) f b hm

theorem fits_of {H : Heap} {c : Con} (vs : List Vw) (h0 : vs.length = c.n0) (h1 : argsW (vwl vs) c.n0 c.args) (h2 : preL H (vwl vs) c.n0 c.pre) (h3 : uniqB (vwl vs) (List.range c.n0) = true) (h4 : domL H vs) (h5 : ownL c.wr ∧ (shrL c.wr = true → roL H vs)) (h6 : c.n0 ≤ c.n) : Fits H c (vwl vs) :=
  ⟨argsW_mem h1, preL_get h2, fun i j g hi hj hne hp => uniqB_spec h3 (List.mem_range.2 hi) (List.mem_range.2 hj) hne hp, fun i g hi hg => by
    have : vs[i]? = some (vwl vs i) := by
      have hl : i < vs.length := by omega
      simp [vwl, hl]
    exact domL_get h4 i _ g this hg, fun i g b m hi hg => by
    have : vs[i]? = some (vwl vs i) := by
      have hl : i < vs.length := by omega
      simp [vwl, hl]
    rw [hg] at this
    exact domL_ro h4 i g b m this, ownL_mem h5.1, fun f b hm hs i g b2 m r hi hg => by
    have : vs[i]? = some (vwl vs i) := by
      have hl : i < vs.length := by omega
      simp [vwl, hl]
    rw [hg] at this
    exact roL_get (h5.2 (shrL_mem hm hs)) i g b2 m r this, h6⟩

/-- The function has a text and keeps to the contract. -/
def FnOK (P : Program) (f : FuncId) (c : Con) : Prop := FnR P f c ∧ Callable P f

theorem call_k {P : Program} {ck : Bool} {o : Oper} {ev : Operand → SV} {H : Heap} {nx : Nat} {KS : Eff → Prop} {cl : Call} {f : FuncId} {c : Con} (vs : List Vw) (hfn : FnOK P f c) (ho : o.op = .call cl) (hcl : cl.callee = .value (.func f))
    (hargs : cl.args.toList.map ev = c.args.map (·.map (mcv (vwl vs)))) (hf : Fits H c (vwl vs)) (h : KS (c.effAt (vwl vs) nx)) : stepK P ck o ev H nx KS := by
  unfold stepK
  rw [ho]
  simp only [hcl]
  exact ⟨c, _, hfn.1, hfn.2, hargs, hf, h⟩

theorem wk_by {sl sl' : List SV} {H H' : Heap} {nx nx' n0 : Nat} (vs : List Vw) (h1 : wkSl (vwl vs) nx' sl' sl) (h2 : wkH H (vwl vs) nx' H') (h3 : uniqB (vwl vs) (H'.map (·.1)) = true) (h4 : (List.range n0).all (fun i => match vwl vs i with | .same g => g == i | _ => false) = true) (h5 : n0 ≤ nx') :
    Wk n0 (sl, H, nx) (sl', H', nx') := by
  refine wk_of (vwl vs) n0 h1 h2 (fun f g b b' k hne hb hb' hp hp' => ?_) (fun i hi => ?_) h5
  · exact uniqB_spec h3 (hget_key hb) (hget_key hb') hne hp (by rw [hp']; rfl)
  · rw [List.all_eq_true] at h4
    have := h4 i (List.mem_range.2 hi)
    split at this
    · rename_i g hg
      rw [hg]
      simp only [beq_iff_eq] at this
      rw [this]
    · cases this

/-- the numbers of the blocks that are there -/
def liveK (l : Heap) : List Nat := l.filterMap fun p => p.2.map fun _ => p.1

theorem hget_live : ∀ {l : Heap} {f : Nat} {b : Blk}, hget l f = some b → f ∈ liveK l
  | (g, x) :: l, f, b, h => by
    simp only [hget] at h
    split at h
    · rename_i e; subst e; subst h; simp [liveK]
    · have := hget_live h
      cases x with
      | none => simpa [liveK] using this
      | some x => simp only [liveK, List.filterMap_cons, Option.map_some, List.mem_cons] at this ⊢; exact .inr this

theorem post_by {P : Program} {fn : Func} {c : Con} {e : Exit} {sl : List SV} {H : Heap} {nx : Nat} (vs : List Vw) {rs : List ResultVar} (he : e = .ret ∨ e = .normal) (hres : fn.results.toList = rs) {xs : List (CV ⊕ List CV)} (hxs : resvs P sl H rs = some xs) (h2 : svRes xs = c.r.map (mcv (vwl vs))) (h3 : wfs (wfc (vwl vs) c.n) c.r)
    (h4 : wkH H (vwl vs) c.n c.wr) (h5 : uniqB (vwl vs) (liveK c.wr) = true) (h6 : (List.range c.n0).all (fun i => match vwl vs i with | .same g => g == i | _ => false) = true) : Post P fn c e sl H nx := by
  refine ⟨he, _, Wk.refl, xs, vwl vs, by rw [hres]; exact hxs, h2, h3, h4, fun f g b b' k hne hb hb' hp hp' => ?_, fun i hi => ?_⟩
  · exact uniqB_spec h5 (hget_live hb) (hget_live hb') hne hp (by rw [hp']; rfl)
  · rw [List.all_eq_true] at h6
    have := h6 i (List.mem_range.2 hi)
    split at this
    · rename_i g hg
      rw [hg]
      simp only [beq_iff_eq] at this
      rw [this]
    · cases this

def conB (c : Con) : Bool :=
  decide (c.n0 ≤ c.n) && c.wr.all (fun p => decide (p.1 < c.n) && (decide (c.n0 ≤ p.1) || (match hget c.pre p.1 with | some b => b.own | none => false)) && (match p.2 with | some b => b.own | none => true)) &&
    decide ((c.wr.map (·.1)).Nodup) && c.pre.all (fun p => (hget c.pre p.1).isSome && (match p.2 with | some b => !b.own || (c.wr.map (·.1)).contains p.1 | none => true))

theorem conB_ok {c : Con} (h : conB c = true) : ConOK c ∧ ∀ f ∈ c.pre.map (·.1), ∃ blk, hget c.pre f = some blk := by
  simp only [conB, Bool.and_eq_true, decide_eq_true_eq, List.all_eq_true] at h
  obtain ⟨⟨⟨h1, h2⟩, h3⟩, h4⟩ := h
  refine ⟨⟨h1, fun f b hb => ?_, h3, fun f blk hb ho => ?_, fun f b hb => ?_⟩, fun f hf => ?_⟩
  · obtain ⟨⟨q1, q2⟩, _⟩ := h2 (f, b) hb
    refine ⟨q1, fun hlt => ?_⟩
    simp only [Bool.or_eq_true, decide_eq_true_eq] at q2
    rcases q2 with q2 | q2
    · omega
    · cases hg : hget c.pre f with
      | none => rw [hg] at q2; cases q2
      | some blk => rw [hg] at q2; exact ⟨blk, rfl, q2⟩
  · have := (h4 (f, some blk) (hget_mem hb)).2
    simp only [ho, Bool.not_true, Bool.false_or, List.contains_eq_mem, decide_eq_true_eq] at this
    exact this
  · exact (h2 (f, some b) hb).2
  · obtain ⟨⟨g, x⟩, q1, q2⟩ := List.mem_map.1 hf
    simp only at q2; subst q2
    exact Option.isSome_iff_exists.1 (h4 _ q1).1

theorem fnOK_of {P : Program} {f : FuncId} {fn : Func} {code : Code} {c : Con} (ck : Bool) (hmix : P.follows .mixedOrders = true) (hfn : P.funcs[f]? = some fn) (hb : fn.body = some code) (hname : (fn.name == "runtime.NumGoroutine") = false) (hc : conB c = true)
    (h : wpC P ck (drawK P ck) c.n0 code (c.args ++ List.replicate (fn.ntmps - c.args.length) .any) c.pre c.n0 (Post P fn c)) : FnOK P f c :=
  ⟨fnR_of (draw_ok hmix) hfn hb (conB_ok hc).1 (conB_ok hc).2 h, fn, hfn, hname, by rw [hb]; rfl⟩

section
variable {P : Program} {ck : Bool} {n0 : Nat} {sl : List SV} {H : Heap} {nx : Nat}

theorem draw_k {id : Nat} {l : List Oper} {Q : Exit → List SV → Heap → Nat → Prop} (h0 : (l.all fun o => !isEsc o.op) = true) (h : ∀ D : List Keys → Prop, (∀ rs, indepK l.toArray rs = true → D rs) → lexD P ck (dstsOf l) l sl H nx [] fun rs sl H nx => D rs ∧ Q .normal sl H nx) : wpC P ck (drawK P ck) n0 (.region id l.toArray true) sl H nx Q := ⟨_, Wk.refl, .inr ⟨h0, h _ fun _ h => h⟩⟩

theorem lexd_nil {ds : List (Option Tmp)} {acc : List Keys} {D : List Keys → Prop} {K : List SV → Heap → Nat → Prop} (h1 : D acc) (h : K sl H nx) : lexD P ck ds [] sl H nx acc fun rs sl H nx => D rs ∧ K sl H nx := ⟨h1, h⟩

theorem lexd_cons {ds : List (Option Tmp)} {acc : List Keys} {K : List Keys → List SV → Heap → Nat → Prop} {d : Option Tmp} {op : Op} {t : TypeId} {pos : String} {af : Array Edge} {l : List Oper}
    (h : ∀ KS : Eff → Prop, (∀ r rd wr nx', lexD P ck ds l (putS sl d r) (hputs H wr) nx' (acc ++ [some (rd, wr.map (·.1))]) K → KS ⟨r, rd, wr, nx'⟩) → stepK P ck ⟨d, op, t, pos, af, none⟩ (onOps ⟨d, op, t, pos, af, none⟩ (evS sl)) H nx KS) :
    lexD P ck ds (⟨d, op, t, pos, af, none⟩ :: l) sl H nx acc K :=
  h _ fun r rd wr nx' h => h

theorem guardd_go {ds : List (Option Tmp)} {acc : List Keys} {K : List Keys → List SV → Heap → Nat → Prop} {dd : Option Tmp} {op : Op} {tt : TypeId} {pos : String} {af : Array Edge} {l : List Oper} {g : Nat × Bool} (h : lexD P ck ds (⟨dd, op, tt, pos, af, some g⟩ :: l) sl H nx acc K) : lexD P ck ds (⟨dd, op, tt, pos, af, some g⟩ :: l) sl H nx acc K := h

theorem lexd_gone {ds : List (Option Tmp)} {acc : List Keys} {K : List Keys → List SV → Heap → Nat → Prop} {dd : Option Tmp} {op : Op} {tt : TypeId} {pos : String} {af : Array Edge} {l : List Oper} {j : Nat} {want : Bool} {d : Tmp} (hd : ds[j]? = some (some d)) (ht : sl[d]? = some (.tup []))
    (h : lexD P ck ds l (putS sl dd (.tup [])) H nx (acc ++ [none]) K) : lexD P ck ds (⟨dd, op, tt, pos, af, some (j, want)⟩ :: l) sl H nx acc K := by
  unfold lexD
  simp only [hd, ht]
  exact h

theorem lexd_guard {ds : List (Option Tmp)} {acc : List Keys} {K : List Keys → List SV → Heap → Nat → Prop} {dd : Option Tmp} {op : Op} {tt : TypeId} {pos : String} {af : Array Edge} {l : List Oper} {j : Nat} {want : Bool} {d : Tmp} {t : Bool} (hd : ds[j]? = some (some d)) (ht : sl[d]? = some (.c (.v (.bool t))))
    (h1 : t = want → ∀ KS : Eff → Prop, (∀ r rd wr nx', lexD P ck ds l (putS sl dd r) (hputs H wr) nx' (acc ++ [some (rd, wr.map (·.1))]) K → KS ⟨r, rd, wr, nx'⟩) → stepK P ck ⟨dd, op, tt, pos, af, some (j, want)⟩ (onOps ⟨dd, op, tt, pos, af, some (j, want)⟩ (evS sl)) H nx KS)
    (h2 : t = !want → lexD P ck ds l (putS sl dd (.tup [])) H nx (acc ++ [none]) K) : lexD P ck ds (⟨dd, op, tt, pos, af, some (j, want)⟩ :: l) sl H nx acc K := by
  unfold lexD
  simp only [hd, ht]
  exact ⟨fun e => h1 e _ fun r rd wr nx' h => h, h2⟩
end

end Go.Proofs.Ytfnhchcgieeedaa

namespace Go.Proofs.Ytfnhchcgieeedaa
set_option linter.unusedSimpArgs false
set_option linter.unusedVariables false
set_option linter.defProp false
open Go.RowKit

def isRo : Option Blk → Bool
  | some (.ro _) => true
  | _ => false

def matC (pre H : Heap) : CV → CV → List (Nat × Vw)
  | .sl i _ _ _, .sl g _ b m => [(i, match isRo (hget pre i) with | true => .ro g b m (isRo (hget H g)) | false => .same g)]
  | .sl i sz _ _, .nil => [(i, .emp sz (!isRo (hget pre i)))]
  | .ptr i _ _, .ptr g _ _ => [(i, .same g)]
  | _, _ => []

def matL (pre H : Heap) : List CV → List CV → List (Nat × Vw)
  | x :: l, y :: m => matC pre H x y ++ matL pre H l m
  | _, _ => []

def matT (pre H : Heap) : List (CV ⊕ List CV) → List (CV ⊕ List CV) → List (Nat × Vw)
  | .inl x :: l, .inl y :: m => matC pre H x y ++ matT pre H l m
  | .inr x :: l, .inr y :: m => matL pre H x y ++ matT pre H l m
  | _, _ => []

def matS (pre H : Heap) : SV → SV → List (Nat × Vw)
  | .c x, .c y => matC pre H x y
  | .agg l, .agg m => matL pre H l m
  | .tup l, .tup m => matT pre H l m
  | _, _ => []

def matSs (pre H : Heap) : List SV → List SV → List (Nat × Vw)
  | x :: l, y :: m => matS pre H x y ++ matSs pre H l m
  | _, _ => []

def matB (pre H : Heap) : Option Blk → Option Blk → List (Nat × Vw)
  | some (.box _ cs), some (.box _ ds) => matL pre H cs ds
  | some (.nst _ _ (some x)), some (.nst _ _ (some y)) => matC pre H x.2.2 y.2.2
  | _, _ => []

def matH (kd pre H : Heap) : List (Nat × Vw) → List (Nat × Vw)
  | [] => []
  | (i, .same g) :: l => matB kd H (hget pre i) (hget H g) ++ matH kd pre H l
  | (_, .ro _ _ _ _) :: l => matH kd pre H l
  | (_, .emp _ _) :: l => matH kd pre H l

def vwGet : List (Nat × Vw) → Nat → Vw
  | [], i => .same i
  | (j, v) :: l, i => if i = j then v else vwGet l i

def vwFrom (m : List (Nat × Vw)) (i : Nat) : Nat → List Vw
  | 0 => []
  | k + 1 => vwGet m i :: vwFrom m (i + 1) k

def vwMore (kd pre H : Heap) (n : Nat) (m : List (Nat × Vw)) : List Vw := vwFrom (m ++ matH kd pre H m) 0 n
/-- How the blocks of 'pre' are seen in H, found out by the slots; 'kd' tells which of them are only read. -/
def vwAll (kd pre H : Heap) (n : Nat) (xs ys : List SV) : List Vw := vwMore kd pre H n (matSs kd H xs ys)

/-- What is to be shown at a call. -/
structure CallK (c : Con) (vs : List Vw) (args : List SV) (H : Heap) (nx : Nat) (KS : Eff → Prop) : Prop where
  len : vs.length = c.n0
  args : args = c.args.map (·.map (mcv (vwl vs)))
  argsW : argsW (vwl vs) c.n0 c.args
  pre : preL H (vwl vs) c.n0 c.pre
  uniq : uniqB (vwl vs) (List.range c.n0) = true
  dom : domL H vs
  own : ownL c.wr ∧ (shrL c.wr = true → roL H vs)
  le : c.n0 ≤ c.n
  k : KS (c.effAt (vwl vs) nx)

theorem call_a {P : Program} {ck : Bool} {o : Oper} {ev : Operand → SV} {H : Heap} {nx : Nat} {KS : Eff → Prop} {cl : Call} {f : FuncId} {c : Con} (hfn : FnOK P f c) (ho : o.op = .call cl) (hcl : cl.callee = .value (.func f))
    (h : ∃ args, args = cl.args.toList.map ev ∧ ∃ vs, vwAll c.pre c.pre H c.n0 c.args args = vs ∧ CallK c vs args H nx KS) : stepK P ck o ev H nx KS := by
  obtain ⟨args, rfl, vs, _, h⟩ := h
  exact call_k vs hfn ho hcl h.args (fits_of vs h.len h.argsW h.pre h.uniq h.dom h.own h.le) h.k

theorem call_go {P : Program} {ck : Bool} {dd : Option Tmp} {tt : TypeId} {pos : String} {af : Array Edge} {g : Option (Nat × Bool)} {f : FuncId} {ars : Array Operand} {ts : Array TypeId} {ev : Operand → SV} {H : Heap} {nx : Nat} {KS : Eff → Prop}
    (h : stepK P ck ⟨dd, .call { callee := .value (.func f), args := ars, argTypes := ts }, tt, pos, af, g⟩ ev H nx KS) : stepK P ck ⟨dd, .call { callee := .value (.func f), args := ars, argTypes := ts }, tt, pos, af, g⟩ ev H nx KS := h

/-- What is to be shown where a state is given up for a weaker one. -/
structure WkK (vs : List Vw) (n0 : Nat) (sl sl' : List SV) (H H' : Heap) (nx' : Nat) : Prop where
  uniq : uniqB (vwl vs) (H'.map (·.1)) = true
  same : (List.range n0).all (fun i => match vwl vs i with | .same g => g == i | _ => false) = true
  le : n0 ≤ nx'
  slots : wkSl (vwl vs) nx' sl' sl
  heap : wkH H (vwl vs) nx' H'

theorem wk_a {sl sl' : List SV} {H H' : Heap} {nx nx' n0 : Nat} (h : ∃ vs, vwAll [] H' H nx' sl' sl = vs ∧ WkK vs n0 sl sl' H H' nx') : Wk n0 (sl, H, nx) (sl', H', nx') := by
  obtain ⟨vs, _, h⟩ := h
  exact wk_by vs h.slots h.heap h.uniq h.same h.le

structure PostK (c : Con) (vs : List Vw) (x : SV) (H : Heap) : Prop where
  uniq : uniqB (vwl vs) (liveK c.wr) = true
  same : (List.range c.n0).all (fun i => match vwl vs i with | .same g => g == i | _ => false) = true
  r : x = c.r.map (mcv (vwl vs))
  rW : wfs (wfc (vwl vs) c.n) c.r
  heap : wkH H (vwl vs) c.n c.wr

theorem post_a {P : Program} {fn : Func} {c : Con} {e : Exit} {sl : List SV} {H : Heap} {nx : Nat} {rs : List ResultVar} (hres : fn.results.toList = rs) (he : e = .ret ∨ e = .normal)
    (h : ∃ xs, resvs P sl H rs = some xs ∧ ∃ x, x = svRes xs ∧ ∃ vs, vwAll [] c.wr H c.n [c.r] [x] = vs ∧ PostK c vs x H) : Post P fn c e sl H nx := by
  obtain ⟨xs, hxs, x, rfl, vs, _, h⟩ := h
  exact post_by vs he hres hxs h.r h.rW h.heap h.uniq h.same

def opDst (l : List Oper) : List Nat := l.filterMap (·.dst)

def dsts : Code → List Nat
  | .skip => []
  | .region _ ops _ => opDst ops.toList
  | .seq x y => dsts x ++ dsts y
  | .cond _ x y => dsts x ++ dsts y
  | .block _ c => dsts c
  | .loop c => dsts c
  | _ => []

/-- the slots but those in 'd' -/
def keepSl (d : List Nat) : Nat → List SV → List SV
  | _, [] => []
  | i, x :: l => (if d.contains i then .any else x) :: keepSl d (i + 1) l

def setsSl : List SV → List (Nat × SV) → List SV
  | sl, [] => sl
  | sl, (i, x) :: l => setsSl (sl.set i x) l

section
variable {P : Program} {ck : Bool} {dr : Array Oper → List SV → Heap → Nat → (List SV → Heap → Nat → Prop) → Prop} {n0 : Nat} {sl : List SV} {H : Heap} {nx : Nat} {Q : Exit → List SV → Heap → Nat → Prop}

/-- A loop: 'vs' tells the slots that its rounds change, 'hp' its blocks, 'kill' the slots that nobody looks at. -/
theorem loop_v {c : Code} {X : Type} (kill : List Nat) (vs : X → List (Nat × SV)) (hp : X → Heap) (n : Nat) (μ : X → Nat) (x0 : X)
    (h : ∃ s0, s0 = keepSl (kill ++ dsts c) 0 sl ∧ Wk n0 (sl, H, nx) (setsSl s0 (vs x0), hp x0, n) ∧
      ∀ x, ∀ K : Exit → List SV → Heap → Nat → Prop, Rnd (∀ x' sl H nx, μ x' < μ x → Wk n0 (sl, H, nx) (setsSl s0 (vs x'), hp x', n) → K .normal sl H nx) → (∀ id sl H nx, Q (.exit id) sl H nx → K (.exit id) sl H nx) → (∀ sl H nx, Q .ret sl H nx → K .ret sl H nx) →
        wpC P ck dr n0 c (setsSl s0 (vs x)) (hp x) n K) :
    wpC P ck dr n0 (.loop c) sl H nx Q := by
  obtain ⟨s0, _, h1, h2⟩ := h
  exact loop_k (fun x => (setsSl s0 (vs x), hp x, n)) μ x0 h1 h2
end

end Go.Proofs.Ytfnhchcgieeedaa

namespace Go.Proofs.Ytfnhchcgieeedaa
set_option linter.unusedSimpArgs false
set_option linter.unusedVariables false
set_option linter.defProp false
open Go.RowKit Go.ChangeShapes Go.WideShapes Go.ChangeAt Go.WideElems Go.Deep

def tiles (P : Program) : List Field → Nat → Option Nat
  | [], o => some o
  | f :: l, o => if f.offset = o then tiles P l (o + P.cellsOf f.type) else none

/-- The type is made of numbers, truth values, texts, slices and structs. -/
def goodT (P : Program) : Nat → TypeId → Bool
  | 0, _ => false
  | d + 1, t => match P.underlying t with
    | some .bool => P.cellsOf t == 1
    | some (.int _) => P.cellsOf t == 1
    | some .string => P.cellsOf t == 1
    | some (.slice e) => P.cellsOf t == 1 && decide (0 < P.cellsOf e) && goodT P d e
    | some (.struct fs) => tiles P fs.toList 0 == some (P.cellsOf t) && fs.toList.all fun f => goodT P d f.type
    | _ => false

def ShF (S : TypeId → List DC → Prop) : List Field → List DC → Prop
  | [], ds => ds = []
  | f :: l, ds => ∃ d1 d2, ds = d1 ++ d2 ∧ S f.type d1 ∧ ShF S l d2

/-- The data has the type's form. -/
def Sh (P : Program) : Nat → TypeId → List DC → Prop
  | 0, _, _ => False
  | d + 1, t, ds => match P.underlying t with
    | some .bool => ∃ b, ds = [.v (.bool b)]
    | some (.int k) => ∃ n, ds = [.v (.int k n)] ∧ (Lit.int k n).wf = true
    | some .string => ∃ s, ds = [.v (.string s)] ∧ s.size ≤ maxLen
    | some (.slice e) => ∃ es : List (List DC), ds = [.sl e (P.cellsOf e) es] ∧ es.length ≤ maxLen ∧ ∀ el ∈ es, Sh P d e el
    | some (.struct fs) => ShF (Sh P d) fs.toList ds
    | _ => False

theorem addr_spot' {w : World} {a : Addr} {u : Value} (h0 : w.cell? a = some u) : a = ⟨a.block, a.off, none⟩ := by
  have : a.spot = none := by
    unfold World.cell? at h0
    split at h0
    · split at h0
      · cases h0
      · rename_i hs
        simpa using hs
    · cases h0
  cases a; simp_all

theorem addr_add' (b o i : Nat) : (⟨b, o, none⟩ : Addr).add i = ⟨b, o + i, none⟩ := by unfold Addr.add; split <;> simp_all

section
variable {H : Type} {enc : TypeId × Value → H} {P : Program} {w : World}

theorem rd_all : ∀ (d : Nat) (t : TypeId), goodT P d t = true → ∀ (fuel : Nat) (cs : List Value) (x : DataW H × List MemPlace), DataW.trod enc P w 0 (fun _ => true) true fuel t cs = some x →
    ∃ ds, All2 (Rd w (· < w.heap.size)) ds cs ∧ Sh P d t ds ∧ ds.length = P.cellsOf t
  | 0, t, h, _, _, _, _ => by simp [goodT] at h
  | d + 1, t, h, fuel, cs, x, hx => by
    unfold goodT at h
    split at h
    · rename_i ht
      obtain ⟨b, rfl, _⟩ := DataW.trod_bool ht hx
      exact ⟨[.v (.bool b)], ⟨.v rfl, trivial⟩, by unfold Sh; rw [ht]; exact ⟨b, rfl⟩, by simp at h; simp [h]⟩
    · rename_i k ht
      obtain ⟨n, rfl, _, hw⟩ := DataW.trod_int ht hx
      exact ⟨[.v (.int k n)], ⟨.v rfl, trivial⟩, by unfold Sh; rw [ht]; exact ⟨n, rfl, hw⟩, by simp at h; simp [h]⟩
    · rename_i ht
      obtain ⟨s, rfl, _, hw⟩ := DataW.trod_string ht hx
      exact ⟨[.v (.string s)], ⟨.v rfl, trivial⟩, by unfold Sh; rw [ht]; exact ⟨s, rfl, hw⟩, by simp at h; simp [h]⟩
    · rename_i e ht
      simp only [Bool.and_eq_true, beq_iff_eq, decide_eq_true_eq] at h
      obtain ⟨⟨h1, h2⟩, h3⟩ := h
      rcases open_slice ht hx with ⟨rfl, _⟩ | ⟨a, len, cap, m, n, D, Pl, rfl, hb, hl, hm, hmm, _, hel⟩
      · refine ⟨[.sl e (P.cellsOf e) []], ⟨?_, trivial⟩, by unfold Sh; rw [ht]; exact ⟨[], rfl, Nat.zero_le _, fun el he => (by cases he)⟩, by simp [h1]⟩
        exact Rd.sl (es := []) (fun _ _ => undef) (Nat.le_refl _) (Nat.zero_le _) (fun _ => rfl) (fun e he => (by cases he)) (fun h => absurd rfl h) (fun i e j c hi => by simp at hi)
      · simp only [if_true] at hmm
        obtain ⟨V, hV⟩ := choose_lt (α := List Value × List DC) (n := len) (p := fun i v => w.cells? 0 (a.add (i * P.cellsOf e)) (P.cellsOf e) = some v.1 ∧ All2 (Rd w (· < w.heap.size)) v.2 v.1 ∧ Sh P d e v.2 ∧ v.2.length = P.cellsOf e) (fun i hi => by
          obtain ⟨cs', q1, q2⟩ := hel i (by omega)
          obtain ⟨ds, q3, q4, q5⟩ := rd_all d e h3 _ _ _ q2
          exact ⟨(cs', ds), q1, q3, q4, q5⟩)
        let es : List (List DC) := (List.range len).map fun i => (V i).2
        have hes : es.length = len := by simp [es]
        have hget : ∀ i, i < len → es[i]? = some (V i).2 := fun i hi => by simp [es, hi]
        have hsh : ∀ el ∈ es, Sh P d e el := by
          intro el he
          obtain ⟨i, hi, rfl⟩ := List.mem_map.1 he
          exact (hV i (List.mem_range.1 hi)).2.2.1
        refine ⟨[.sl e (P.cellsOf e) es], ⟨?_, trivial⟩, by unfold Sh; rw [ht]; exact ⟨es, rfl, by omega, hsh⟩, by simp [h1]⟩
        · have : Value.slice (some a) len cap = Value.slice (some a) es.length cap := by rw [hes]
          rw [this]
          refine Rd.sl (fun i j => ((V i).1[j]?).getD undef) (by omega) hm (fun h => (by cases h)) (fun e' he => ?_) (fun hne => ?_) (fun i e' j c hi hj => ?_)
          · obtain ⟨i, hi, rfl⟩ := List.mem_map.1 he
            exact (hV i (List.mem_range.1 hi)).2.2.2
          · have hpos : 0 < len := by
              rcases Nat.eq_zero_or_pos len with h0 | h0
              · exact absurd (List.eq_nil_of_length_eq_zero (by omega)) hne
              · exact h0
            have cell : ∀ i j, i < len → j < P.cellsOf e → w.cell? ((a.add (i * P.cellsOf e)).add j) = some (((V i).1[j]?).getD undef) := by
              intro i j hi hj
              obtain ⟨_, q1, q2⟩ := World.cells?_some (hV i hi).1
              rw [q2 j hj]
              have : j < (V i).1.length := by omega
              simp [this]
            have c0 := cell 0 0 hpos h2
            have e0 : (a.add (0 * P.cellsOf e)).add 0 = a := by simp [Addr.add]
            rw [e0] at c0
            have ha := addr_spot' c0
            refine ⟨a.block, a.off, congrArg some ha, World.block_lt_of_cell? w _ c0, fun i j hi hj => ?_⟩
            have := cell i j (by omega) hj
            rw [ha, addr_add', addr_add'] at this
            exact this
          · have hil : i < len := by rw [← hes]; exact (List.getElem?_eq_some_iff.1 hi).1
            rw [hget i hil] at hi
            cases hi
            obtain ⟨u, q1, q2⟩ := (hV i hil).2.1.get hj
            simp only [q1, Option.getD_some]
            exact q2
    · rename_i fs ht
      simp only [Bool.and_eq_true, beq_iff_eq, List.all_eq_true] at h
      obtain ⟨h1, h2⟩ := h
      obtain ⟨xs, m, _, _, hl, hlen, hf⟩ := DataW.trod_struct ht hx
      have hf' : ∀ f ∈ fs.toList, ∃ y, DataW.trod enc P w 0 (fun _ => true) true m f.type ((cs.drop f.offset).take (P.cellsOf f.type)) = some y := by
        intro f hfm
        obtain ⟨i, hi⟩ := List.mem_iff_getElem?.1 hfm
        have hi' : fs[i]? = some f := by simpa using hi
        have hlt : i < fs.size := (Array.getElem?_eq_some_iff.1 hi').1
        exact ⟨xs[i]'(by omega), by rw [hf i f hi']; simp [hlen, hlt]⟩
      have key : ∀ (l : List Field) (o : Nat), (∀ f ∈ l, goodT P d f.type = true) → (∀ f ∈ l, ∃ y, DataW.trod enc P w 0 (fun _ => true) true m f.type ((cs.drop f.offset).take (P.cellsOf f.type)) = some y) → tiles P l o = some (P.cellsOf t) →
          ∃ ds, All2 (Rd w (· < w.heap.size)) ds (cs.drop o) ∧ ShF (Sh P d) l ds := by
        intro l
        induction l with
        | nil =>
          intro o _ _ ho
          simp only [tiles, Option.some.injEq] at ho
          refine ⟨[], ?_, rfl⟩
          rw [List.drop_eq_nil_of_le (by omega)]
          trivial
        | cons f l ih =>
          intro o hg hy ho
          simp only [tiles] at ho
          split at ho
          · rename_i hfo
            obtain ⟨ds2, q1, q2⟩ := ih _ (fun f hf => hg f (by simp [hf])) (fun f hf => hy f (by simp [hf])) ho
            obtain ⟨y, hy⟩ := hy f (by simp)
            obtain ⟨ds1, q3, q4, q5⟩ := rd_all d f.type (hg f (by simp)) _ _ _ hy
            refine ⟨ds1 ++ ds2, ?_, ds1, ds2, rfl, q4, q2⟩
            rw [hfo] at q3
            have := q3.append q1
            rw [← List.drop_drop, List.take_append_drop] at this
            exact this
          · cases ho
      obtain ⟨ds, q1, q2⟩ := key fs.toList 0 (fun f hf => h2 f hf) hf' h1
      rw [List.drop_zero] at q1
      exact ⟨ds, q1, by unfold Sh; rw [ht]; exact q2, by rw [q1.length]; exact hl⟩
    · cases h
end

/-- The arguments of a call as a contract tells them; 'true': a struct. -/
def impA : List (Bool × List DC) → Nat → List SV × Heap × Nat
  | [], nx => ([], [], nx)
  | (b, ds) :: l, nx =>
    let r := impC ds nx
    let q := impA l r.2.2
    ((match b, r.1 with
      | true, cs => .agg cs
      | false, [c] => .c c
      | _, _ => .any) :: q.1, r.2.1 ++ q.2.1, q.2.2)

def ArgR (w : World) (F : Nat → Prop) (p : Bool × List DC) (v : Value) : Prop :=
  match p.1 with
  | true => ∃ us : List Value, v = .agg us.toArray ∧ All2 (Rd w F) p.2 us
  | false => ∃ d, p.2 = [d] ∧ Rd w F d v

theorem hget_append (l m : Heap) (f : Nat) (blk : Blk) (h : hget (l ++ m) f = some blk) : hget l f = some blk ∨ hget m f = some blk := by
  induction l with
  | nil => exact .inr h
  | cons p l ih =>
    obtain ⟨g, x⟩ := p
    simp only [List.cons_append, hget] at h ⊢
    by_cases hfg : f = g
    · rw [if_pos hfg] at h ⊢; exact .inl h
    · rw [if_neg hfg] at h ⊢; exact ih h

theorem impA_le : ∀ (l : List (Bool × List DC)) (nx : Nat), nx ≤ (impA l nx).2.2
  | [], nx => Nat.le_refl _
  | (b, ds) :: l, nx => Nat.le_trans (impC_le ds nx) (impA_le l _)

theorem impA_ok {w : World} {F : Nat → Prop} (hF : ∀ b, F b → b < w.heap.size) : ∀ (l : List (Bool × List DC)) (vs : List Value) (nx : Nat) (ρ : Nat → At) (V : Nat → Prop), All2 (ArgR w F) l vs →
    (∀ f, nx ≤ f → f < (impA l nx).2.2 → ¬ V f) →
    ∃ ρ', (∀ f, f < nx ∨ (impA l nx).2.2 ≤ f → ρ' f = ρ f) ∧ All2 (SVr (newV V nx (impA l nx).2.2) ρ') (impA l nx).1 vs ∧ Mem (newV V nx (impA l nx).2.2) ρ' (hget (impA l nx).2.1) w ∧
      ∀ f blk, hget (impA l nx).2.1 f = some blk → blk.own = false
  | [], [], nx, ρ, V, _, _ => ⟨ρ, fun _ _ => rfl, trivial, ⟨fun f blk h => (by cases h), fun f g blk blk' _ h => (by cases h)⟩, fun f blk h => (by cases h)⟩
  | [], _ :: _, _, _, _, h, _ => h.elim
  | _ :: _, [], _, _, _, h, _ => h.elim
  | (b, ds) :: l, v :: vs, nx, ρ, V, h, hV => by
    have hle := impC_le ds nx
    have hle2 := impA_le l (impC ds nx).2.2
    have hnx : (impA ((b, ds) :: l) nx).2.2 = (impA l (impC ds nx).2.2).2.2 := rfl
    rw [hnx] at hV ⊢
    obtain ⟨us, hus, hv⟩ : ∃ us, All2 (Rd w F) ds us ∧ (b = true → v = .agg us.toArray) ∧ (b = false → ∃ d, ds = [d] ∧ us = [v]) := by
      have h1 := h.1
      unfold ArgR at h1
      cases b with
      | true => obtain ⟨us, rfl, hu⟩ := h1; exact ⟨us, hu, fun _ => rfl, fun h => (by cases h)⟩
      | false => obtain ⟨d, hd, hu⟩ := h1; simp only at hd; subst hd; exact ⟨[v], ⟨hu, trivial⟩, fun h => (by cases h), fun _ => ⟨d, rfl, rfl⟩⟩
    obtain ⟨ρ1, a1, a2, a3, a4⟩ := impC_ok hF ds us nx ρ V hus fun f h1 h2 => hV f h1 (by omega)
    obtain ⟨ρ2, b1, b2, b3, b4⟩ := impA_ok hF l vs (impC ds nx).2.2 ρ1 (newV V nx (impC ds nx).2.2) h.2 fun f h1 h2 h3 => by
      rcases h3 with h3 | h3
      · exact hV f (by omega) h2 h3
      · omega
    have nv : ∀ f, newV (newV V nx (impC ds nx).2.2) (impC ds nx).2.2 (impA l (impC ds nx).2.2).2.2 f → newV V nx (impA l (impC ds nx).2.2).2.2 f := by
      rintro f ((hf | hf) | hf)
      · exact .inl hf
      · exact .inr (by omega)
      · exact .inr (by omega)
    have old : ∀ f, newV V nx (impC ds nx).2.2 f → newV V nx (impA l (impC ds nx).2.2).2.2 f ∧ ρ2 f = ρ1 f := by
      intro f hf
      refine ⟨nv f (.inl hf), b1 f ?_⟩
      rcases hf with hf | hf
      · by_cases h1 : f < (impC ds nx).2.2
        · exact .inl h1
        · by_cases h2 : f < (impA l (impC ds nx).2.2).2.2
          · exact absurd hf (hV f (by omega) h2)
          · exact .inr (by omega)
      · exact .inl hf.2
    refine ⟨ρ2, fun f hf => ?_, ⟨?_, b2.mono fun x u hx => hx.mono fun f hf => ⟨nv f hf, rfl⟩⟩, ⟨fun f blk hb => ?_, fun f g blk blk' hne hb _ b' hx => ?_⟩, fun f blk hb => ?_⟩
    · rw [b1 f (by omega), a1 f (by omega)]
    · have c2 := a2.mono (R' := CVr (newV V nx (impA l (impC ds nx).2.2).2.2) ρ2) fun x u hx => CVr.mono (fun f hf => ⟨(old f hf).1, congrArg At.nf (old f hf).2⟩) hx
      cases b with
      | true => exact ⟨us, hv.1 rfl, c2⟩
      | false =>
        obtain ⟨d, rfl, rfl⟩ := hv.2 rfl
        have hl := a2.length
        show SVr _ _ (match false, (impC [d] nx).1 with | true, cs => .agg cs | false, [c] => .c c | _, _ => .any) v
        generalize (impC [d] nx).1 = L at c2 hl
        match L, hl, c2 with
        | [c], _, c2 => exact c2.1
    · rcases hget_append _ _ f blk hb with h1 | h1
      · obtain ⟨q1, q2, q3⟩ := a3.dom f blk h1
        obtain ⟨q4, q5⟩ := old f q1
        rw [q5]
        exact ⟨q4, q2.keep (fun f hf => ⟨(old f hf).1, congrArg At.nf (old f hf).2⟩) (fun _ _ => rfl), q3⟩
      · obtain ⟨q1, q2, q3⟩ := b3.dom f blk h1
        exact ⟨nv f q1, q2.keep (fun f hf => ⟨nv f hf, rfl⟩) (fun _ _ => rfl), q3⟩
    · exfalso
      rcases hget_append _ _ f blk hb with h1 | h1
      · exact exc_ro (a4 f blk h1).1 hx
      · exact exc_ro (b4 f blk h1) hx
    · rcases hget_append _ _ f blk hb with h1 | h1
      · exact (a4 f blk h1).1
      · exact b4 f blk h1

/-- A law that keeps to its contract. -/
theorem law_calls {P : Program} {f : FuncId} {w : World} {l : List (Bool × List DC)} {vs : List Value} (ha : All2 (ArgR w (· < w.heap.size)) l vs)
    (h : FnOK P f ⟨(impA l 0).2.2, (impA l 0).2.1, (impA l 0).1, .c (.v (.bool true)), [], (impA l 0).2.2⟩) : Calls P f vs.toArray w fun e w' => e = .returned (.bool true) ∧ Below w.heap.size w w' := by
  obtain ⟨ρ, h1, h2, h3, h4⟩ := impA_ok (fun _ h => h) l vs 0 (fun _ => ⟨none, 0, 0, 0, True, fun _ => False⟩) (fun _ => False) ha (fun _ _ _ h => h)
  have e : ∀ f, newV (fun _ => False) 0 (impA l 0).2.2 f → f < (impA l 0).2.2 ∧ (ρ f).nf = (ρ f).nf := by
    rintro f (hf | hf)
    · exact hf.elim
    · exact ⟨hf.2, rfl⟩
  refine (h.1.2 ρ vs w (h2.mono fun x u hx => hx.mono e) ⟨fun f blk hb => ?_, h3.sep⟩).mono fun x w' hx => ?_
  · obtain ⟨q1, q2, q3⟩ := h3.dom f blk hb
    exact ⟨(e f q1).1, q2.keep e (fun _ _ => rfl), q3⟩
  · obtain ⟨u, ρ', rfl, hd⟩ := hx
    refine ⟨?_, ⟨hd.os, hd.tape, hd.output, hd.size, fun k hk => hd.block k hk fun g x hg => (by cases hg)⟩⟩
    have := hd.val
    exact congrArg _ this.1

end Go.Proofs.Ytfnhchcgieeedaa

namespace Go.Proofs.Ytfnhchcgieeedaa
set_option linter.unusedSimpArgs false
set_option linter.unusedVariables false
set_option linter.defProp false

def EVL :=
  (And.intro (And.intro (@List.map_cons.{0,0}) (And.intro (@List.map_nil.{0,0}) (And.intro (@List.nil_append.{0}) (@List.cons_append.{0})))) (And.intro (And.intro (And.intro (@List.getElem?_cons_zero.{0}) (@List.getElem?_cons_succ.{0})) (And.intro (@Option.getD_some.{0}) (And.intro
  (@List.set_cons_zero.{0}) (@List.set_cons_succ.{0})))) (And.intro (And.intro (@ite_true.{1}) (@ite_false.{1})) (And.intro (@eq_self.{1}) (And.intro
  (@if_true.{1}) (@if_false.{1}))))))

def ENL :=
  (And.intro (And.intro (And.intro (And.intro (And.intro (And.intro (@List.set_cons_zero.{0}) (@List.set_cons_succ.{0})) (And.intro
  (@List.append_toArray.{0}) (And.intro (@List.getElem?_cons_zero.{0}) (@List.getElem?_cons_succ.{0})))) (And.intro (And.intro
  (@List.getElem_cons_zero.{0}) (@List.getElem_cons_succ.{0})) (And.intro (@List.getElem?_nil.{0}) (And.intro (@Option.getD_some.{0})
  (@Option.map_some.{0, 0}))))) (And.intro (And.intro (And.intro (@Option.map_none.{0, 0}) (@Option.bind_some.{0, 0})) (And.intro
  (@Option.some.injEq.{0}) (And.intro (@List.filterMap_cons.{0, 0}) (@List.filterMap_nil.{0, 0})))) (And.intro (And.intro (@List.contains_cons.{0})
  (@List.contains_nil.{0})) (And.intro (@List.map_cons.{0, 0}) (And.intro (@List.map_nil.{0, 0}) (@List.length_cons.{0})))))) (And.intro (And.intro
  (And.intro (And.intro (@List.length_nil.{0}) (@List.drop_zero.{0})) (And.intro (@List.drop_succ_cons.{0}) (And.intro (@List.take_succ_cons.{0})
  (@List.take_zero.{0})))) (And.intro (And.intro (@List.cons_append.{0}) (@List.nil_append.{0})) (And.intro (@List.append_nil.{0}) (And.intro
  (@List.all_cons.{0}) (@List.all_nil.{0}))))) (And.intro (And.intro (And.intro (@List.replicate_succ.{0}) (@List.replicate_zero.{0})) (And.intro
  (@List.flatten_cons.{0}) (And.intro (@List.flatten_nil.{0}) (@Nat.add_zero)))) (And.intro (And.intro (@Nat.zero_add) (@Nat.sub_zero)) (And.intro
  (@beq_self_eq_true.{0}) (And.intro (@Bool.or_true) (@Bool.true_or))))))) (And.intro (And.intro (And.intro (And.intro (And.intro (@Bool.or_false)
  (@Bool.and_true)) (And.intro (@Bool.and_self) (And.intro (@eq_self.{1}) (@ne_eq.{1})))) (And.intro (And.intro (@not_true_eq_false)
  (@not_false_eq_true)) (And.intro (@true_and) (And.intro (@and_true) (@and_self))))) (And.intro (And.intro (And.intro (@true_implies)
  (@false_implies)) (And.intro (@forall_const.{1}) (And.intro (@Bool.true_eq_false) (@Bool.false_eq_true)))) (And.intro (And.intro (@if_true.{1})
  (@if_false.{1})) (And.intro (@and_assoc) (And.intro (@Int.toNat_natCast) (@exists_eq_left'.{1})))))) (And.intro (And.intro (And.intro (And.intro
  (@exists_eq_left.{1}) (@exists_and_left.{1})) (And.intro (@exists_and_right.{1}) (And.intro (@exists_eq.{1}) (@exists_eq'.{1})))) (And.intro
  (And.intro (@exists_const.{1}) (@exists_prop)) (And.intro (@exists_true_left) (And.intro (@TD.slice.injEq) (@TD.struct.injEq))))) (And.intro
  (And.intro (And.intro (@TD.int.injEq) (@Prod.mk.injEq.{0, 0})) (And.intro (@List.cons.injEq.{0}) (And.intro (@decide_true) (@decide_false))))
  (And.intro (And.intro (@Bool.not_true) (And.intro (@Bool.not_false) (@Nat.lt_add_one))) (And.intro (@Nat.zero_lt_succ) (And.intro (@Nat.succ_ne_zero)
  (@Nat.one_ne_zero))))))))

def CNL :=
  (And.intro (And.intro (And.intro (@decide_eq_true_eq) (And.intro (@decide_eq_false_iff_not) (@beq_iff_eq.{0}))) (And.intro (And.intro
  (@beq_eq_false_iff_ne.{0}) (@bne_iff_ne.{0})) (And.intro (@bne_eq_false_iff_eq.{0}) (@ne_eq.{1})))) (And.intro (And.intro (And.intro (@Int.not_lt)
  (@Int.not_le)) (And.intro (@Bool.not_eq_true') (@Bool.not_eq_false'))) (And.intro (And.intro (@Bool.not_true) (@Bool.not_false)) (And.intro
  (@eq_self.{1}) (@not_true_eq_false)))))

def WKL :=
  (And.intro (And.intro (And.intro (@List.getElem?_cons_zero.{0}) (@List.getElem?_cons_succ.{0})) (And.intro (@List.getElem?_nil.{0}) (And.intro
  (@Option.getD_some.{0}) (@Option.getD_none.{0})))) (And.intro (And.intro (@List.map_cons.{0, 0}) (And.intro (@List.map_nil.{0, 0}) (@if_true.{1})))
  (And.intro (@if_false.{1}) (And.intro (@true_and) (@and_true)))))

def MAL :=
  (And.intro (And.intro (And.intro (@List.cons_append.{0}) (@List.nil_append.{0})) (And.intro (@List.append_nil.{0}) (And.intro (@Nat.zero_add)
  (@if_true.{1})))) (And.intro (And.intro (@if_false.{1}) (@exists_eq_left'.{1})) (And.intro (@exists_eq_left.{1}) (And.intro (@eq_self.{1})
  (@Nat.zero_ne_one)))))

def EFL :=
  (And.intro (And.intro (And.intro (And.intro (@List.range_succ) (@List.range_zero)) (And.intro (@List.nil_append.{0}) (And.intro (@List.cons_append.{0})
  (@List.filterMap_cons.{0, 0})))) (And.intro (And.intro (@List.filterMap_nil.{0, 0}) (And.intro (@List.map_cons.{0, 0}) (@List.map_nil.{0, 0})))
  (And.intro (@List.getElem?_cons_zero.{0}) (And.intro (@List.getElem?_cons_succ.{0}) (@List.getElem?_nil.{0}))))) (And.intro (And.intro (And.intro
  (@Option.getD_some.{0}) (And.intro (@Option.getD_none.{0}) (@Option.map_some.{0, 0}))) (And.intro (@Option.map_none.{0, 0}) (And.intro
  (@Nat.sub_self) (@Nat.add_zero)))) (And.intro (And.intro (@Nat.zero_add) (And.intro (@Nat.lt_irrefl) (@if_true.{1}))) (And.intro (@if_false.{1})
  (And.intro (@Nat.zero_lt_one) (@Nat.zero_lt_succ))))))

theorem tf {b : Bool} (h : b = true) (h' : b = false) : False := by rw [h] at h'; cases h'

end Go.Proofs.Ytfnhchcgieeedaa

namespace Go.Proofs.Ytfnhchcgieeedaa
set_option linter.unusedSimpArgs false
set_option linter.unusedVariables false
set_option linter.defProp false
open Go.RowKit Go.Maps

abbrev i64L (a : Int) : Lit := .int .i64 a

/-- The map reads as how often each number stands in t. -/
def Tally (D : DataW Unit) (t : List Int) : Prop := IsMap D ∧ ∀ a, D.atKey (i64L a) (.lit (i64L 0)) = .lit (i64L (t.count a)) ∧ has D (i64L a) = decide (a ∈ t)

theorem Tally.nil : Tally (.map []) [] := ⟨isMap_empty, fun a => ⟨by rw [atKey_of_not_has rfl]; rfl, rfl⟩⟩

theorem Tally.put {D : DataW Unit} {t : List Int} (h : Tally D t) (a : Int) : Tally (D.put (i64L a) (.lit (i64L ((t.count a : Int) + 1)))) (t ++ [a]) := by
  refine ⟨h.1.put _ _, fun c => ?_⟩
  by_cases e : c = a
  · subst e
    rw [atKey_put_same (k := i64L c) h.1 trivial, has_put_same (k := i64L c) h.1 trivial]
    simp
  · have hne : i64L c ≠ i64L a := by intro h; apply e; simpa [i64L] using h
    rw [atKey_put_other hne, has_put_other hne, (h.2 c).1, (h.2 c).2]
    have e' : ¬ a = c := fun h => e h.symm
    simp [List.count_append, e, e']

theorem ownsMap_at {P : Program} {k : TypeId} {R : Value → Option (DataW Unit × List MemPlace)} {w w' : World} {b n : Nat} {D : DataW Unit} (h : w.ownsMap P k R b n D) (hb : w'.heap[b]? = w.heap[b]?) : w'.ownsMap P k R b n D := by
  obtain ⟨es, clock, h1, r⟩ := h
  exact ⟨es, clock, by rw [hb]; exact h1, r⟩

theorem ranges_at {P : Program} {k : TypeId} {R : Value → Option (DataW Unit × List MemPlace)} {w w' : World} {b r n cnt : Nat} {D : DataW Unit} {L : Lit → Bool} (h : w.ranges P k R b r n D L cnt) (hb : w'.heap[b]? = w.heap[b]?) (hr : w'.heap[r]? = w.heap[r]?) :
    w'.ranges P k R b r n D L cnt := by
  obtain ⟨es, clock, since, seen, c0, h1, h2, h3, h4, h5, h6⟩ := h
  exact ⟨es, clock, since, seen, c0, by rw [hb]; exact h1, h2, h3, h4, by rw [hr]; exact h5, h6⟩

/-- What is known of the types: a map from numbers to numbers. -/
structure MT (P : Program) (t k e : TypeId) : Prop where
  ht : P.underlying t = some (.map k e)
  hk : P.underlying k = some (.int .i64)
  he : P.underlying e = some (.int .i64)
  hz : ∀ w, (zeroValue e).run P w = .ok (.int .i64 0) w

theorem MT.key {P : Program} {t k e : TypeId} (h : MT P t k e) : Keyed P k := int_keyed h.hk

def mapW (P : Program) (k e : TypeId) (b : Nat) (t : List Int) (w : World) : Prop := ∃ D : DataW Unit, w.ownsMap P k (plainElem P e) b t.length D ∧ Tally D t

theorem mapW_at {P : Program} {k e : TypeId} {b : Nat} {t : List Int} {w w' : World} (h : mapW P k e b t w) (hb : w'.heap[b]? = w.heap[b]?) : mapW P k e b t w' := by
  obtain ⟨D, h1, h2⟩ := h
  exact ⟨D, ownsMap_at h1 hb, h2⟩

def rangeW (P : Program) (k e : TypeId) (b r : Nat) (t : List Int) (left : Int → Bool) (cnt : Nat) (w : World) : Prop :=
  ∃ (D : DataW Unit) (L : Lit → Bool), w.ranges P k (plainElem P e) b r t.length D L cnt ∧ Tally D t ∧ ∀ a, L (i64L a) = left a

theorem rangeW_at {P : Program} {k e : TypeId} {b r : Nat} {t : List Int} {left : Int → Bool} {cnt : Nat} {w w' : World} (h : rangeW P k e b r t left cnt w) (hb : w'.heap[b]? = w.heap[b]?) (hr : w'.heap[r]? = w.heap[r]?) : rangeW P k e b r t left cnt w' := by
  obtain ⟨D, L, h1, h2⟩ := h
  exact ⟨D, L, ranges_at h1 hb hr, h2⟩

def entryW (P : Program) (k e : TypeId) (b r : Nat) (t : List Int) (left : Int → Bool) (cnt : Nat) (x : Int) (w : World) : Prop :=
  rangeW P k e b r t left cnt w ∧ (Instr.entry (.pointer (some ⟨r, 0, none⟩))).run P w = .ok (.tuple #[.int .i64 x, .int .i64 (t.count x)]) w

theorem entry_at {P : Program} {k e : TypeId} {b r : Nat} {t : List Int} {left : Int → Bool} {cnt : Nat} {w w' : World} {v : Value} (h : rangeW P k e b r t left cnt w) (hb : w'.heap[b]? = w.heap[b]?) (hr : w'.heap[r]? = w.heap[r]?)
    (he : (Instr.entry (.pointer (some ⟨r, 0, none⟩))).run P w = .ok v w) : (Instr.entry (.pointer (some ⟨r, 0, none⟩))).run P w' = .ok v w' := by
  obtain ⟨D, L, ⟨es, clock, since, seen, c0, h1, _, _, _, h5, _⟩, _⟩ := h
  rw [h1] at hb
  rw [h5] at hr
  simp only [Instr.entry, getObj, Sem.run_bind, Sem.run, h1, h5, hb, hr, Result.andThen] at he ⊢
  cases hs : seen.back? with
  | none => rw [hs] at he; cases he
  | some stamp =>
    rw [hs] at he
    simp only [getObj, Sem.run_bind, Sem.run, h1, hb, Result.andThen] at he ⊢
    by_cases hc : (clock != c0) = true
    · rw [if_pos hc] at he
      cases he
    · rw [if_neg hc] at he ⊢
      cases hf : es.find? (·.born == stamp) with
      | none => rw [hf] at he; cases he
      | some x => rw [hf] at he; cases he; rfl

end Go.Proofs.Ytfnhchcgieeedaa

namespace Go.Proofs.Ytfnhchcgieeedaa
set_option linter.unusedSimpArgs false
set_option linter.unusedVariables false
set_option linter.defProp false
open Go.RowKit Go.Maps

theorem hget_nones : ∀ {l : Heap} (_ : ∀ f b, (f, b) ∈ l → b = none) (f : Nat) (blk : Blk), hget l f ≠ some blk
  | [], _, f, blk, h => by simp [hget] at h
  | (g, x) :: l, h0, f, blk, h => by
    simp only [hget] at h
    split at h
    · rw [h0 g x (by simp)] at h; cases h
    · exact hget_nones (fun f b hb => h0 f b (by simp [hb])) f blk h

section
variable {V : Nat → Prop} {ρ : Nat → At} {H : Heap} {nx : Nat} {w w' : World}

theorem Done.newgh {x : Value} (hx : x.oneCell' = true) {rd : List Nat} {wr0 : Heap} (h0 : ∀ f b, (f, b) ∈ wr0 → b = none ∧ f < nx) {S : List Nat} {φ : World → Prop} (hφ : φ w') (hst : ∀ w'', (∀ b ∈ S, w''.heap[b]? = w'.heap[b]?) → φ w'')
    (hS : ∀ b ∈ S, b < w'.heap.size) (hfoot : ∀ b ∈ S, w.heap.size ≤ b ∨ ∃ f, (f, none) ∈ wr0 ∧ excH (hget H) ρ f b) (os : w'.os = w.os) (tape : w'.tape = w.tape) (output : w'.output = w.output) (size : w.heap.size ≤ w'.heap.size)
    (block : ∀ j, j < w.heap.size → (∀ f, (f, none) ∈ wr0 → ¬ excH (hget H) ρ f j) → w'.heap[j]? = w.heap[j]?) :
    Done V ρ H nx w ⟨.c (.v x), rd, wr0 ++ [(nx, some (.gh S φ))], nx + 1⟩ x (updA ρ nx ⟨none, 0, 0, 0, True, (· ∈ S)⟩) w' := by
  have hn : ∀ f b, (f, b) ∈ wr0 → b = none := fun f b h => (h0 f b h).1
  have key : ∀ f blk, hget (wr0 ++ [(nx, some (.gh S φ))]) f = some blk → f = nx ∧ blk = .gh S φ := by
    intro f blk hb
    rcases hget_append _ _ f blk hb with h1 | h1
    · exact absurd h1 (hget_nones hn f blk)
    · simp only [hget] at h1
      split at h1
      · rename_i e; exact ⟨e, by cases h1; rfl⟩
      · cases h1
  have hnx : updA ρ nx ⟨none, 0, 0, 0, True, (· ∈ S)⟩ nx = ⟨none, 0, 0, 0, True, (· ∈ S)⟩ := by unfold updA; rw [if_pos rfl]
  refine ⟨same_of fun f hf => ?_, ⟨rfl, hx⟩, ⟨fun f blk hb => ?_, fun f f' blk blk' hne hb hb' => ?_⟩, fun f blk hb b hF => ?_, os, tape, output, size, fun j hj hjn => block j hj fun f hf => hjn f none (by simp [hf]) (h0 f none hf).2⟩
  · unfold updA; rw [if_neg (by simp only at hf; omega)]
  · obtain ⟨rfl, rfl⟩ := key f blk hb
    rw [hnx]
    exact ⟨.inr ⟨Nat.le_refl _, Nat.lt_succ_self _⟩, ⟨fun b hb => hb, hφ, hst⟩, hS⟩
  · obtain ⟨rfl, _⟩ := key f blk hb
    obtain ⟨rfl, _⟩ := key f' blk' hb'
    exact absurd rfl hne
  · obtain ⟨rfl, rfl⟩ := key f blk hb
    rw [hnx] at hF
    rcases hfoot b hF with h1 | ⟨f, h1, h2⟩
    · exact .inl h1
    · exact .inr (.inl ⟨f, none, by simp [h1], (h0 f none h1).2, h2⟩)

theorem Done.setgh {r : SV} {u : Value} (hr : SVr V ρ r u) {f : Nat} (hV : V f) (hf : f < nx) {b0 : Blk} (hH : hget H f = some b0) (hx : ∀ b, (ρ f).F b → b0.exc (ρ f) b) {S : List Nat} {φ : World → Prop} (hφ : φ w') (hst : ∀ w'', (∀ b ∈ S, w''.heap[b]? = w'.heap[b]?) → φ w'')
    (hS : ∀ b ∈ S, (ρ f).F b) (hsz : ∀ b, (ρ f).F b → b < w'.heap.size) (os : w'.os = w.os) (tape : w'.tape = w.tape) (output : w'.output = w.output) (size : w.heap.size ≤ w'.heap.size)
    (block : ∀ j, j < w.heap.size → ¬ (ρ f).F j → w'.heap[j]? = w.heap[j]?) :
    Done V ρ H nx w ⟨r, [f], [(f, some (.gh S φ))], nx⟩ u ρ w' := by
  have key : ∀ g blk, hget [(f, some (.gh S φ))] g = some blk → g = f ∧ blk = .gh S φ := by
    intro g blk h1
    simp only [hget] at h1
    split at h1
    · rename_i e; exact ⟨e, by cases h1; rfl⟩
    · cases h1
  refine ⟨same_of fun _ _ => rfl, hr.mono fun g hg => ⟨.inl hg, rfl⟩, ⟨fun g blk hb => ?_, fun g g' blk blk' hne hb hb' => ?_⟩, fun g blk hb b hF => ?_, os, tape, output, size, fun j hj hjn => block j hj fun hF => hjn f (some (.gh S φ)) (by simp) hf ⟨_, hH, hx _ hF⟩⟩
  · obtain ⟨rfl, rfl⟩ := key g blk hb
    exact ⟨.inl hV, ⟨hS, hφ, hst⟩, hsz⟩
  · obtain ⟨rfl, _⟩ := key g blk hb
    obtain ⟨rfl, _⟩ := key g' blk' hb'
    exact absurd rfl hne
  · obtain ⟨rfl, rfl⟩ := key g blk hb
    exact .inr (.inl ⟨g, some (.gh S φ), by simp, hf, _, hH, hx _ hF⟩)

theorem Done.read {r : SV} {u : Value} (hr : SVr V ρ r u) (rd : List Nat) : Done V ρ H nx w ⟨r, rd, [], nx⟩ u ρ w :=
  ⟨same_of fun _ _ => rfl, hr.mono fun f hf => ⟨.inl hf, rfl⟩, ⟨fun f blk hb => (by cases hb), fun f g blk blk' _ hb => (by cases hb)⟩, fun f blk hb => (by cases hb), rfl, rfl, rfl, Nat.le_refl _, fun _ _ _ => rfl⟩
end

section
variable {P : Program} {t k e : TypeId} {ck : Bool} {H : Heap} {nx : Nat} {KS : Eff → Prop} {ev : Operand → SV} {d : Option Tmp} {tt : TypeId} {pos : String} {af : Array Edge} {gu : Option (Nat × Bool)}

theorem fit_gh {f : Nat} {blk blk' : Blk} (hf : f < nx) (hH : hget H f = some blk) (ho : blk.own = true) (r : SV) : Fit H nx ⟨r, [f], [(f, some blk')], nx⟩ :=
  ⟨Nat.le_refl _, fun g hg => by simp at hg; subst hg; exact ⟨_, hH⟩, fun g b hb => by simp at hb; obtain ⟨rfl, rfl⟩ := hb; exact ⟨hf, fun _ => ⟨by simp, _, hH, ho⟩⟩, by simp⟩

theorem makeMap_k (h : ∀ b, KS ⟨.c (.v (.map (some b))), [], [(nx, some (.gh [b] (mapW P k e b [])))], nx + 1⟩) : escK P ⟨d, .makeMap t none, tt, pos, af, gu⟩ ev H nx KS := by

  refine ⟨Nat, fun b => ⟨.c (.v (.map (some b))), [], [(nx, some (.gh [b] (mapW P k e b [])))], nx + 1⟩, [], fun b => ⟨Nat.le_succ _, fun f h => (by cases h), fun f x hx => ?_, by simp⟩, ?_, h⟩
  · simp at hx
    obtain ⟨rfl, rfl⟩ := hx
    exact ⟨Nat.lt_succ_self _, fun h => absurd h (Nat.lt_irrefl _)⟩
  · intro V ρ a w K Q hV hev hm hK
    have hd : Done V ρ H nx w ⟨.c (.v (.map (some w.heap.size))), [], [] ++ [(nx, some (.gh [w.heap.size] (mapW P k e w.heap.size [])))], nx + 1⟩ (.map (some w.heap.size)) _ (w.alloc (.map #[] 0)) :=
      Done.newgh rfl (fun f b h => (by cases h)) ⟨.map [], World.ownsMap_made _ _ _ _, Tally.nil⟩ (fun w'' h => mapW_at ⟨.map [], World.ownsMap_made _ _ _ _, Tally.nil⟩ (h _ (by simp))) (fun b hb => by simp at hb; subst hb; simp) (fun b hb => by simp at hb; subst hb; exact .inl (Nat.le_refl _))
        rfl rfl rfl (by simp) fun j hj _ => Below.heap_alloc _ _ _ hj
    have := hK w.heap.size _ _ _ hd
    unfold Oper.wp
    simp [execOp, run_makeMap, Result.andThen]
    exact this

theorem lookup_k (mt : MT P t k e) {x y : Operand} {f b : Nat} {l : List Int} {a : Int} (hx : ev x = .c (.v (.map (some b)))) (hy : ev y = .c (.v (.int .i64 a))) (hH : hget H f = some (.gh [b] (mapW P k e b l))) (ha : -9223372036854775808 ≤ a ∧ a ≤ 9223372036854775807)
    (h : KS ⟨.c (.v (.int .i64 (l.count a))), [f], [], nx⟩) : oneK P ⟨d, .lookup t x y false, tt, pos, af, gu⟩ ev H nx KS := by

  refine ⟨_, fit_read hH, ?_, h⟩
  intro V ρ ac w K Q hV hev hm hK
  obtain ⟨_, ⟨_, ⟨D, hown, ht⟩, _⟩, _⟩ := hm.dom f _ (looked_get (by simp) hH)
  have e1 := hev x
  have e2 := hev y
  rw [hx] at e1
  rw [hy] at e2
  obtain ⟨c, hrun, hat, _⟩ := hown.lookup_int mt.key mt.ht mt.he (mt.hz w) (keyOf_int_mk mt.hk (WalkArith.wf_i64 (by omega)))
  rw [(ht.2 a).1] at hat
  have hc : c = (l.count a : Int) := by simpa [i64L] using hat.symm
  subst hc
  have := hK _ _ _ (Done.read (r := .c (.v (.int .i64 (l.count a)))) (u := .int .i64 (l.count a)) ⟨rfl, rfl⟩ [f])
  unfold Oper.wp
  simp [execOp, e1.1, e2.1, hrun, Result.andThen]
  exact this

theorem mapUpdate_k (mt : MT P t k e) {x y z : Operand} {f b : Nat} {l : List Int} {a v : Int} (hx : ev x = .c (.v (.map (some b)))) (hy : ev y = .c (.v (.int .i64 a))) (hz : ev z = .c (.v (.int .i64 v))) (hH : hget H f = some (.gh [b] (mapW P k e b l)))
    (hf : f < nx) (hv : v = (l.count a : Int) + 1) (ha : -9223372036854775808 ≤ a ∧ a ≤ 9223372036854775807) (hl : l.length < 1000000)
    (h : KS ⟨.any, [f], [(f, some (.gh [b] (mapW P k e b (l ++ [a]))))], nx⟩) : oneK P ⟨d, .mapUpdate t x y z, tt, pos, af, gu⟩ ev H nx KS := by

  refine ⟨_, fit_gh hf hH rfl _, ?_, h⟩
  intro V ρ ac w K Q hV hev hm hK
  obtain ⟨hVf, ⟨hS, ⟨D, hown, ht⟩, _⟩, hsz⟩ := hm.dom f _ (looked_get (by simp) hH)
  have e1 := hev x
  have e2 := hev y
  have e3 := hev z
  rw [hx] at e1
  rw [hy] at e2
  rw [hz] at e3
  have hct := List.count_le_length (a := a) (l := l)
  obtain ⟨w', hrun, hown', hg⟩ := hown.update mt.key mt.ht (by unfold maxLen; omega) (keyOf_int_mk mt.hk (WalkArith.wf_i64 (by omega))) (plainElem_int mt.he (a := v) (WalkArith.wf_i64 (by omega)))
  have hφ : mapW P k e b (l ++ [a]) w' := ⟨_, by rw [List.length_append]; exact hown', by subst hv; exact ht.put a⟩
  have := hK _ _ _ (Done.setgh (u := undef) (r := .any) trivial hVf hf hH (fun _ h => h) hφ (fun w'' h => mapW_at hφ (h _ (by simp))) hS (fun c hc => Nat.lt_of_lt_of_le (hsz c hc) hg.size) hg.os hg.tape hg.output hg.size
    fun j hj hF => hg.block j hj fun e => by cases e; exact hF (hS _ (by simp)))
  unfold Oper.wp
  simp [execOp, e1.1, e2.1, e3.1, hrun, Result.andThen]
  exact this

theorem range_k (mt : MT P t k e) {x : Operand} {f b : Nat} {l : List Int} (hx : ev x = .c (.v (.map (some b)))) (hH : hget H f = some (.gh [b] (mapW P k e b l))) (hf : f < nx)
    (h : ∀ r cnt : Nat, KS ⟨.c (.v (.pointer (some ⟨r, 0, none⟩))), [f], [(f, none), (nx, some (.gh [b, r] (rangeW P k e b r l (fun a => decide (a ∈ l)) cnt)))], nx + 1⟩) : escK P ⟨d, .range t x, tt, pos, af, gu⟩ ev H nx KS := by

  refine ⟨Nat × Nat, fun q => ⟨.c (.v (.pointer (some ⟨q.1, 0, none⟩))), [f], [(f, none), (nx, some (.gh [b, q.1] (rangeW P k e b q.1 l (fun a => decide (a ∈ l)) q.2)))], nx + 1⟩, [f], fun q => ⟨Nat.le_succ _, fun g hg => by simp at hg; subst hg; exact ⟨_, hH⟩, fun g y hy => ?_, ?_⟩, ?_, fun q => h q.1 q.2⟩
  · simp at hy
    rcases hy with ⟨rfl, rfl⟩ | ⟨rfl, rfl⟩
    · exact ⟨by show g < nx + 1; omega, fun _ => ⟨by simp, _, hH, rfl⟩⟩
    · exact ⟨Nat.lt_succ_self _, fun h => absurd h (Nat.lt_irrefl _)⟩
  · simp; omega
  · intro V ρ ac w K Q hV hev hm hK
    obtain ⟨hVf, ⟨hS, ⟨D, hown, ht⟩, _⟩, hsz⟩ := hm.dom f _ (looked_get (by simp) hH)
    have e1 := hev x
    rw [hx] at e1
    obtain ⟨w', hrun, hrg, hg, hs⟩ := hown.range mt.key mt.ht
    have hφ : rangeW P k e b w.heap.size l (fun a => decide (a ∈ l)) (Maps.size D) w' := ⟨D, _, hrg, ht, fun a => (ht.2 a).2⟩
    have hbw := hsz b (hS b (by simp))
    have hd : Done V ρ H nx w ⟨.c (.v (.pointer (some ⟨w.heap.size, 0, none⟩))), [f], [(f, none)] ++ [(nx, some (.gh [b, w.heap.size] (rangeW P k e b w.heap.size l (fun a => decide (a ∈ l)) (Maps.size D))))], nx + 1⟩ (.pointer (some ⟨w.heap.size, 0, none⟩)) _ w' :=
      Done.newgh rfl (fun g b h => by simp at h; obtain ⟨rfl, rfl⟩ := h; exact ⟨rfl, hf⟩) hφ (fun w'' h => rangeW_at hφ (h _ (by simp)) (h _ (by simp))) (fun c hc => by simp at hc; rcases hc with rfl | rfl <;> omega)
        (fun c hc => by
          simp at hc
          rcases hc with rfl | rfl
          · exact .inr ⟨f, by simp, _, hH, hS _ (by simp)⟩
          · exact .inl (Nat.le_refl _))
        hg.os hg.tape hg.output hg.size fun j hj _ => hg.block j hj (by simp)
    have := hK (w.heap.size, Maps.size D) _ _ _ hd
    unfold Oper.wp
    simp [execOp, e1.1, hrun, Result.andThen]
    exact this

theorem next_k (mt : MT P t k e) {x : Operand} {f b r cnt : Nat} {l : List Int} {left : Int → Bool} (hx : ev x = .c (.v (.pointer (some ⟨r, 0, none⟩)))) (hH : hget H f = some (.gh [b, r] (rangeW P k e b r l left cnt))) (hf : f < nx)
    (h0 : (∀ a, left a = false) → KS ⟨.tup [.inl (.v (.bool false))], [f], [(f, some (.gh [b, r] (rangeW P k e b r l left cnt)))], nx⟩)
    (h1 : ∀ (z : Int) (cnt' : Nat), left z = true → cnt' < cnt → (-9223372036854775808 ≤ z ∧ z ≤ 9223372036854775807) →
      KS ⟨.tup [.inl (.v (.bool true)), .inl (.v (.int .i64 z)), .inl (.v (.int .i64 (l.count z)))], [f], [(f, some (.gh [b, r] (entryW P k e b r l (fun a => left a && !(a == z)) cnt' z)))], nx⟩) :
    escK P ⟨d, .next x false, tt, pos, af, gu⟩ ev H nx KS := by

  refine ⟨{q : Int × Nat // left q.1 = true ∧ q.2 < cnt ∧ (-9223372036854775808 ≤ q.1 ∧ q.1 ≤ 9223372036854775807)} ⊕ {_u : Unit // ∀ a, left a = false},
    Sum.elim (fun q => ⟨.tup [.inl (.v (.bool true)), .inl (.v (.int .i64 q.1.1)), .inl (.v (.int .i64 (l.count q.1.1)))], [f], [(f, some (.gh [b, r] (entryW P k e b r l (fun a => left a && !(a == q.1.1)) q.1.2 q.1.1)))], nx⟩)
      (fun _ => ⟨.tup [.inl (.v (.bool false))], [f], [(f, some (.gh [b, r] (rangeW P k e b r l left cnt)))], nx⟩), [f], ?_, ?_, ?_⟩
  · rintro (q | q)
    · exact fit_gh hf hH rfl _
    · exact fit_gh hf hH rfl _
  · intro V ρ ac w K Q hV hev hm hK
    obtain ⟨hVf, ⟨hS, ⟨D, L, hrg, ht, hL⟩, hst⟩, hsz⟩ := hm.dom f _ (looked_get (by simp) hH)
    have e1 := hev x
    rw [hx] at e1
    rcases hrg.next mt.key tt with ⟨_, hl0, hrun⟩ | ⟨key, v, kl, y, w', cnt', hkey, hlk, hv, hat, hrun, hrg', hlt, hg, hs, hen⟩
    · have := hK (.inr ⟨(), fun a => by rw [← hL]; exact hl0 _⟩) (.tuple #[.bool false]) _ _ (Done.setgh (u := .tuple #[.bool false]) (r := .tup [.inl (.v (.bool false))]) ⟨[.bool false], rfl, ⟨rfl, rfl⟩, trivial⟩ hVf hf hH (fun _ h => h) ⟨D, L, hrg, ht, hL⟩ hst hS hsz rfl rfl rfl (Nat.le_refl _) fun _ _ _ => rfl)
      unfold Oper.wp
      simp [execOp, e1.1, hrun, Result.andThen]
      exact this
    · obtain ⟨z, rfl, rfl, hwz⟩ := keyOf_int_inv mt.hk hkey
      obtain ⟨c, rfl, rfl, _⟩ := plainElem_int_inv mt.he hv
      have hc : c = (l.count z : Int) := by
        have := hat (.lit (i64L 0))
        rw [(ht.2 z).1] at this
        simpa [i64L] using this.symm
      subst hc
      have hb1 : b < w.heap.size := hsz b (hS b (by simp))
      have hrng : rangeW P k e b r l (fun a => left a && !(a == z)) cnt' w' := ⟨D, _, hrg', ht, fun a => by
        show (L (i64L a) && !(i64L a).sameKey (i64L z)) = _
        rw [hL a]
        by_cases hz : a = z
        · subst hz
          rw [WideAt.sameKey_self (a := i64L a) trivial]
          simp
        · rw [sameKey_ne (by intro h; apply hz; simpa [i64L] using h)]
          simp [hz]⟩
      have hφ : entryW P k e b r l (fun a => left a && !(a == z)) cnt' z w' := ⟨hrng, hen⟩
      have hwz' : -9223372036854775808 ≤ z ∧ z ≤ 9223372036854775807 := by simpa [Lit.wf, IntKind.min, IntKind.signed, IntKind.bits, IntKind.max] using hwz
      have := hK (.inl ⟨(z, cnt'), by rw [← hL]; exact hlk, hlt, hwz'⟩) (.tuple #[.bool true, .int .i64 z, .int .i64 (l.count z)]) _ w'
        (Done.setgh (u := .tuple #[.bool true, .int .i64 z, .int .i64 (l.count z)]) (r := .tup [.inl (.v (.bool true)), .inl (.v (.int .i64 z)), .inl (.v (.int .i64 (l.count z)))]) ⟨[.bool true, .int .i64 z, .int .i64 (l.count z)], rfl, ⟨rfl, rfl⟩, ⟨rfl, rfl⟩, ⟨rfl, rfl⟩, trivial⟩ hVf hf hH (fun _ h => h) hφ
          (fun w'' h => ⟨rangeW_at hrng (h _ (by simp)) (h _ (by simp)), entry_at hrng (h _ (by simp)) (h _ (by simp)) hen⟩) hS (fun c hc => Nat.lt_of_lt_of_le (hsz c hc) hg.size) hg.os hg.tape hg.output hg.size
          fun j hj hF => hg.block j hj fun e => by cases e; exact hF (hS _ (by simp)))
      unfold Oper.wp
      simp [execOp, e1.1, hrun, Result.andThen]
      exact this
  · rintro (q | q)
    · exact h1 q.1.1 q.1.2 q.2.1 q.2.2.1 q.2.2.2
    · exact h0 q.2

theorem entry_k {x : Operand} {f b r cnt : Nat} {l : List Int} {left : Int → Bool} {z : Int} (hx : ev x = .c (.v (.pointer (some ⟨r, 0, none⟩)))) (hH : hget H f = some (.gh [b, r] (entryW P k e b r l left cnt z))) (hf : f < nx)
    (h : KS ⟨.tup [.inl (.v (.int .i64 z)), .inl (.v (.int .i64 (l.count z)))], [f], [(f, some (.gh [b, r] (rangeW P k e b r l left cnt)))], nx⟩) : escK P ⟨d, .entry x, tt, pos, af, gu⟩ ev H nx KS := by

  refine ⟨Unit, fun _ => _, [f], fun _ => fit_gh hf hH rfl _, ?_, fun _ => h⟩
  intro V ρ ac w K Q hV hev hm hK
  obtain ⟨hVf, ⟨hS, ⟨hrng, hen⟩, hst⟩, hsz⟩ := hm.dom f _ (looked_get (by simp) hH)
  have e1 := hev x
  rw [hx] at e1
  have := hK () (.tuple #[.int .i64 z, .int .i64 (l.count z)]) _ w (Done.setgh (u := .tuple #[.int .i64 z, .int .i64 (l.count z)]) (r := .tup [.inl (.v (.int .i64 z)), .inl (.v (.int .i64 (l.count z)))]) ⟨[.int .i64 z, .int .i64 (l.count z)], rfl, ⟨rfl, rfl⟩, ⟨rfl, rfl⟩, trivial⟩ hVf hf hH (fun _ h => h) hrng
    (fun w'' h => rangeW_at hrng (h _ (by simp)) (h _ (by simp))) hS hsz rfl rfl rfl (Nat.le_refl _) fun _ _ _ => rfl)
  unfold Oper.wp
  simp [execOp, e1.1, hen, Result.andThen]
  exact this
end

end Go.Proofs.Ytfnhchcgieeedaa

namespace Go.Proofs.Ytfnhchcgieeedaa
set_option linter.unusedSimpArgs false
set_option linter.unusedVariables false
set_option linter.defProp false

def ENB :=
  (And.intro (And.intro (And.intro (And.intro (And.intro (And.intro (And.intro ENL (@rowB_inj)) (And.intro (@List.any_cons.{0}) (And.intro
  (@List.any_nil.{0}) (@Bool.false_or)))) (And.intro (And.intro (@Bool.not_false) (@Bool.and_true)) (And.intro (@Bool.true_and) (And.intro
  (@stepK.eq_1) (@pureK.eq_1))))) (And.intro (And.intro (And.intro (@memK.eq_1) (@appK.eq_1)) (And.intro (@binK.eq_1) (And.intro (@binK.eq_2)
  (@binK.eq_3)))) (And.intro (And.intro (@binK.eq_4) (And.intro (@binK.eq_5) (@binK.eq_6))) (And.intro (@binK.eq_7) (And.intro (@binK.eq_8)
  (@binK.eq_9)))))) (And.intro (And.intro (And.intro (And.intro (@binK.eq_10) (@binK.eq_11)) (And.intro (@binK.eq_12) (And.intro (@binK.eq_13)
  (@arithK.eq_1)))) (And.intro (And.intro (@arithK.eq_2) (@arithK.eq_3)) (And.intro (@arithK.eq_4) (And.intro (@arithK.eq_5) (@arithK.eq_6)))))
  (And.intro (And.intro (And.intro (@arithK.eq_7) (@arithK.eq_8)) (And.intro (@arithK.eq_9) (And.intro (@arithK.eq_10) (@arithK.eq_11)))) (And.intro
  (And.intro (@arithK.eq_12) (And.intro (@arithK.eq_13) (@arithK.eq_14))) (And.intro (@arithK.eq_15) (And.intro (@arithK.eq_16) (@arithK.eq_17)))))))
  (And.intro (And.intro (And.intro (And.intro (And.intro (@arithK.eq_18) (@arithK.eq_19)) (And.intro (@arithK.eq_20) (And.intro (@arithK.eq_21)
  (@shiftK.eq_1)))) (And.intro (And.intro (@shiftK.eq_2) (@shiftK.eq_3)) (And.intro (@shiftK.eq_4) (And.intro (@inI.eq_1) (@inI.eq_2))))) (And.intro
  (And.intro (And.intro (@inI.eq_3) (@inI.eq_4)) (And.intro (@cellsOf.eq_1) (And.intro (@cellsOf.eq_2) (@cellsOf.eq_3)))) (And.intro (And.intro
  (@partS.eq_1) (And.intro (@splice.eq_1) (@fillS.eq_1))) (And.intro (@fillS.eq_2) (And.intro (@partsOf.eq_1) (@partsOf.eq_2)))))) (And.intro
  (And.intro (And.intro (And.intro (@srcOf.eq_1) (@srcOf.eq_2)) (And.intro (@srcOf.eq_3) (And.intro (@isFlat.eq_1) (@isFlat.eq_2)))) (And.intro
  (And.intro (@hget.eq_1) (And.intro (@hget.eq_2) (@impC.eq_1))) (And.intro (@impC.eq_2) (And.intro (@impC.eq_3) (@cvD.eq_1))))) (And.intro (And.intro
  (And.intro (@cvD.eq_2) (@dcOf.eq_1)) (And.intro (@dcOf.eq_2) (And.intro (@dcsOf.eq_1) (@dcsOf.eq_2)))) (And.intro (And.intro (@dcssOf.eq_1)
  (And.intro (@dcssOf.eq_2) (@chunk.eq_1))) (And.intro (@chunk.eq_2) (And.intro (@onOps.eq_1) (@onOps.eq_2)))))))) (And.intro (And.intro (And.intro
  (And.intro (And.intro (And.intro (@tmpOf.eq_1) (@tmpOf.eq_2)) (And.intro (@Op.operands.eq_1) (And.intro (@Op.operands.eq_2) (@Op.operands.eq_3))))
  (And.intro (And.intro (@Op.operands.eq_4) (@Op.operands.eq_5)) (And.intro (@Op.operands.eq_6) (And.intro (@Op.operands.eq_7) (@Op.operands.eq_8)))))
  (And.intro (And.intro (And.intro (@Op.operands.eq_9) (@Op.operands.eq_10)) (And.intro (@Op.operands.eq_11) (And.intro (@Op.operands.eq_12)
  (@Op.operands.eq_13)))) (And.intro (And.intro (@Op.operands.eq_14) (And.intro (@Op.operands.eq_15) (@Op.operands.eq_16))) (And.intro
  (@Op.operands.eq_17) (And.intro (@Op.operands.eq_18) (@Op.operands.eq_19)))))) (And.intro (And.intro (And.intro (And.intro (@Op.operands.eq_20)
  (@Op.operands.eq_21)) (And.intro (@Op.operands.eq_22) (And.intro (@Op.operands.eq_23) (@Op.operands.eq_24)))) (And.intro (And.intro
  (@Op.operands.eq_25) (And.intro (@Op.operands.eq_26) (@Op.operands.eq_27))) (And.intro (@Op.operands.eq_28) (And.intro (@Op.operands.eq_29)
  (@Op.operands.eq_30))))) (And.intro (And.intro (And.intro (@Op.operands.eq_31) (@Op.operands.eq_32)) (And.intro (@Op.operands.eq_33) (And.intro
  (@Op.operands.eq_34) (@Op.operands.eq_35)))) (And.intro (And.intro (@Op.operands.eq_36) (And.intro (@Op.operands.eq_37) (@Op.operands.eq_38)))
  (And.intro (@Op.operands.eq_39) (And.intro (@Op.operands.eq_40) (@Op.operands.eq_41))))))) (And.intro (And.intro (And.intro (And.intro (And.intro
  (@Op.operands.eq_42) (@Op.operands.eq_43)) (And.intro (@Call.operands.eq_1) (And.intro (@evS.eq_1) (@evS.eq_2)))) (And.intro (And.intro (@evS.eq_3)
  (@svOf.eq_1)) (And.intro (@svOf.eq_2) (And.intro (@svOf.eq_3) (@svOf.eq_4))))) (And.intro (And.intro (And.intro (@strK.eq_1) (@chunkD.eq_1))
  (And.intro (@chunkD.eq_2) (And.intro (@noneB_nil) (@noneB_cons)))) (And.intro (And.intro (@absL.eq_1) (And.intro (@absL.eq_2) (@absL.eq_3)))
  (And.intro (@absL.eq_4) (And.intro (@absP.eq_1) (@absP.eq_2)))))) (And.intro (And.intro (And.intro (And.intro (@absP.eq_3) (@absP_nil)) (And.intro
  (@mixL.eq_1) (And.intro (@mixL.eq_2) (@mixL.eq_3)))) (And.intro (And.intro (@mixL.eq_4) (And.intro (@mixP.eq_1) (@mixP.eq_2))) (And.intro
  (@mixP.eq_3) (And.intro (@mixP_nil) (@mixOf.eq_1))))) (And.intro (And.intro (And.intro (@mixOf.eq_2) (@distB.eq_1)) (And.intro (@distB.eq_2)
  (And.intro (@isNilC.eq_def) (@holeIn.eq_1)))) (And.intro (And.intro (@holeIn.eq_2) (And.intro (@loadN.eq_1) (@loadN.eq_2))) (And.intro (@loadN.eq_3)
  (And.intro (@loadN.eq_4) (@loadN.eq_5)))))))))

def EVB :=
  (And.intro (And.intro (And.intro EVL (And.intro (@evS.eq_1) (@evS.eq_2))) (And.intro (And.intro (@evS.eq_3) (@svOf.eq_1)) (And.intro (@svOf.eq_2)
  (@svOf.eq_3)))) (And.intro (And.intro (@svOf.eq_4) (And.intro (@putS.eq_1) (@putS.eq_2))) (And.intro (And.intro (@hputs.eq_1) (@hputs.eq_2))
  (And.intro (@hput.eq_1) (@hput.eq_2)))))

def MAB :=
  (And.intro (And.intro (And.intro (And.intro (And.intro MAL Bool.not_true) (And.intro Bool.not_false (@vwAll.eq_1))) (And.intro (And.intro (@isRo.eq_1)
  (@isRo.eq_2)) (And.intro (@vwMore.eq_1) (And.intro (@matSs.eq_1) (@matSs.eq_2))))) (And.intro (And.intro (And.intro (@matS.eq_1) (@matS.eq_2))
  (And.intro (@matS.eq_3) (@matS.eq_4))) (And.intro (And.intro (@matC.eq_1) (@matC.eq_2)) (And.intro (@matC.eq_3) (And.intro (@matC.eq_4)
  (@matL.eq_1)))))) (And.intro (And.intro (And.intro (And.intro (@matL.eq_2) (@matT.eq_1)) (And.intro (@matT.eq_2) (@matT.eq_3))) (And.intro (And.intro
  (@matH.eq_1) (@matH.eq_2)) (And.intro (@matH.eq_3) (And.intro (@matH.eq_4) (@matB.eq_def))))) (And.intro (And.intro (And.intro (@hget.eq_1)
  (@hget.eq_2)) (And.intro (@vwFrom.eq_1) (@vwFrom.eq_2))) (And.intro (And.intro (@vwGet.eq_1) (@vwGet.eq_2)) (And.intro (@svRes.eq_1) (And.intro
  (@svRes.eq_2) (@svRes.eq_3)))))))

def CXB :=
  (And.intro (And.intro (And.intro (And.intro (And.intro (@List.take_of_length_le.{0}) (And.intro (@Option.map_none.{0,0}) (@Option.map_some.{0,0})))
  (And.intro (And.intro (@SV.map.eq_1) (@SV.map.eq_2)) (And.intro (@SV.map.eq_3) (@SV.map.eq_4)))) (And.intro (And.intro (And.intro (@mcv.eq_1)
  (@mcv.eq_2)) (And.intro (@mcv.eq_3) (@vwl.eq_1))) (And.intro (And.intro (@argsW.eq_1) (@argsW.eq_2)) (And.intro (@wfs.eq_1) (@wfs.eq_2)))))
  (And.intro (And.intro (And.intro (@wfs.eq_3) (And.intro (@wfs.eq_4) (@wfc.eq_1))) (And.intro (And.intro (@wfc.eq_2) (@wfc.eq_3)) (And.intro
  (@preL.eq_1) (@preL.eq_2)))) (And.intro (And.intro (And.intro (@preL.eq_3) (@preOK.eq_def)) (And.intro (@hget.eq_1) (@hget.eq_2))) (And.intro
  (And.intro (@Blk.own.eq_1) (@Blk.own.eq_2)) (And.intro (@wfb.eq_def) (@Blk.map.eq_1)))))) (And.intro (And.intro (And.intro (And.intro (@Blk.map.eq_2)
  (And.intro (@Blk.map.eq_3) (@Blk.map.eq_4))) (And.intro (And.intro (@Blk.map.eq_5) (@Blk.map.eq_6)) (And.intro (@Blk.map.eq_7) (@domL.eq_1))))
  (And.intro (And.intro (And.intro (@domL.eq_2) (@domL.eq_3)) (And.intro (@domL.eq_4) (@domL.eq_5))) (And.intro (And.intro (@Vw.blk.eq_1)
  (@Vw.blk.eq_2)) (And.intro (@Vw.blk.eq_3) (@ownL.eq_1))))) (And.intro (And.intro (And.intro (And.intro (@ownL.eq_2) (@ownL.eq_3)) (And.intro
  (@shrL.eq_1) (@shrL.eq_2))) (And.intro (And.intro (@shrL.eq_3) (@roL.eq_1)) (And.intro (@roL.eq_2) (@roL.eq_3)))) (And.intro (And.intro (And.intro
  (@roL.eq_4) (@Blk.shr.eq_1)) (And.intro (@Blk.shr.eq_2) (@Blk.shr.eq_3))) (And.intro (And.intro (@Blk.shr.eq_4) (@Blk.shr.eq_5)) (And.intro
  (@Blk.shr.eq_6) (@Blk.shr.eq_7)))))))

def EFB :=
  (And.intro (And.intro (And.intro (And.intro EFL (@Con.effAt.eq_1)) (And.intro (@rcv.eq_1) (And.intro (@rcv.eq_2) (@rcv.eq_3)))) (And.intro (And.intro
  (@rid.eq_1) (@vwl.eq_1)) (And.intro (@SV.map.eq_1) (And.intro (@SV.map.eq_2) (@SV.map.eq_3))))) (And.intro (And.intro (And.intro (@SV.map.eq_4)
  (@Blk.map.eq_1)) (And.intro (@Blk.map.eq_2) (And.intro (@Blk.map.eq_3) (@Blk.map.eq_4)))) (And.intro (And.intro (@Blk.map.eq_5) (And.intro
  (@Blk.map.eq_6) (@Blk.map.eq_7))) (And.intro (@Vw.blk.eq_1) (And.intro (@Vw.blk.eq_2) (@Vw.blk.eq_3))))))

def WKB :=
  (And.intro (And.intro (And.intro (And.intro (And.intro WKL (@Nat.zero_lt_succ)) (And.intro (@Option.map_none.{0,0}) (And.intro (@Option.map_some.{0,0})
  (@List.forall_mem_cons.{0})))) (And.intro (And.intro (@List.not_mem_nil.{0}) (@false_implies)) (And.intro (@implies_true.{0}) (And.intro
  (@implies_true.{1}) (@wkSl.eq_1))))) (And.intro (And.intro (And.intro (@wkSl.eq_2) (@wkSl.eq_3)) (And.intro (@wkSl.eq_4) (And.intro (@wkH.eq_1)
  (@wkH.eq_2)))) (And.intro (And.intro (@wkH.eq_3) (And.intro (@wkB.eq_1) (@wfs.eq_1))) (And.intro (@wfs.eq_2) (And.intro (@wfs.eq_3) (@wfs.eq_4))))))
  (And.intro (And.intro (And.intro (And.intro (@wfc.eq_1) (@wfc.eq_2)) (And.intro (@wfc.eq_3) (And.intro (@wfb.eq_def) (@SV.map.eq_1)))) (And.intro
  (And.intro (@SV.map.eq_2) (@SV.map.eq_3)) (And.intro (@SV.map.eq_4) (And.intro (@Blk.map.eq_1) (@Blk.map.eq_2))))) (And.intro (And.intro (And.intro
  (@Blk.map.eq_3) (@Blk.map.eq_4)) (And.intro (@Blk.map.eq_5) (And.intro (@Blk.map.eq_6) (@Blk.map.eq_7)))) (And.intro (And.intro (@mcv.eq_1)
  (And.intro (@mcv.eq_2) (@mcv.eq_3))) (And.intro (@vwl.eq_1) (And.intro (@hget.eq_1) (@hget.eq_2)))))))

def IFB :=
  (And.intro (@if_true.{1}) (@if_false.{1}))

def BGB :=
  (And.intro (And.intro (@List.length_cons.{0}) (And.intro (@List.length_nil.{0}) (@List.replicate_succ.{0}))) (And.intro (@List.replicate_zero.{0})
  (And.intro (@List.cons_append.{0}) (@List.nil_append.{0}))))

def RSB :=
  (And.intro (And.intro (@resvs.eq_1) (@resvs.eq_2)) (And.intro (@resv.eq_1) (@resv.eq_2)))

def KPB :=
  (And.intro (And.intro (And.intro (And.intro (@List.filterMap_cons.{0,0}) (And.intro (@List.filterMap_nil.{0,0}) (@List.cons_append.{0}))) (And.intro
  (And.intro (@List.nil_append.{0}) (@List.append_nil.{0})) (And.intro (@List.contains_cons.{0}) (@List.contains_nil.{0})))) (And.intro (And.intro
  (And.intro (@Bool.or_true) (@Bool.true_or)) (And.intro (@Bool.or_false) (@Bool.false_or))) (And.intro (And.intro (@beq_self_eq_true.{0})
  (@if_true.{1})) (And.intro (@if_false.{1}) (@Bool.false_eq_true))))) (And.intro (And.intro (And.intro (@List.set_cons_zero.{0}) (And.intro
  (@List.set_cons_succ.{0}) (@exists_eq_left.{1}))) (And.intro (And.intro (@keepSl.eq_1) (@keepSl.eq_2)) (And.intro (@dsts.eq_1) (@dsts.eq_2))))
  (And.intro (And.intro (And.intro (@dsts.eq_3) (@dsts.eq_4)) (And.intro (@dsts.eq_5) (@dsts.eq_6))) (And.intro (And.intro (@dsts.eq_7) (@opDst.eq_1))
  (And.intro (@setsSl.eq_1) (@setsSl.eq_2))))))

end Go.Proofs.Ytfnhchcgieeedaa
