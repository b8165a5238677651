/-
  The engine, nineteenth part: one walk of the order of the text serves every order. No conditions of its own.
-/
import Derived.Test.YtmdajpgemcaefaaE18
namespace Go.Proofs.Ytmdajpgemcaefaa
set_option linter.unusedSimpArgs false
set_option linter.unusedVariables false
open Go.RowKit

abbrev SHN := List SV × Heap × Nat

/-- The state behind an operation that had this effect (none: it was left out). -/
def aft (o : Oper) (r : Option Eff) (s : SHN) : SHN :=
  match r with
  | some e => (putS s.1 o.dst e.r, hputs s.2.1 e.wr, e.nx)
  | none => (putS s.1 o.dst .any, s.2.1, s.2.2)

def stOf (ops : List Oper) (rs : List (Option Eff)) (s : SHN) : Nat → SHN
  | 0 => s
  | k + 1 => match ops[k]?, rs[k]? with
    | some o, some r => aft o r (stOf ops rs s k)
    | _, _ => stOf ops rs s k

/-- The guard's word on an operation. -/
def guardOK (ops : Array Oper) (o : Oper) (sl : List SV) (r : Option Eff) : Prop :=
  match o.guard with
  | none => r.isSome = true
  | some (j, want) => ∃ d t, (ops[j]?).bind (·.dst) = some d ∧ sl[d]? = some (.c (.v (.bool t))) ∧ (r.isSome = true ↔ t = want)

def recOK (P : Program) (ops : Array Oper) (o : Oper) (r : Option Eff) (s : SHN) : Prop :=
  guardOK ops o s.1 r ∧ ∀ e, r = some e → Fit s.2.1 s.2.2 e ∧ EffOK P o (onOps o (evS s.1)) s.2.1 s.2.2 e

def lexD (P : Program) (ck : Bool) (ops : Array Oper) : List Oper → List SV → Heap → Nat → List (Option Eff) → (List (Option Eff) → List SV → Heap → Nat → Prop) → Prop
  | [], sl, H, nx, acc, K => K acc sl H nx
  | o :: l, sl, H, nx, acc, K => match o.guard with
    | none => stepK P ck o (onOps o (evS sl)) H nx fun e => lexD P ck ops l (putS sl o.dst e.r) (hputs H e.wr) e.nx (acc ++ [some e]) K
    | some (j, want) => match (ops[j]?).bind (·.dst) with
      | some d => match sl[d]? with
        | some (.c (.v (.bool t))) =>
          (t = want → stepK P ck o (onOps o (evS sl)) H nx fun e => lexD P ck ops l (putS sl o.dst e.r) (hputs H e.wr) e.nx (acc ++ [some e]) K) ∧
          (t = !want → lexD P ck ops l (putS sl o.dst .any) H nx (acc ++ [none]) K)
        | _ => False
      | none => False

def drawK (P : Program) (ck : Bool) (ops : Array Oper) (sl : List SV) (H : Heap) (nx : Nat) (K : List SV → Heap → Nat → Prop) : Prop :=
  lexD P ck ops ops.toList sl H nx [] fun rs sl H nx => indep ops rs = true ∧ K sl H nx

/-- The blocks' numbers of a heap are below the next. -/
theorem bnd_step {H : Heap} {nx : Nat} {e : Eff} (hB : Bnd H nx) (hf : Fit H nx e) : Bnd (hputs H e.wr) e.nx := by
  intro f blk hb
  rw [hput_keys _ _ hf.nodup] at hb
  split at hb
  · rename_i h
    obtain ⟨⟨g, x⟩, h1, h2⟩ := List.mem_map.1 h
    simp only at h2; subst h2
    exact (hf.key _ _ h1).1
  · exact Nat.lt_of_lt_of_le (hB f blk hb) hf.le

theorem lexD_spec {P : Program} {ck : Bool} {ops : Array Oper} {K : List (Option Eff) → List SV → Heap → Nat → Prop} {s0 : SHN} : ∀ (l : List Oper) (k : Nat) (acc : List (Option Eff)), acc.length = k → (∀ j, l[j]? = ops.toList[k + j]?) → k + l.length = ops.toList.length →
    Bnd (stOf ops.toList acc s0 k).2.1 (stOf ops.toList acc s0 k).2.2 →
    (∀ j o r, j < k → ops.toList[j]? = some o → acc[j]? = some r → recOK P ops o r (stOf ops.toList acc s0 j)) →
    lexD P ck ops l (stOf ops.toList acc s0 k).1 (stOf ops.toList acc s0 k).2.1 (stOf ops.toList acc s0 k).2.2 acc K →
    ∃ rs, rs.length = ops.toList.length ∧ (∀ j o r, ops.toList[j]? = some o → rs[j]? = some r → recOK P ops o r (stOf ops.toList rs s0 j)) ∧
      K rs (stOf ops.toList rs s0 ops.toList.length).1 (stOf ops.toList rs s0 ops.toList.length).2.1 (stOf ops.toList rs s0 ops.toList.length).2.2
  | [], k, acc, hk, _, hlen, _, hok, h => by
    simp only [List.length_nil, Nat.add_zero] at hlen
    refine ⟨acc, by omega, fun j o r ho hr => hok j o r (by have := (List.getElem?_eq_some_iff.1 hr).1; omega) ho hr, ?_⟩
    rw [← hlen]; exact h
  | o :: l, k, acc, hk, hl, hlen, hB, hok, h => by
    have ho : ops.toList[k]? = some o := by have := hl 0; simpa using this.symm
    have pre : ∀ (r : Option Eff) (j : Nat), j ≤ k → stOf ops.toList (acc ++ [r]) s0 j = stOf ops.toList acc s0 j := by
      intro r j
      induction j with
      | zero => intro _; rfl
      | succ j ih =>
        intro hj
        simp only [stOf, ih (by omega)]
        rw [List.getElem?_append_left (by omega)]
    have now : ∀ r, stOf ops.toList (acc ++ [r]) s0 (k + 1) = aft o r (stOf ops.toList acc s0 k) := by
      intro r
      simp only [stOf, pre r k (Nat.le_refl _), ho]
      rw [List.getElem?_append_right (by omega), hk]
      simp
    have go : ∀ (r : Option Eff), recOK P ops o r (stOf ops.toList acc s0 k) → Bnd (aft o r (stOf ops.toList acc s0 k)).2.1 (aft o r (stOf ops.toList acc s0 k)).2.2 →
        lexD P ck ops l (aft o r (stOf ops.toList acc s0 k)).1 (aft o r (stOf ops.toList acc s0 k)).2.1 (aft o r (stOf ops.toList acc s0 k)).2.2 (acc ++ [r]) K → _ := fun r hr hB' h' =>
      lexD_spec l (k + 1) (acc ++ [r]) (by simp [hk]) (fun j => by have := hl (j + 1); simpa [Nat.add_assoc, Nat.add_comm 1] using this) (by rw [List.length_cons] at hlen; omega) (by rw [now]; exact hB') (fun j o' r' hj ho' hr' => by
        rw [pre r j (by omega)]
        by_cases hjk : j = k
        · subst hjk
          rw [ho] at ho'; cases ho'
          rw [List.getElem?_append_right (by omega), hk] at hr'
          simp at hr'; subst hr'
          exact hr
        · rw [List.getElem?_append_left (by omega)] at hr'
          exact hok j o' r' (by omega) ho' hr') (by rw [now]; exact h')
    unfold lexD at h
    cases hg : o.guard with
    | none =>
      rw [hg] at h
      obtain ⟨e, h1, h2, h3⟩ := stepK_ok hB h
      exact go (some e) ⟨by unfold guardOK; rw [hg]; rfl, fun e' he => by cases he; exact ⟨h1, h2⟩⟩ (bnd_step hB h1) h3
    | some p =>
      obtain ⟨j, want⟩ := p
      rw [hg] at h
      simp only at h
      split at h
      · rename_i d hd
        split at h
        · rename_i t ht
          by_cases htw : t = want
          · obtain ⟨e, h1, h2, h3⟩ := stepK_ok hB (h.1 htw)
            exact go (some e) ⟨by unfold guardOK; rw [hg]; exact ⟨d, t, hd, ht, by simp [htw]⟩, fun e' he => by cases he; exact ⟨h1, h2⟩⟩ (bnd_step hB h1) h3
          · exact go none ⟨by unfold guardOK; rw [hg]; exact ⟨d, t, hd, ht, by simp [htw]⟩, fun e' he => (by cases he)⟩ hB (h.2 (by cases t <;> cases want <;> simp_all))
        · exact h.elim
      · exact h.elim

/-! The state under any set of operations that have come up. -/

def recR : Option Eff → SV
  | some e => e.r
  | none => .any

def wS (len : Nat) (ops : List Oper) (rs : List (Option Eff)) (i : Nat) (t : Nat) : Option (Option SV) :=
  match ops[i]?, rs[i]? with
  | some o, some r => if o.dst = some t then (if t < len then some (some (recR r)) else none) else none
  | _, _ => none

def wH (rs : List (Option Eff)) (i : Nat) (f : Nat) : Option (Option Blk) :=
  match rs[i]? with
  | some (some e) => if f ∈ keysOf e then some (hget e.wr f) else none
  | _ => none

theorem putS_get (sl : List SV) (d : Option Tmp) (r : SV) (t : Nat) : (putS sl d r)[t]? = if d = some t then (if t < sl.length then some r else none) else sl[t]? := by
  cases d with
  | none => simp [putS]
  | some d =>
    simp only [putS, List.getElem?_set, Option.some.injEq]
    by_cases h : d = t
    · subst h; simp
    · simp [h]

theorem putS_len (sl : List SV) (d : Option Tmp) (r : SV) : (putS sl d r).length = sl.length := by cases d <;> simp [putS]

theorem stOf_get {ops : List Oper} {rs : List (Option Eff)} {s : SHN} (hrs : rs.length = ops.length) (hn : ∀ (i : Nat) (o : Oper) (e : Eff), ops[i]? = some o → rs[i]? = some (some e) → (keysOf e).Nodup) : ∀ k, (stOf ops rs s k).1.length = s.1.length ∧ (∀ t, (stOf ops rs s k).1[t]? = folds (wS s.1.length ops rs) (fun t => s.1[t]?) (fun _ => true) k t) ∧
    ∀ f, hget (stOf ops rs s k).2.1 f = folds (wH rs) (hget s.2.1) (fun _ => true) k f
  | 0 => ⟨rfl, fun _ => rfl, fun _ => rfl⟩
  | k + 1 => by
    obtain ⟨h0, h1, h2⟩ := stOf_get (s := s) hrs hn k
    simp only [stOf, folds, if_true]
    cases ho : ops[k]? with
    | none =>
      have : rs[k]? = none := by
        rw [List.getElem?_eq_none_iff] at ho ⊢; omega
      simp only [this, wS, wH, ho]
      exact ⟨h0, h1, h2⟩
    | some o =>
      obtain ⟨r, hr⟩ : ∃ r, rs[k]? = some r := by
        have := (List.getElem?_eq_some_iff.1 ho).1
        exact ⟨_, List.getElem?_eq_getElem (by omega)⟩
      simp only [hr, wS, wH, ho]
      cases r with
      | none =>
        simp only [aft]
        refine ⟨by rw [putS_len]; exact h0, fun t => ?_, fun f => by simpa using h2 f⟩
        rw [putS_get, h0]
        split
        · split
          · rfl
          · rename_i hlt
            have : (stOf ops rs s k).1[t]? = none := List.getElem?_eq_none (by omega)
            rw [h1] at this
            simp [this]
        · simpa using h1 t
      | some e =>
        simp only [aft]
        refine ⟨by rw [putS_len]; exact h0, fun t => ?_, fun f => ?_⟩
        · rw [putS_get, h0]
          split
          · split
            · rfl
            · rename_i hlt
              have : (stOf ops rs s k).1[t]? = none := List.getElem?_eq_none (by omega)
              rw [h1] at this
              simp [this]
          · simpa using h1 t
        · rw [hput_keys _ _ (hn k o e ho hr)]
          unfold keysOf
          split
          · simp
          · simpa using h2 f

end Go.Proofs.Ytmdajpgemcaefaa
