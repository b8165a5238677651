/-
  The engine, twelfth part: contracts of functions, and calls. No conditions of its own.
-/
import Derived.Test.YtmdajpgemcaefaaE11
namespace Go.Proofs.Ytmdajpgemcaefaa
set_option linter.unusedSimpArgs false
set_option linter.unusedVariables false
open Go.RowKit

/-- What a function does: the blocks that its arguments lead to (numbers below n0), its arguments, its result, the blocks that are changed or new (numbers from n0 on). -/
structure Con where
  n0 : Nat
  pre : Heap
  args : List SV
  r : SV
  wr : Heap
  n : Nat

def Con.eff (c : Con) : Eff := ⟨c.r, c.pre.map (·.1), c.wr, c.n⟩

def FnR (P : Program) (f : FuncId) (c : Con) : Prop :=
  Fit c.pre c.n0 c.eff ∧ ∀ (ρ : Nat → At) (vs : List Value) (w : World), All2 (SVr (· < c.n0) ρ) c.args vs → Mem (· < c.n0) ρ (hget c.pre) w →
    Calls P f vs.toArray w fun e w' => ∃ u ρ', e = .returned u ∧ Done (· < c.n0) ρ c.pre c.n0 w c.eff u ρ' w'

/-- How a call sees a block of the caller: a part, to read; the very block; nothing. -/
inductive Vw where
  | ro (g b m : Nat)
  | same (g : Nat)
  | emp (sz : Nat)

def Vw.blk : Vw → Option Nat
  | .ro g _ _ => some g
  | .same g => some g
  | .emp _ => none

def vwAt (ρ : Nat → At) : Vw → At
  | .ro g b m => ⟨(ρ g).adr, (ρ g).off + b * (ρ g).sz, (ρ g).sz, m, False, (ρ g).F⟩
  | .same g => ρ g
  | .emp s => ⟨none, 0, s, 0, True, fun _ => False⟩

/-- a contract's cell as the caller has it -/
def mcv (π : Nat → Vw) : CV → CV
  | .sl i sz o n => match π i with
    | .ro g b _ => .sl g sz (b + o) n
    | .same g => .sl g sz o n
    | .emp _ => .nil
  | .ptr i a c => match π i with
    | .same g => .ptr g a c
    | _ => .any
  | x => x

def wfc (π : Nat → Vw) (n0 : Nat) : CV → Prop
  | .sl i sz o n => i < n0 ∧ match π i with
    | .emp s => s = sz ∧ n = 0
    | _ => True
  | .ptr i _ _ => i < n0 ∧ match π i with
    | .same _ => True
    | _ => False
  | _ => True

/-- a result's cell as the caller has it -/
def rcv (π : Nat → Vw) (n0 nx : Nat) : CV → CV
  | .sl i sz o n => if i < n0 then (match π i with | .same g => .sl g sz o n | _ => .any) else .sl (nx + (i - n0)) sz o n
  | .ptr i a c => if i < n0 then (match π i with | .same g => .ptr g a c | _ => .any) else .ptr (nx + (i - n0)) a c
  | x => x

def SV.map (h : CV → CV) : SV → SV
  | .any => .any
  | .c x => .c (h x)
  | .agg l => .agg (l.map h)
  | .tup l => .tup (l.map fun | .inl x => .inl (h x) | .inr l => .inr (l.map h))

def Blk.map (h : CV → CV) : Blk → Blk
  | .box T cs => .box T (cs.map h)
  | .row T es => .row T es
  | .ro es => .ro es

def wfs (p : CV → Prop) : SV → Prop
  | .any => True
  | .c x => p x
  | .agg l => ∀ x ∈ l, p x
  | .tup l => ∀ y ∈ l, match y with | .inl x => p x | .inr l => ∀ x ∈ l, p x

def wfb (p : CV → Prop) : Blk → Prop
  | .box _ cs => ∀ x ∈ cs, p x
  | _ => True

theorem Blk.own_map (h : CV → CV) (b : Blk) : (b.map h).own = b.own := by cases b <;> rfl

theorem All2.of_map {α β γ : Type} {R : γ → β → Prop} {R' : α → β → Prop} {h : α → γ} : ∀ {l : List α} {m : List β}, All2 R (l.map h) m → (∀ x ∈ l, ∀ u, R (h x) u → R' x u) → All2 R' l m
  | [], [], _, _ => trivial
  | [], _ :: _, h, _ => h.elim
  | _ :: _, [], h, _ => h.elim
  | x :: l, u :: m, hh, hr => ⟨hr x (by simp) u hh.1, All2.of_map (l := l) (m := m) hh.2 fun y hy => hr y (by simp [hy])⟩

theorem All2.to_map {α β γ : Type} {R : γ → β → Prop} {R' : α → β → Prop} {h : α → γ} : ∀ {l : List α} {m : List β}, All2 R' l m → (∀ x u, R' x u → R (h x) u) → All2 R (l.map h) m
  | [], [], _, _ => trivial
  | [], _ :: _, h, _ => h.elim
  | _ :: _, [], h, _ => h.elim
  | x :: l, u :: m, hh, hr => ⟨hr x u hh.1, All2.to_map (l := l) (m := m) hh.2 hr⟩

theorem mcv_r {V : Nat → Prop} {ρ : Nat → At} {π : Nat → Vw} {n0 : Nat} {x : CV} {u : Value} (hw : wfc π n0 x) (h : CVr V ρ (mcv π x) u) : CVr (· < n0) (fun i => vwAt ρ (π i)) x u := by
  cases x with
  | any => exact h
  | v x => exact h
  | nil => exact h
  | ptr i a c =>
    obtain ⟨h1, h2⟩ := hw
    simp only [mcv] at h
    cases hp : π i with
    | ro g b m => simp [hp] at h2
    | emp s => simp [hp] at h2
    | same g =>
      rw [hp] at h
      exact ⟨h1, by simp only [hp, vwAt]; exact h.2⟩
  | sl i sz o n =>
    obtain ⟨h1, h2⟩ := hw
    simp only [mcv] at h
    cases hp : π i with
    | ro g b m =>
      rw [hp] at h
      obtain ⟨_, hsz, a, cp, rfl, h3, h4, h5, h6, h7⟩ := h
      refine ⟨h1, by simp only [hp, vwAt]; exact hsz, a, cp, rfl, h3, h4, h5, fun _ hex => (by simp only [hp, vwAt] at hex), fun hpos => ?_⟩
      obtain ⟨b', q1, q2⟩ := h7 hpos
      refine ⟨b', by simp only [hp, vwAt]; exact q1, ?_⟩
      simp only [hp, vwAt, hsz]
      rw [q2, Nat.add_mul, Nat.add_assoc]
    | emp s =>
      rw [hp] at h h2
      obtain ⟨rfl, rfl⟩ := h2
      have hu : u = .slice none 0 0 := h
      exact ⟨h1, by simp only [hp, vwAt], none, 0, hu, Nat.le_refl _, Nat.zero_le _, fun _ => rfl, fun _ _ => by simp only [hp, vwAt]; exact ⟨rfl, trivial⟩, fun h => absurd h (Nat.lt_irrefl _)⟩
    | same g =>
      rw [hp] at h
      refine ⟨h1, ?_⟩
      simp only [hp, vwAt]
      exact h.2

theorem msv_r {V : Nat → Prop} {ρ : Nat → At} {π : Nat → Vw} {n0 : Nat} {x : SV} {u : Value} (hw : wfs (wfc π n0) x) (h : SVr V ρ (x.map (mcv π)) u) : SVr (· < n0) (fun i => vwAt ρ (π i)) x u := by
  cases x with
  | any => trivial
  | c x => exact mcv_r hw h
  | agg l =>
    obtain ⟨vs, h1, h2⟩ := h
    exact ⟨vs, h1, h2.of_map fun x hx u hu => mcv_r (hw x hx) hu⟩
  | tup l =>
    obtain ⟨vs, h1, h2⟩ := h
    refine ⟨vs, h1, h2.of_map fun y hy u hu => ?_⟩
    have := hw y hy
    cases y with
    | inl x => exact mcv_r this hu
    | inr l =>
      obtain ⟨vs', h3, h4⟩ := hu
      exact ⟨vs', h3, h4.of_map fun x hx u hu => mcv_r (this x hx) hu⟩

/-- The places behind a call. -/
def retA (ρ ρc : Nat → At) (n0 nx nx' : Nat) (f : Nat) : At := if nx ≤ f ∧ f < nx' then ρc (f - nx + n0) else ρ f

theorem rcv_r {V : Nat → Prop} {ρ ρc : Nat → At} {π : Nat → Vw} {n0 n nx nx' : Nat} (hn : nx' = nx + (n - n0)) (hsame : ∀ i, i < n0 → ρc i = vwAt ρ (π i)) (hπ : ∀ i g, i < n0 → π i = .same g → V g ∧ (g < nx ∨ nx' ≤ g)) {x : CV} {u : Value}
    (h : CVr (newV (· < n0) n0 n) ρc x u) : CVr (newV V nx nx') (retA ρ ρc n0 nx nx') (rcv π n0 nx x) u := by
  have new : ∀ i, newV (· < n0) n0 n i → ¬ i < n0 → newV V nx nx' (nx + (i - n0)) ∧ retA ρ ρc n0 nx nx' (nx + (i - n0)) = ρc i := by
    intro i hi hlt
    rcases hi with hi | hi
    · exact absurd hi hlt
    · refine ⟨.inr (by omega), ?_⟩
      unfold retA
      rw [if_pos (by omega)]
      congr 1; omega
  have old : ∀ i g, i < n0 → π i = .same g → newV V nx nx' g ∧ retA ρ ρc n0 nx nx' g = ρc i := by
    intro i g hi hp
    obtain ⟨h1, h2⟩ := hπ i g hi hp
    refine ⟨.inl h1, ?_⟩
    unfold retA
    rw [if_neg (by omega), hsame i hi, hp]; rfl
  cases x with
  | any => exact h
  | v x => exact h
  | nil => exact h
  | ptr i a c =>
    have hone := h.one
    obtain ⟨h1, h2⟩ := h
    simp only [rcv]
    split
    · rename_i hi
      split
      · rename_i g hp
        obtain ⟨q1, q2⟩ := old i g hi hp
        exact ⟨q1, by rw [q2]; exact h2⟩
      · exact hone
    · rename_i hi
      obtain ⟨q1, q2⟩ := new i h1 hi
      exact ⟨q1, by rw [q2]; exact h2⟩
  | sl i sz o m =>
    have hone := h.one
    obtain ⟨h1, h2⟩ := h
    simp only [rcv]
    split
    · rename_i hi
      split
      · rename_i g hp
        obtain ⟨q1, q2⟩ := old i g hi hp
        exact ⟨q1, by rw [q2]; exact h2⟩
      · exact hone
    · rename_i hi
      obtain ⟨q1, q2⟩ := new i h1 hi
      exact ⟨q1, by rw [q2]; exact h2⟩

theorem rsv_r {V : Nat → Prop} {ρ ρc : Nat → At} {π : Nat → Vw} {n0 n nx nx' : Nat} (hn : nx' = nx + (n - n0)) (hsame : ∀ i, i < n0 → ρc i = vwAt ρ (π i)) (hπ : ∀ i g, i < n0 → π i = .same g → V g ∧ (g < nx ∨ nx' ≤ g)) {x : SV} {u : Value}
    (h : SVr (newV (· < n0) n0 n) ρc x u) : SVr (newV V nx nx') (retA ρ ρc n0 nx nx') (x.map (rcv π n0 nx)) u := by
  cases x with
  | any => trivial
  | c x => exact rcv_r hn hsame hπ h
  | agg l =>
    obtain ⟨vs, h1, h2⟩ := h
    exact ⟨vs, h1, h2.to_map fun x u hu => rcv_r hn hsame hπ hu⟩
  | tup l =>
    obtain ⟨vs, h1, h2⟩ := h
    refine ⟨vs, h1, h2.to_map fun y u hu => ?_⟩
    cases y with
    | inl x => exact rcv_r hn hsame hπ hu
    | inr l =>
      obtain ⟨vs', h3, h4⟩ := hu
      exact ⟨vs', h3, h4.to_map fun x u hu => rcv_r hn hsame hπ hu⟩

end Go.Proofs.Ytmdajpgemcaefaa
