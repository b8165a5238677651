/-
  The engine, first part: symbolic states of a Go function (slots, blocks named by numbers) and what they say of a world. No conditions of its own.
-/
import Derived.Test.YtmdajpgemcaefaaJoinN
import Derived.Deep.MidRow
namespace Go.Proofs.Ytmdajpgemcaefaa
set_option linter.unusedSimpArgs false
set_option linter.unusedVariables false
open Go.RowKit

/-- Data as a tree: a cell. -/
inductive DC where
  | v (x : Value)
  | sl (T sz : Nat) (es : List (List DC))

/-- A symbolic cell. -/
inductive CV where
  | any
  | v (x : Value)
  | nil
  | ptr (f i c : Nat)
  | sl (f sz o n : Nat)

/-- A symbolic value. -/
inductive SV where
  | any
  | c (x : CV)
  | agg (l : List CV)
  | tup (l : List (CV ⊕ List CV))

def All2 {α β : Type} (R : α → β → Prop) : List α → List β → Prop
  | [], [] => True
  | a :: l, b :: m => R a b ∧ All2 R l m
  | _, _ => False

theorem All2.length {α β : Type} {R : α → β → Prop} : ∀ {l : List α} {m : List β}, All2 R l m → l.length = m.length
  | [], [], _ => rfl
  | _ :: l, _ :: m, h => by simp [All2.length (l := l) (m := m) h.2]

theorem All2.get {α β : Type} {R : α → β → Prop} : ∀ {l : List α} {m : List β}, All2 R l m → ∀ {i : Nat} {a : α}, l[i]? = some a → ∃ b, m[i]? = some b ∧ R a b
  | [], [], _, i, a, h => by simp at h
  | x :: l, y :: m, h, 0, a, e => by
    simp at e; subst e; exact ⟨y, rfl, h.1⟩
  | x :: l, y :: m, h, i + 1, a, e => by
    simp at e; simpa using All2.get (l := l) (m := m) h.2 e

theorem All2.mono {α β : Type} {R R' : α → β → Prop} (hr : ∀ a b, R a b → R' a b) : ∀ {l : List α} {m : List β}, All2 R l m → All2 R' l m
  | [], [], _ => trivial
  | _ :: l, _ :: m, h => ⟨hr _ _ h.1, All2.mono hr (l := l) (m := m) h.2⟩

theorem All2.of_get {α β : Type} {R : α → β → Prop} : ∀ {l : List α} {m : List β}, l.length = m.length → (∀ (i : Nat) (a : α) (b : β), l[i]? = some a → m[i]? = some b → R a b) → All2 R l m
  | [], [], _, _ => trivial
  | [], _ :: _, h, _ => by simp at h
  | _ :: _, [], h, _ => by simp at h
  | x :: l, y :: m, h, hg => ⟨hg 0 x y rfl rfl, All2.of_get (l := l) (m := m) (by simpa using h) fun i a b h1 h2 => hg (i + 1) a b (by simpa using h1) (by simpa using h2)⟩

theorem All2.set {α β : Type} {R : α → β → Prop} {l : List α} {m : List β} (h : All2 R l m) (i : Nat) {a : α} {b : β} (hr : R a b) : All2 R (l.set i a) (m.set i b) := by
  refine All2.of_get (by simp [h.length]) fun j x y h1 h2 => ?_
  rw [List.getElem?_set] at h1 h2
  by_cases hij : i = j
  · subst hij
    rw [if_pos rfl] at h1 h2
    split at h1
    · split at h2
      · cases h1; cases h2; exact hr
      · cases h2
    · cases h1
  · rw [if_neg hij] at h1 h2
    obtain ⟨y', hy, hr'⟩ := h.get h1
    rw [hy] at h2
    cases h2
    exact hr'

theorem All2.append {α β : Type} {R : α → β → Prop} : ∀ {l : List α} {m : List β} {l' : List α} {m' : List β}, All2 R l m → All2 R l' m' → All2 R (l ++ l') (m ++ m')
  | [], [], _, _, _, h' => h'
  | _ :: l, _ :: m, _, _, h, h' => ⟨h.1, All2.append (l := l) (m := m) h.2 h'⟩

theorem All2.take {α β : Type} {R : α → β → Prop} : ∀ {l : List α} {m : List β}, All2 R l m → ∀ n, All2 R (l.take n) (m.take n)
  | [], [], _, n => by simp [All2]
  | x :: l, y :: m, h, 0 => trivial
  | x :: l, y :: m, h, n + 1 => ⟨h.1, All2.take (l := l) (m := m) h.2 n⟩

theorem All2.drop {α β : Type} {R : α → β → Prop} : ∀ {l : List α} {m : List β}, All2 R l m → ∀ n, All2 R (l.drop n) (m.drop n)
  | [], [], _, n => by simp [All2]
  | x :: l, y :: m, h, 0 => h
  | x :: l, y :: m, h, n + 1 => All2.drop (l := l) (m := m) h.2 n

/-- Where a block of the state lies: block, first cell, cells to an element, capacity, the blocks it rests on. -/
structure At where
  adr : Option Nat
  off : Nat
  sz : Nat
  cap : Nat
  ex : Prop
  F : Nat → Prop

def CVr (V : Nat → Prop) (ρ : Nat → At) : CV → Value → Prop
  | .any, u => u.oneCell' = true
  | .v x, u => u = x ∧ x.oneCell' = true
  | .nil, u => u = .slice none 0 0
  | .ptr f i c, u => V f ∧ ∃ b, (ρ f).adr = some b ∧ u = .pointer (some ⟨b, (ρ f).off + i * (ρ f).sz + c, none⟩)
  | .sl f sz o n, u => V f ∧ (ρ f).sz = sz ∧ ∃ a cp, u = .slice a n cp ∧ n ≤ cp ∧ cp ≤ maxLen ∧ (a = none → cp = 0) ∧
      (o = 0 → (ρ f).ex → a = (ρ f).adr.map (⟨·, (ρ f).off, none⟩) ∧ cp = (ρ f).cap) ∧ (0 < n → ∃ b, (ρ f).adr = some b ∧ a = some ⟨b, (ρ f).off + o * sz, none⟩)

def CSr (V : Nat → Prop) (ρ : Nat → At) : CV ⊕ List CV → Value → Prop
  | .inl x, u => CVr V ρ x u
  | .inr l, u => ∃ vs : List Value, u = .agg vs.toArray ∧ All2 (CVr V ρ) l vs

def SVr (V : Nat → Prop) (ρ : Nat → At) : SV → Value → Prop
  | .any, _ => True
  | .c x, u => CVr V ρ x u
  | .agg l, u => ∃ vs : List Value, u = .agg vs.toArray ∧ All2 (CVr V ρ) l vs
  | .tup l, u => ∃ vs : List Value, u = .tuple vs.toArray ∧ All2 (CSr V ρ) l vs

theorem CVr.one {V : Nat → Prop} {ρ : Nat → At} {x : CV} {u : Value} (h : CVr V ρ x u) : u.oneCell' = true := by
  cases x with
  | any => exact h
  | v x => rw [h.1]; exact h.2
  | nil => rw [show u = _ from h]; rfl
  | ptr f i c => obtain ⟨_, b, _, rfl⟩ := h; rfl
  | sl f sz o n => obtain ⟨_, _, a, cp, rfl, _⟩ := h; rfl

section
variable {V V' : Nat → Prop} {ρ ρ' : Nat → At}

theorem CVr.mono (hV : ∀ f, V f → V' f ∧ ρ' f = ρ f) {x : CV} {u : Value} (h : CVr V ρ x u) : CVr V' ρ' x u := by
  cases x with
  | any => exact h
  | v x => exact h
  | nil => exact h
  | ptr f i c =>
    obtain ⟨h1, h2⟩ := h
    obtain ⟨h3, h4⟩ := hV f h1
    exact ⟨h3, by rw [h4]; exact h2⟩
  | sl f sz o n =>
    obtain ⟨h1, h2⟩ := h
    obtain ⟨h3, h4⟩ := hV f h1
    exact ⟨h3, by rw [h4]; exact h2⟩

theorem CSr.mono (hV : ∀ f, V f → V' f ∧ ρ' f = ρ f) {x : CV ⊕ List CV} {u : Value} (h : CSr V ρ x u) : CSr V' ρ' x u := by
  cases x with
  | inl x => exact CVr.mono hV h
  | inr l => obtain ⟨vs, h1, h2⟩ := h; exact ⟨vs, h1, h2.mono fun _ _ => CVr.mono hV⟩

theorem SVr.mono (hV : ∀ f, V f → V' f ∧ ρ' f = ρ f) {x : SV} {u : Value} (h : SVr V ρ x u) : SVr V' ρ' x u := by
  cases x with
  | any => trivial
  | c x => exact CVr.mono hV h
  | agg l => obtain ⟨vs, h1, h2⟩ := h; exact ⟨vs, h1, h2.mono fun _ _ => CVr.mono hV⟩
  | tup l => obtain ⟨vs, h1, h2⟩ := h; exact ⟨vs, h1, h2.mono fun _ _ => CSr.mono hV⟩
end

/-- A value reads as data, out of blocks that satisfy F. -/
inductive Rd (w : World) (F : Nat → Prop) : DC → Value → Prop
  | v {x : Value} (h : x.oneCell' = true) : Rd w F (.v x) x
  | sl {T sz : Nat} {es : List (List DC)} {a : Option Addr} {cap : Nat} (g : Nat → Nat → Value)
      (le : es.length ≤ cap) (lt : cap ≤ maxLen) (nil : a = none → cap = 0) (wf : ∀ e ∈ es, e.length = sz)
      (ad : es ≠ [] → ∃ b off, a = some ⟨b, off, none⟩ ∧ F b ∧ ∀ i j, i < es.length → j < sz → w.cell? ⟨b, off + i * sz + j, none⟩ = some (g i j))
      (r : ∀ i e j c, es[i]? = some e → e[j]? = some c → Rd w F c (g i j)) : Rd w F (.sl T sz es) (.slice a es.length cap)

theorem Rd.one {w : World} {F : Nat → Prop} {c : DC} {u : Value} (h : Rd w F c u) : u.oneCell' = true := by
  cases h with
  | v h => exact h
  | sl => rfl

theorem Rd.keep {w w' : World} {F F' : Nat → Prop} (hw : ∀ b, F b → F' b ∧ w'.heap[b]? = w.heap[b]?) {c : DC} {u : Value} (h : Rd w F c u) : Rd w' F' c u := by
  induction h with
  | v h => exact .v h
  | sl g le lt nil wf ad r ih =>
    refine .sl g le lt nil wf (fun hn => ?_) ih
    obtain ⟨b, off, h1, h2, h3⟩ := ad hn
    exact ⟨b, off, h1, (hw b h2).1, fun i j hi hj => (World.cell?_of_block (w := w) (hw b h2).2).trans (h3 i j hi hj)⟩

/-- A block of the state: a variable; a row of the call's own (its cells hold no slices); a row that is only read. -/
inductive Blk where
  | box (T : Nat) (cs : List CV)
  | row (T : Nat) (es : List (List DC))
  | ro (es : List (List DC))

def Blk.own : Blk → Bool
  | .ro _ => false
  | _ => true

def DC.val : DC → Value
  | .v x => x
  | .sl _ _ _ => undef

def flatE (es : List (List DC)) : List Value := es.flatMap fun e => e.map DC.val

def DC.flat (c : DC) : Prop := ∃ x : Value, c = .v x ∧ x.oneCell' = true

def Holds (V : Nat → Prop) (ρ : Nat → At) (w : World) (p : At) : Blk → Prop
  | .box T cs => p.off = 0 ∧ ∃ (b : Nat) (vs : List Value), p.adr = some b ∧ p.F b ∧ w.heap[b]? = some (.cells vs.toArray T (0, 0)) ∧ All2 (CVr V ρ) cs vs
  | .row T es => (p.off = 0 ∧ p.ex) ∧ p.cap ≤ maxLen ∧ es.length ≤ p.cap ∧ (∀ e ∈ es, e.length = p.sz) ∧ (∀ e ∈ es, ∀ c ∈ e, DC.flat c) ∧ (p.adr = none → p.cap = 0) ∧
      ∀ b, p.adr = some b → p.F b ∧ ∃ cur : Array Value, w.heap[b]? = some (.cells cur T (0, 0)) ∧ cur.size = p.cap * p.sz ∧ cur.toList.take (es.length * p.sz) = flatE es
  | .ro es => p.cap ≤ maxLen ∧ es.length ≤ p.cap ∧ (∀ e ∈ es, e.length = p.sz) ∧
      (es ≠ [] → ∃ b, p.adr = some b ∧ p.F b) ∧ ∀ i e j c b, es[i]? = some e → e[j]? = some c → p.adr = some b → ∃ u, w.cell? ⟨b, p.off + i * p.sz + j, none⟩ = some u ∧ Rd w p.F c u

theorem Holds.keep {V V' : Nat → Prop} {ρ ρ' : Nat → At} {w w' : World} {p : At} {blk : Blk} (hV : ∀ f, V f → V' f ∧ ρ' f = ρ f) (hw : ∀ b, p.F b → w'.heap[b]? = w.heap[b]?)
    (h : Holds V ρ w p blk) : Holds V' ρ' w' p blk := by
  cases blk with
  | box T cs =>
    obtain ⟨h0, b, vs, h1, h2, h3, h4⟩ := h
    exact ⟨h0, b, vs, h1, h2, by rw [hw b h2]; exact h3, h4.mono fun _ _ => CVr.mono hV⟩
  | row T es =>
    obtain ⟨h0, h1, h2, h3, h4, h5, h6⟩ := h
    refine ⟨h0, h1, h2, h3, h4, h5, fun b hb => ?_⟩
    obtain ⟨h7, cur, h8, h9⟩ := h6 b hb
    exact ⟨h7, cur, by rw [hw b h7]; exact h8, h9⟩
  | ro es =>
    obtain ⟨h1, h2, h3, h6, h7⟩ := h
    refine ⟨h1, h2, h3, h6, fun i e j c b h8 h9 hb => ?_⟩
    obtain ⟨u, h10, h11⟩ := h7 i e j c b h8 h9 hb
    obtain ⟨b', hb', hF⟩ := h6 (by intro e0; simp [e0] at h8)
    rw [hb] at hb'
    cases hb'
    exact ⟨u, (World.cell?_of_block (w := w) (hw b hF)).trans h10, h11.keep fun b hb => ⟨hb, hw b hb⟩⟩

/-- The memory of a state. -/
structure Mem (V : Nat → Prop) (ρ : Nat → At) (G : Nat → Option Blk) (w : World) : Prop where
  dom : ∀ f blk, G f = some blk → V f ∧ Holds V ρ w (ρ f) blk ∧ ∀ b, (ρ f).F b → b < w.heap.size
  sep : ∀ f g blk blk', f ≠ g → G f = some blk → blk.own = true → G g = some blk' → ∀ b, (ρ f).F b → ¬ (ρ g).F b

abbrev Heap := List (Nat × Option Blk)

def hget : Heap → Nat → Option Blk
  | [], _ => none
  | (g, x) :: H, f => if f = g then x else hget H f

def hput : Heap → Nat → Option Blk → Heap
  | [], f, b => [(f, b)]
  | (g, x) :: H, f, b => if f = g then (g, b) :: H else (g, x) :: hput H f b

theorem hget_hput (H : Heap) (f : Nat) (b : Option Blk) (g : Nat) : hget (hput H f b) g = if g = f then b else hget H g := by
  induction H with
  | nil => simp [hput, hget]
  | cons p H ih =>
    obtain ⟨k, x⟩ := p
    unfold hput
    by_cases h : f = k
    · subst h; simp [hget]; split <;> rfl
    · rw [if_neg h]
      simp only [hget, ih]
      by_cases h2 : g = k
      · subst h2; rw [if_pos rfl, if_pos rfl, if_neg (fun e => h e.symm)]
      · rw [if_neg h2, if_neg h2]

def hputs : Heap → List (Nat × Option Blk) → Heap
  | H, [] => H
  | H, (f, b) :: l => hputs (hput H f b) l

/-- What an operation does: its value, the blocks it looks at, the blocks it changes (none: given up), the next free number. -/
structure Eff where
  r : SV
  rd : List Nat
  wr : List (Nat × Option Blk)
  nx : Nat

/-- An effect that fits a state. -/
structure Fit (H : Heap) (nx : Nat) (e : Eff) : Prop where
  le : nx ≤ e.nx
  rd : ∀ f ∈ e.rd, ∃ blk, hget H f = some blk
  key : ∀ f b, (f, b) ∈ e.wr → f < e.nx ∧ (f < nx → f ∈ e.rd ∧ ∃ blk, hget H f = some blk ∧ blk.own = true)
  nodup : (e.wr.map (·.1)).Nodup

def looked (H : Heap) (rd : List Nat) (f : Nat) : Option Blk := if f ∈ rd then hget H f else none
def newV (V : Nat → Prop) (nx nx' : Nat) (f : Nat) : Prop := V f ∨ (nx ≤ f ∧ f < nx')

/-- What has become of a world. -/
structure Done (V : Nat → Prop) (ρ : Nat → At) (H : Heap) (nx : Nat) (w : World) (e : Eff) (u : Value) (ρ' : Nat → At) (w' : World) : Prop where
  same : ∀ f, f < nx ∨ e.nx ≤ f → ρ' f = ρ f
  val : SVr (newV V nx e.nx) ρ' e.r u
  mem : Mem (newV V nx e.nx) ρ' (hget e.wr) w'
  foot : ∀ f blk, hget e.wr f = some blk → ∀ b, (ρ' f).F b → w.heap.size ≤ b ∨ (∃ g x, (g, x) ∈ e.wr ∧ g < nx ∧ (ρ g).F b) ∨ (blk.own = false ∧ ∃ g ∈ e.rd, ∃ blk', hget H g = some blk' ∧ blk'.own = false ∧ (ρ g).F b)
  os : w'.os = w.os
  tape : w'.tape = w.tape
  output : w'.output = w.output
  size : w.heap.size ≤ w'.heap.size
  block : ∀ k, k < w.heap.size → (∀ g x, (g, x) ∈ e.wr → g < nx → ¬ (ρ g).F k) → w'.heap[k]? = w.heap[k]?

/-- The operation has this effect, wherever its operands are as told. -/
def EffOK (P : Program) (o : Oper) (ev : Operand → SV) (H : Heap) (nx : Nat) (e : Eff) : Prop :=
  ∀ (V : Nat → Prop) (ρ : Nat → At) (a : Act) (w : World) (K : Act → World → Prop) (Q : Exit → Act → World → Prop),
    (∀ f, nx ≤ f → f < e.nx → ¬ V f) → (∀ x, SVr V ρ (ev x) (a.eval x)) → Mem V ρ (looked H e.rd) w →
    (∀ u ρ' w', Done V ρ H nx w e u ρ' w' → K (a.put o.dst u) w') → o.wp P a w K Q

end Go.Proofs.Ytmdajpgemcaefaa
