/-
  Words and small lemmas that the contracts share: slices of one-cell elements, read and owned. No conditions of its own.
-/
import Derived.Test.YtfnhchcgieeedaaGreatRows
import Derived.WalkKit
import Derived.WalkSpells
import Derived.WalkLawsBesides
import Derived.ProofKit
import Derived.OpenShut
import Derived.Lib.Hide
import Derived.Deep.QuietTactic
import Derived.BigQuiet
import Derived.Deep.Onto
import Derived.Deep.DeepMust
import Derived.Deep.Light
import Derived.Laws.AppendOwnNone
namespace Go.Proofs.YtfnhchcgieeedaaGreat
set_option linter.unusedSimpArgs false
set_option linter.unusedVariables false
set_option linter.unusedSimpArgs false
set_option linter.unusedVariables false
set_option linter.defProp false
open Go.RowKit

/-- A slice value that reads as the list l, cell by cell, from blocks that satisfy S. -/
structure Sl {α : Type} (enc : α → Value) (S : Nat → Prop) (w : World) (a : Option Addr) (cap : Nat) (l : List α) : Prop where
  le : l.length ≤ cap
  lt : cap ≤ maxLen
  nil : a = none → cap = 0
  at_ : l ≠ [] → ∃ b off, a = some ⟨b, off, none⟩ ∧ S b ∧ ∀ i (h : i < l.length), w.cell? ⟨b, off + i, none⟩ = some (enc l[i])

theorem Sl.get {α : Type} {enc : α → Value} {S : Nat → Prop} {w : World} {a : Option Addr} {cap : Nat} {l : List α} (h : Sl enc S w a cap l) (hn : 0 < l.length) :
    ∃ b off, a = some ⟨b, off, none⟩ ∧ S b ∧ b < w.heap.size ∧ ∀ i (h : i < l.length), w.cell? ⟨b, off + i, none⟩ = some (enc l[i]) := by
  obtain ⟨b, off, h1, h2, h3⟩ := h.at_ (by intro e; simp [e] at hn)
  exact ⟨b, off, h1, h2, World.block_lt_of_cell? w _ (h3 0 hn), h3⟩

theorem Sl.keep {α : Type} {enc : α → Value} {S : Nat → Prop} {w w' : World} {a : Option Addr} {cap : Nat} {l : List α} (h : Sl enc S w a cap l)
    (hk : ∀ b, S b → b < w.heap.size → w'.heap[b]? = w.heap[b]?) : Sl enc S w' a cap l := by
  refine ⟨h.le, h.lt, h.nil, fun hn => ?_⟩
  obtain ⟨b, off, h1, h2, h3⟩ := h.at_ hn
  refine ⟨b, off, h1, h2, fun i hi => ?_⟩
  have hb := World.block_lt_of_cell? w _ (h3 i hi)
  rw [← h3 i hi]
  exact World.cell?_of_block (w := w) (hk b h2 hb)

theorem Sl.below {α : Type} {enc : α → Value} {S : Nat → Prop} {w w' : World} {a : Option Addr} {cap : Nat} {l : List α} (h : Sl enc S w a cap l)
    (hb : Below w.heap.size w w') : Sl enc S w' a cap l := h.keep fun b _ hlt => hb.block b hlt

theorem Sl.mono {α : Type} {enc : α → Value} {S S' : Nat → Prop} {w : World} {a : Option Addr} {cap : Nat} {l : List α} (h : Sl enc S w a cap l)
    (hs : ∀ b, b < w.heap.size → S b → S' b) : Sl enc S' w a cap l := by
  refine ⟨h.le, h.lt, h.nil, fun hn => ?_⟩
  obtain ⟨b, off, h1, h2, h3⟩ := h.at_ hn
  exact ⟨b, off, h1, hs b (World.block_lt_of_cell? w _ (h3 0 (by cases l <;> simp_all))) h2, h3⟩

theorem _root_.Go.RowKit.Below.drewN {B : Nat} {a w : World} (h : Below B a w) (n : Nat) : Below B a (w.drewN n) := ⟨h.os, h.tape, h.output, h.size, h.block⟩

theorem Below.step {w w0 w1 : World} (h : Below w.heap.size w w0) (h1 : Below w0.heap.size w0 w1) : Below w.heap.size w w1 := h.trans (h1.mono h.size)

/-- A slice of one-cell elements in a row of its own, in a block that satisfies S: it can be written and appended to. -/
structure Own {α : Type} (enc : α → Value) (e : TypeId) (S : Nat → Prop) (w : World) (a : Option Addr) (cap : Nat) (l : List α) : Prop where
  le : l.length ≤ cap
  lt : cap ≤ maxLen
  row : (a = none ∧ l = [] ∧ cap = 0) ∨ ∃ g cur, a = some ⟨g, 0, none⟩ ∧ S g ∧ w.heap[g]? = some (.cells cur e (0, 0)) ∧ cur.size = cap ∧ cur.toList.take l.length = l.map enc

section
variable {α : Type} {enc : α → Value} {e : TypeId} {S S' : Nat → Prop} {w w' : World} {a : Option Addr} {cap : Nat} {l : List α}

theorem Own.nil : Own enc e S w none 0 [] := ⟨by simp, by simp [maxLen], .inl ⟨rfl, rfl, rfl⟩⟩

theorem Own.lit (base : Nat) (hb : base ≤ w.heap.size) : Own enc e (base ≤ ·) (w.alloc (.cells #[] e)) (some ⟨w.heap.size, 0, none⟩) 0 [] :=
  ⟨by simp, Nat.zero_le _, .inr ⟨w.heap.size, #[], rfl, hb, heap_alloc_new w _, rfl, rfl⟩⟩

theorem Own.owns {base : Nat} (h : Own enc e S w a cap l) (hb : ∀ b, b < w.heap.size → S b → base ≤ b) : w.ownsRow base e 1 (.slice a l.length cap) l.length (l.map enc) := by
  refine ⟨by simp, ?_⟩
  rcases h.row with ⟨rfl, rfl, rfl⟩ | ⟨g, cur, rfl, hS, hg, hs, ht⟩
  · exact .inl ⟨rfl, rfl⟩
  · exact .inr ⟨g, cap, cur, rfl, hb g (Array.getElem?_eq_some_iff.1 hg).1 hS, hg, h.le, h.lt, by simpa using hs, by simpa using ht⟩

theorem Own.nil' (h : Own enc e S w a cap l) (ha : a = none) : cap = 0 := by
  rcases h.row with ⟨_, _, h3⟩ | ⟨g, cur, h1, _⟩
  · exact h3
  · rw [h1] at ha; cases ha

theorem Own.sl (h : Own enc e S w a cap l) : Sl enc S w a cap l := by
  refine ⟨h.le, h.lt, h.nil', fun hne => ?_⟩
  rcases h.row with ⟨_, rfl, _⟩ | ⟨g, cur, rfl, hS, hg, hs, ht⟩
  · exact absurd rfl hne
  · refine ⟨g, 0, rfl, hS, fun i hi => ?_⟩
    have ho : w.ownsRow 0 e 1 (.slice (some ⟨g, 0, none⟩) l.length cap) l.length (l.map enc) := h.owns fun _ _ _ => Nat.zero_le _
    have := ho.cellAt i (by omega)
    rw [Nat.zero_add, this]
    simp [hi]

theorem Own.keep (h : Own enc e S w a cap l) (hk : ∀ b, S b → b < w.heap.size → w'.heap[b]? = w.heap[b]?) : Own enc e S w' a cap l := by
  refine ⟨h.le, h.lt, ?_⟩
  rcases h.row with h1 | ⟨g, cur, ha, hS, hg, r⟩
  · exact .inl h1
  · exact .inr ⟨g, cur, ha, hS, by rw [hk g hS (Array.getElem?_eq_some_iff.1 hg).1]; exact hg, r⟩

theorem Own.below (h : Own enc e S w a cap l) (hb : Below w.heap.size w w') : Own enc e S w' a cap l := h.keep fun b _ hlt => hb.block b hlt

theorem Own.mono (h : Own enc e S w a cap l) (hs : ∀ b, b < w.heap.size → S b → S' b) : Own enc e S' w a cap l := by
  refine ⟨h.le, h.lt, ?_⟩
  rcases h.row with h1 | ⟨g, cur, ha, hS, hg, r⟩
  · exact .inl h1
  · exact .inr ⟨g, cur, ha, hs g (Array.getElem?_eq_some_iff.1 hg).1 hS, hg, r⟩

/-- One element written. -/
theorem Own.set (h : Own enc e S w a cap l) {g o i : Nat} (ha : a = some ⟨g, o, none⟩) (hi : i < l.length) (x : α) :
    o = 0 ∧ S g ∧ w.cell? ⟨g, i, none⟩ = some (enc l[i]) ∧ w.frozen? ⟨g, i, none⟩ = false ∧ Own enc e S (w.setCell ⟨g, i, none⟩ (enc x)) a cap (l.set i x) := by
  rcases h.row with ⟨_, rfl, _⟩ | ⟨g', cur, ha', hS, hg, hs, ht⟩
  · simp at hi
  · subst ha'
    simp only [Option.some.injEq, Addr.mk.injEq, and_true] at ha
    obtain ⟨rfl, rfl⟩ := ha
    have ho : w.ownsRow 0 e 1 (.slice (some ⟨g', 0, none⟩) l.length cap) l.length (l.map enc) := h.owns fun _ _ _ => Nat.zero_le _
    refine ⟨rfl, hS, ?_, ho.frozenAt i, ⟨by simpa using h.le, h.lt, .inr ⟨g', cur.setIfInBounds i (enc x), rfl, hS, heap_setCell_same w g' i cur e (enc x) hg, by simpa using hs, ?_⟩⟩⟩
    · rw [ho.cellAt i (by omega)]; simp [hi]
    · rw [Array.toList_setIfInBounds, List.length_set, List.take_set, ht, List.map_set]

/-- The blocks that satisfy T may have been written; no other; new ones may have come. -/
structure Chg (T : Nat → Prop) (w w' : World) : Prop where
  os : w'.os = w.os
  tape : w'.tape = w.tape
  output : w'.output = w.output
  size : w.heap.size ≤ w'.heap.size
  block : ∀ k, k < w.heap.size → ¬ T k → w'.heap[k]? = w.heap[k]?

theorem Chg.refl (T : Nat → Prop) (w : World) : Chg T w w := ⟨rfl, rfl, rfl, Nat.le_refl _, fun _ _ _ => rfl⟩

theorem Chg.trans {T : Nat → Prop} {w w1 w2 : World} (h : Chg T w w1) (k : Chg T w1 w2) : Chg T w w2 :=
  ⟨k.os.trans h.os, k.tape.trans h.tape, k.output.trans h.output, Nat.le_trans h.size k.size, fun i hi ht => (k.block i (Nat.lt_of_lt_of_le hi h.size) ht).trans (h.block i hi ht)⟩

theorem Chg.mono {T T' : Nat → Prop} {w w1 : World} (h : Chg T w w1) (ht : ∀ b, b < w.heap.size → T b → T' b) : Chg T' w w1 :=
  ⟨h.os, h.tape, h.output, h.size, fun i hi hn => h.block i hi fun t => hn (ht i hi t)⟩

theorem Chg.setCell {T : Nat → Prop} {w w1 : World} (h : Chg T w w1) {p : Addr} (hp : T p.block) (u : Value) : Chg T w (w1.setCell p u) :=
  h.trans ⟨rfl, rfl, rfl, by simp [World.setCell], fun k _ hk => Below.heap_setCell _ _ _ _ (fun e => hk (e ▸ hp))⟩

theorem Chg.alloc {T : Nat → Prop} {w w1 : World} (h : Chg T w w1) (o : Obj) : Chg T w (w1.alloc o) :=
  h.trans ⟨rfl, rfl, rfl, by simp, fun k hk _ => Below.heap_alloc _ _ _ hk⟩

theorem Chg.below {T : Nat → Prop} {w w1 : World} {B : Nat} (h : Chg T w w1) (hT : ∀ b, b < w.heap.size → T b → B ≤ b) : B ≤ w.heap.size → Below B w w1 := fun hB =>
  ⟨h.os, h.tape, h.output, h.size, fun k hk => h.block k (by omega) fun t => by have := hT k (by omega) t; omega⟩

end

theorem Own.lift {α : Type} {enc : α → Value} {e : TypeId} {S S' : Nat → Prop} {w w' : World} {a : Option Addr} {cap : Nat} {l : List α} (h : Own enc e S w a cap l)
    (hk : ∀ b, S b → b < w.heap.size → w'.heap[b]? = w.heap[b]?) (hs : ∀ b, b < w.heap.size → S b → S' b) : Own enc e S' w' a cap l := (h.mono fun b hb hS => And.intro hS (hs b hb hS)).keep (fun b hS hb => hk b hS.1 hb) |>.mono fun _ _ hS => hS.2

theorem Sl.lift {α : Type} {enc : α → Value} {S S' : Nat → Prop} {w w' : World} {a : Option Addr} {cap : Nat} {l : List α} (h : Sl enc S w a cap l)
    (hk : ∀ b, S b → b < w.heap.size → w'.heap[b]? = w.heap[b]?) (hs : ∀ b, b < w.heap.size → S b → S' b) : Sl enc S' w' a cap l := (h.mono fun b hb hS => And.intro hS (hs b hb hS)).keep (fun b hS hb => hk b hS.1 hb) |>.mono fun _ _ hS => hS.2

theorem Own.alloc {α : Type} {enc : α → Value} {e : TypeId} {S : Nat → Prop} {w : World} {a : Option Addr} {cap : Nat} {l : List α} (h : Own enc e S w a cap l) (o : Obj) :
    Own enc e S (w.alloc o) a cap l := h.keep fun b _ hb => Below.heap_alloc _ _ _ hb

theorem Sl.alloc {α : Type} {enc : α → Value} {S : Nat → Prop} {w : World} {a : Option Addr} {cap : Nat} {l : List α} (h : Sl enc S w a cap l) (o : Obj) :
    Sl enc S (w.alloc o) a cap l := h.keep fun b _ hb => Below.heap_alloc _ _ _ hb

/-- What an operation that may write the row of a slice value leaves. -/
structure Grew (a : Option Addr) (base : Nat) (w w' : World) : Prop where
  below : Below base w w'
  others : ∀ b, b < w.heap.size → a.map (·.block) ≠ some b → w'.heap[b]? = w.heap[b]?

theorem Own.block {α : Type} {enc : α → Value} {e : TypeId} {S : Nat → Prop} {w : World} {a : Option Addr} {cap : Nat} {l : List α} (h : Own enc e S w a cap l) : ∀ b, a.map (·.block) = some b → S b ∧ b < w.heap.size := by
  intro b hb
  rcases h.row with ⟨rfl, _⟩ | ⟨g, cur, rfl, hS, hg, _⟩
  · cases hb
  · cases hb
    exact ⟨hS, (Array.getElem?_eq_some_iff.1 hg).1⟩

section
variable {P : Program} {w : World} {ops : Array Oper} {rest : List Oper} {o : Oper} {act : Act} {Q : Exit → Act → World → Prop} {α : Type} {enc : α → Value}

end

end Go.Proofs.YtfnhchcgieeedaaGreat

