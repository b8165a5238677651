/-
  Words and small lemmas that the contracts share: slices of one-cell elements, read and owned. No conditions of its own.
-/
import Derived.Test.YtfnhchcgieeedaaRows
import Derived.WalkKit
import Derived.WalkSpells
import Derived.WalkLawsBesides
import Derived.ProofKit
import Derived.OpenShut
import Derived.Lib.Hide
import Derived.Deep.QuietTactic
import Derived.BigQuiet
import Derived.Deep.Onto
import Derived.Deep.DeepMust
import Derived.Deep.Light
import Derived.Laws.AppendOwnNone
namespace Go.Proofs.Ytfnhchcgieeedaa
set_option linter.unusedSimpArgs false
set_option linter.unusedVariables false
set_option linter.unusedSimpArgs false
set_option linter.unusedVariables false
set_option linter.defProp false
open Go.RowKit

/-- a byte as a cell -/
def bC (x : UInt8) : Value := .int .u8 x.toNat
/-- an int as a cell -/
def iC (x : Int) : Value := .int .i64 x

/-- A slice value that reads as the list l, cell by cell, from blocks that satisfy S. -/
structure Sl {α : Type} (enc : α → Value) (S : Nat → Prop) (w : World) (a : Option Addr) (cap : Nat) (l : List α) : Prop where
  le : l.length ≤ cap
  lt : cap ≤ maxLen
  nil : a = none → cap = 0
  at_ : l ≠ [] → ∃ b off, a = some ⟨b, off, none⟩ ∧ S b ∧ ∀ i (h : i < l.length), w.cell? ⟨b, off + i, none⟩ = some (enc l[i])

theorem Sl.get {α : Type} {enc : α → Value} {S : Nat → Prop} {w : World} {a : Option Addr} {cap : Nat} {l : List α} (h : Sl enc S w a cap l) (hn : 0 < l.length) :
    ∃ b off, a = some ⟨b, off, none⟩ ∧ S b ∧ b < w.heap.size ∧ ∀ i (h : i < l.length), w.cell? ⟨b, off + i, none⟩ = some (enc l[i]) := by
  obtain ⟨b, off, h1, h2, h3⟩ := h.at_ (by intro e; simp [e] at hn)
  exact ⟨b, off, h1, h2, World.block_lt_of_cell? w _ (h3 0 hn), h3⟩

theorem Sl.keep {α : Type} {enc : α → Value} {S : Nat → Prop} {w w' : World} {a : Option Addr} {cap : Nat} {l : List α} (h : Sl enc S w a cap l)
    (hk : ∀ b, S b → b < w.heap.size → w'.heap[b]? = w.heap[b]?) : Sl enc S w' a cap l := by
  refine ⟨h.le, h.lt, h.nil, fun hn => ?_⟩
  obtain ⟨b, off, h1, h2, h3⟩ := h.at_ hn
  refine ⟨b, off, h1, h2, fun i hi => ?_⟩
  have hb := World.block_lt_of_cell? w _ (h3 i hi)
  rw [← h3 i hi]
  exact World.cell?_of_block (w := w) (hk b h2 hb)

theorem Sl.below {α : Type} {enc : α → Value} {S : Nat → Prop} {w w' : World} {a : Option Addr} {cap : Nat} {l : List α} (h : Sl enc S w a cap l)
    (hb : Below w.heap.size w w') : Sl enc S w' a cap l := h.keep fun b _ hlt => hb.block b hlt

theorem Sl.mono {α : Type} {enc : α → Value} {S S' : Nat → Prop} {w : World} {a : Option Addr} {cap : Nat} {l : List α} (h : Sl enc S w a cap l)
    (hs : ∀ b, b < w.heap.size → S b → S' b) : Sl enc S' w a cap l := by
  refine ⟨h.le, h.lt, h.nil, fun hn => ?_⟩
  obtain ⟨b, off, h1, h2, h3⟩ := h.at_ hn
  exact ⟨b, off, h1, hs b (World.block_lt_of_cell? w _ (h3 0 (by cases l <;> simp_all))) h2, h3⟩

theorem bcell {W w1 : World} (hb : Below W.heap.size W w1) : (∀ b o, b < W.heap.size → w1.cell? ⟨b, o, none⟩ = W.cell? ⟨b, o, none⟩) ∧ (∀ b o, b < W.heap.size → w1.frozen? ⟨b, o, none⟩ = W.frozen? ⟨b, o, none⟩) :=
  ⟨fun b o h => hb.cell (p := ⟨b, o, none⟩) h, fun b o h => hb.frozen (p := ⟨b, o, none⟩) h⟩

theorem quiet_left {P : Program} {f : FuncId} {args : Array Value} {w : World} {n : Nat} {v : Value}
    (h : Calls P f args (w.drewN n) fun e w' => e = .returned v ∧ w.drewN n = w') : Calls P f args (w.drewN n) fun e w'' => e = .returned v ∧ ∃ m, w'' = w.drewN m :=
  h.mono fun _ _ ⟨he, hm⟩ => ⟨he, n, hm.symm⟩

theorem quiet_add_left {P : Program} {f : FuncId} {args : Array Value} {w : World} {a n : Nat} {v : Value}
    (h : Calls P f args (w.drewN (a + n)) fun e w' => e = .returned v ∧ w.drewN (a + n) = w') :
    Calls P f args (w.drewN (a + n)) fun e w'' => e = .returned v ∧ ∃ m, w'' = w.drewN (a + m) :=
  h.mono fun _ _ ⟨he, hm⟩ => ⟨he, n, hm.symm⟩

theorem _root_.Go.RowKit.Below.drewN {B : Nat} {a w : World} (h : Below B a w) (n : Nat) : Below B a (w.drewN n) := ⟨h.os, h.tape, h.output, h.size, h.block⟩

theorem Below.step {w w0 w1 : World} (h : Below w.heap.size w w0) (h1 : Below w0.heap.size w0 w1) : Below w.heap.size w w1 := h.trans (h1.mono h.size)

theorem size_setCell (w : World) (p : Addr) (v : Value) : (w.setCell p v).heap.size = w.heap.size := by simp [World.setCell]
theorem heap_drew (w : World) : w.drew.heap = w.heap := rfl
theorem heap_drewN (w : World) (n : Nat) : (w.drewN n).heap = w.heap := rfl
theorem size_drew (w : World) : w.drew.heap.size = w.heap.size := rfl
theorem size_drewN (w : World) (n : Nat) : (w.drewN n).heap.size = w.heap.size := rfl

theorem cell_alloc {w : World} {p : Addr} {v : Value} (h : w.cell? p = some v) (o : Obj) : (w.alloc o).cell? p = some v :=
  (World.cell?_of_block (w := w) (Below.heap_alloc _ _ _ (World.block_lt_of_cell? w _ h))).trans h

theorem cell_below {w w' : World} {p : Addr} {v : Value} (hb : Below w.heap.size w w') (h : w.cell? p = some v) : w'.cell? p = some v :=
  (hb.cell (World.block_lt_of_cell? w _ h)).trans h

theorem cell_set_ne {w : World} {p q : Addr} {v u : Value} (h : w.cell? p = some v) (hne : p.block ≠ q.block) : (w.setCell q u).cell? p = some v :=
  (World.cell?_of_block (w := w) (Below.heap_setCell _ _ _ _ hne)).trans h

theorem cell_same {w w' : World} {p : Addr} {v : Value} (hb : w'.heap[p.block]? = w.heap[p.block]?) (h : w.cell? p = some v) : w'.cell? p = some v :=
  (World.cell?_of_block (w := w) hb).trans h

theorem ret_int {k : IntKind} {a b : Int} (h : a = b) : Ending.returned (.int k a) = .returned (.int k b) := by rw [h]
theorem ret_bool {a b : Bool} (h : a = b) : Ending.returned (.bool a) = .returned (.bool b) := by rw [h]

/-- A slice of one-cell elements in a row of its own, in a block that satisfies S: it can be written and appended to. -/
structure Own {α : Type} (enc : α → Value) (e : TypeId) (S : Nat → Prop) (w : World) (a : Option Addr) (cap : Nat) (l : List α) : Prop where
  le : l.length ≤ cap
  lt : cap ≤ maxLen
  row : (a = none ∧ l = [] ∧ cap = 0) ∨ ∃ g cur, a = some ⟨g, 0, none⟩ ∧ S g ∧ w.heap[g]? = some (.cells cur e (0, 0)) ∧ cur.size = cap ∧ cur.toList.take l.length = l.map enc

section
variable {α : Type} {enc : α → Value} {e : TypeId} {S S' : Nat → Prop} {w w' : World} {a : Option Addr} {cap : Nat} {l : List α}

theorem Own.nil : Own enc e S w none 0 [] := ⟨by simp, by simp [maxLen], .inl ⟨rfl, rfl, rfl⟩⟩

theorem Own.lit (base : Nat) (hb : base ≤ w.heap.size) : Own enc e (base ≤ ·) (w.alloc (.cells #[] e)) (some ⟨w.heap.size, 0, none⟩) 0 [] :=
  ⟨by simp, Nat.zero_le _, .inr ⟨w.heap.size, #[], rfl, hb, heap_alloc_new w _, rfl, rfl⟩⟩

theorem Own.owns {base : Nat} (h : Own enc e S w a cap l) (hb : ∀ b, b < w.heap.size → S b → base ≤ b) : w.ownsRow base e 1 (.slice a l.length cap) l.length (l.map enc) := by
  refine ⟨by simp, ?_⟩
  rcases h.row with ⟨rfl, rfl, rfl⟩ | ⟨g, cur, rfl, hS, hg, hs, ht⟩
  · exact .inl ⟨rfl, rfl⟩
  · exact .inr ⟨g, cap, cur, rfl, hb g (Array.getElem?_eq_some_iff.1 hg).1 hS, hg, h.le, h.lt, by simpa using hs, by simpa using ht⟩

theorem Own.of_owns {base : Nat} (h : w.ownsRow base e 1 (.slice a l.length cap) l.length (l.map enc)) (hs : ∀ b, b < w.heap.size → base ≤ b → S b) : Own enc e S w a cap l := by
  obtain ⟨_, h2⟩ := h
  rcases h2 with ⟨h2, h3⟩ | ⟨g, cap', cur, hv, hb, hg, hle, hm, hsz, ht⟩
  · simp only [Value.slice.injEq] at h2
    obtain ⟨rfl, h4, rfl⟩ := h2
    have : l = [] := List.eq_nil_of_length_eq_zero h4
    subst this
    exact Own.nil
  · simp only [Value.slice.injEq] at hv
    obtain ⟨rfl, _, rfl⟩ := hv
    exact ⟨hle, hm, .inr ⟨g, cur, rfl, hs g (Array.getElem?_eq_some_iff.1 hg).1 hb, hg, by simpa using hsz, by simpa using ht⟩⟩

theorem Own.nil' (h : Own enc e S w a cap l) (ha : a = none) : cap = 0 := by
  rcases h.row with ⟨_, _, h3⟩ | ⟨g, cur, h1, _⟩
  · exact h3
  · rw [h1] at ha; cases ha

theorem Own.sl (h : Own enc e S w a cap l) : Sl enc S w a cap l := by
  refine ⟨h.le, h.lt, h.nil', fun hne => ?_⟩
  rcases h.row with ⟨_, rfl, _⟩ | ⟨g, cur, rfl, hS, hg, hs, ht⟩
  · exact absurd rfl hne
  · refine ⟨g, 0, rfl, hS, fun i hi => ?_⟩
    have ho : w.ownsRow 0 e 1 (.slice (some ⟨g, 0, none⟩) l.length cap) l.length (l.map enc) := h.owns fun _ _ _ => Nat.zero_le _
    have := ho.cellAt i (by omega)
    rw [Nat.zero_add, this]
    simp [hi]

theorem Own.keep (h : Own enc e S w a cap l) (hk : ∀ b, S b → b < w.heap.size → w'.heap[b]? = w.heap[b]?) : Own enc e S w' a cap l := by
  refine ⟨h.le, h.lt, ?_⟩
  rcases h.row with h1 | ⟨g, cur, ha, hS, hg, r⟩
  · exact .inl h1
  · exact .inr ⟨g, cur, ha, hS, by rw [hk g hS (Array.getElem?_eq_some_iff.1 hg).1]; exact hg, r⟩

theorem Own.below (h : Own enc e S w a cap l) (hb : Below w.heap.size w w') : Own enc e S w' a cap l := h.keep fun b _ hlt => hb.block b hlt

theorem Own.mono (h : Own enc e S w a cap l) (hs : ∀ b, b < w.heap.size → S b → S' b) : Own enc e S' w a cap l := by
  refine ⟨h.le, h.lt, ?_⟩
  rcases h.row with h1 | ⟨g, cur, ha, hS, hg, r⟩
  · exact .inl h1
  · exact .inr ⟨g, cur, ha, hs g (Array.getElem?_eq_some_iff.1 hg).1 hS, hg, r⟩

/-- One element written. -/
theorem Own.set (h : Own enc e S w a cap l) {g o i : Nat} (ha : a = some ⟨g, o, none⟩) (hi : i < l.length) (x : α) :
    o = 0 ∧ S g ∧ w.cell? ⟨g, i, none⟩ = some (enc l[i]) ∧ w.frozen? ⟨g, i, none⟩ = false ∧ Own enc e S (w.setCell ⟨g, i, none⟩ (enc x)) a cap (l.set i x) := by
  rcases h.row with ⟨_, rfl, _⟩ | ⟨g', cur, ha', hS, hg, hs, ht⟩
  · simp at hi
  · subst ha'
    simp only [Option.some.injEq, Addr.mk.injEq, and_true] at ha
    obtain ⟨rfl, rfl⟩ := ha
    have ho : w.ownsRow 0 e 1 (.slice (some ⟨g', 0, none⟩) l.length cap) l.length (l.map enc) := h.owns fun _ _ _ => Nat.zero_le _
    refine ⟨rfl, hS, ?_, ho.frozenAt i, ⟨by simpa using h.le, h.lt, .inr ⟨g', cur.setIfInBounds i (enc x), rfl, hS, heap_setCell_same w g' i cur e (enc x) hg, by simpa using hs, ?_⟩⟩⟩
    · rw [ho.cellAt i (by omega)]; simp [hi]
    · rw [Array.toList_setIfInBounds, List.length_set, List.take_set, ht, List.map_set]

/-- The blocks that satisfy T may have been written; no other; new ones may have come. -/
structure Chg (T : Nat → Prop) (w w' : World) : Prop where
  os : w'.os = w.os
  tape : w'.tape = w.tape
  output : w'.output = w.output
  size : w.heap.size ≤ w'.heap.size
  block : ∀ k, k < w.heap.size → ¬ T k → w'.heap[k]? = w.heap[k]?

theorem Chg.refl (T : Nat → Prop) (w : World) : Chg T w w := ⟨rfl, rfl, rfl, Nat.le_refl _, fun _ _ _ => rfl⟩

theorem Chg.trans {T : Nat → Prop} {w w1 w2 : World} (h : Chg T w w1) (k : Chg T w1 w2) : Chg T w w2 :=
  ⟨k.os.trans h.os, k.tape.trans h.tape, k.output.trans h.output, Nat.le_trans h.size k.size, fun i hi ht => (k.block i (Nat.lt_of_lt_of_le hi h.size) ht).trans (h.block i hi ht)⟩

theorem Chg.mono {T T' : Nat → Prop} {w w1 : World} (h : Chg T w w1) (ht : ∀ b, b < w.heap.size → T b → T' b) : Chg T' w w1 :=
  ⟨h.os, h.tape, h.output, h.size, fun i hi hn => h.block i hi fun t => hn (ht i hi t)⟩

theorem Chg.drew {T : Nat → Prop} {w w1 : World} (h : Chg T w w1) : Chg T w w1.drew := ⟨h.os, h.tape, h.output, h.size, h.block⟩

theorem Chg.setCell {T : Nat → Prop} {w w1 : World} (h : Chg T w w1) {p : Addr} (hp : T p.block) (u : Value) : Chg T w (w1.setCell p u) :=
  h.trans ⟨rfl, rfl, rfl, by simp [World.setCell], fun k _ hk => Below.heap_setCell _ _ _ _ (fun e => hk (e ▸ hp))⟩

theorem Chg.alloc {T : Nat → Prop} {w w1 : World} (h : Chg T w w1) (o : Obj) : Chg T w (w1.alloc o) :=
  h.trans ⟨rfl, rfl, rfl, by simp, fun k hk _ => Below.heap_alloc _ _ _ hk⟩

theorem Chg.below {T : Nat → Prop} {w w1 : World} {B : Nat} (h : Chg T w w1) (hT : ∀ b, b < w.heap.size → T b → B ≤ b) : B ≤ w.heap.size → Below B w w1 := fun hB =>
  ⟨h.os, h.tape, h.output, h.size, fun k hk => h.block k (by omega) fun t => by have := hT k (by omega) t; omega⟩

theorem Below.chg {T : Nat → Prop} {B : Nat} (h : Below B w w') (hT : ∀ b, b < w.heap.size → B ≤ b → T b) : Chg T w w' :=
  ⟨h.os, h.tape, h.output, h.size, fun k hk hn => h.block k (by
    rcases Nat.lt_or_ge k B with h1 | h1
    · exact h1
    · exact absurd (hT k hk h1) hn)⟩

theorem Sl.chg {T : Nat → Prop} (h : Sl enc S w a cap l) (hc : Chg T w w') (hd : ∀ b, b < w.heap.size → S b → ¬ T b) : Sl enc S w' a cap l :=
  h.keep fun b hS hlt => hc.block b hlt (hd b hlt hS)

theorem Own.chg {T : Nat → Prop} (h : Own enc e S w a cap l) (hc : Chg T w w') (hd : ∀ b, b < w.heap.size → S b → ¬ T b) : Own enc e S w' a cap l :=
  h.keep fun b hS hlt => hc.block b hlt (hd b hlt hS)

end

theorem Own.lift {α : Type} {enc : α → Value} {e : TypeId} {S S' : Nat → Prop} {w w' : World} {a : Option Addr} {cap : Nat} {l : List α} (h : Own enc e S w a cap l)
    (hk : ∀ b, S b → b < w.heap.size → w'.heap[b]? = w.heap[b]?) (hs : ∀ b, b < w.heap.size → S b → S' b) : Own enc e S' w' a cap l := (h.mono fun b hb hS => And.intro hS (hs b hb hS)).keep (fun b hS hb => hk b hS.1 hb) |>.mono fun _ _ hS => hS.2

theorem Sl.lift {α : Type} {enc : α → Value} {S S' : Nat → Prop} {w w' : World} {a : Option Addr} {cap : Nat} {l : List α} (h : Sl enc S w a cap l)
    (hk : ∀ b, S b → b < w.heap.size → w'.heap[b]? = w.heap[b]?) (hs : ∀ b, b < w.heap.size → S b → S' b) : Sl enc S' w' a cap l := (h.mono fun b hb hS => And.intro hS (hs b hb hS)).keep (fun b hS hb => hk b hS.1 hb) |>.mono fun _ _ hS => hS.2

theorem Own.setCell_ne {α : Type} {enc : α → Value} {e : TypeId} {S : Nat → Prop} {w : World} {a : Option Addr} {cap : Nat} {l : List α} (h : Own enc e S w a cap l) {p : Addr} (hp : ¬ S p.block) (v : Value) :
    Own enc e S (w.setCell p v) a cap l := h.keep fun b hS _ => Below.heap_setCell _ _ _ _ (fun e => hp (e ▸ hS))

theorem Own.alloc {α : Type} {enc : α → Value} {e : TypeId} {S : Nat → Prop} {w : World} {a : Option Addr} {cap : Nat} {l : List α} (h : Own enc e S w a cap l) (o : Obj) :
    Own enc e S (w.alloc o) a cap l := h.keep fun b _ hb => Below.heap_alloc _ _ _ hb

theorem Own.drew {α : Type} {enc : α → Value} {e : TypeId} {S : Nat → Prop} {w : World} {a : Option Addr} {cap : Nat} {l : List α} (h : Own enc e S w a cap l) (n : Nat) :
    Own enc e S (w.drewN n) a cap l := h.keep fun b _ _ => rfl

theorem Sl.setCell_ne {α : Type} {enc : α → Value} {S : Nat → Prop} {w : World} {a : Option Addr} {cap : Nat} {l : List α} (h : Sl enc S w a cap l) {p : Addr} (hp : ¬ S p.block) (v : Value) :
    Sl enc S (w.setCell p v) a cap l := h.keep fun b hS _ => Below.heap_setCell _ _ _ _ (fun e => hp (e ▸ hS))

theorem Sl.alloc {α : Type} {enc : α → Value} {S : Nat → Prop} {w : World} {a : Option Addr} {cap : Nat} {l : List α} (h : Sl enc S w a cap l) (o : Obj) :
    Sl enc S (w.alloc o) a cap l := h.keep fun b _ hb => Below.heap_alloc _ _ _ hb

theorem Sl.drew {α : Type} {enc : α → Value} {S : Nat → Prop} {w : World} {a : Option Addr} {cap : Nat} {l : List α} (h : Sl enc S w a cap l) (n : Nat) :
    Sl enc S (w.drewN n) a cap l := h.keep fun b _ _ => rfl

theorem Own.drew1 {α : Type} {enc : α → Value} {e : TypeId} {S : Nat → Prop} {w : World} {a : Option Addr} {cap : Nat} {l : List α} (h : Own enc e S w a cap l) :
    Own enc e S w.drew a cap l := h.keep fun b _ _ => rfl

theorem Sl.drew1 {α : Type} {enc : α → Value} {S : Nat → Prop} {w : World} {a : Option Addr} {cap : Nat} {l : List α} (h : Sl enc S w a cap l) :
    Sl enc S w.drew a cap l := h.keep fun b _ _ => rfl

/-- What an operation that may write the row of a slice value leaves. -/
structure Grew (a : Option Addr) (base : Nat) (w w' : World) : Prop where
  below : Below base w w'
  others : ∀ b, b < w.heap.size → a.map (·.block) ≠ some b → w'.heap[b]? = w.heap[b]?

theorem ownBlock_map (a : Option Addr) (n c : Nat) : (Value.slice a n c).ownBlock = a.map (·.block) := by cases a <;> rfl

theorem Grew.of_grown {a : Option Addr} {n c base : Nat} {w w' : World} (h : w.grownBy w' (Value.slice a n c).ownBlock) (hb : base ≤ w.heap.size) (ha : ∀ b, a.map (·.block) = some b → base ≤ b) : Grew a base w w' := by
  rw [ownBlock_map] at h
  exact ⟨(Below.refl _ _).grown h hb ha, fun b hlt hne => h.block b hlt (fun e => hne e.symm)⟩

theorem Own.block {α : Type} {enc : α → Value} {e : TypeId} {S : Nat → Prop} {w : World} {a : Option Addr} {cap : Nat} {l : List α} (h : Own enc e S w a cap l) : ∀ b, a.map (·.block) = some b → S b ∧ b < w.heap.size := by
  intro b hb
  rcases h.row with ⟨rfl, _⟩ | ⟨g, cur, rfl, hS, hg, _⟩
  · cases hb
  · cases hb
    exact ⟨hS, (Array.getElem?_eq_some_iff.1 hg).1⟩

section
variable {P : Program} {w : World} {ops : Array Oper} {rest : List Oper} {o : Oper} {act : Act} {Q : Exit → Act → World → Prop} {α : Type} {enc : α → Value}

theorem wp_join {K : Act → World → Prop} (s x : Operand) (t : TypeId)
    (ho : o.op = .call { callee := .builtin .append, args := #[s, x], argTypes := #[t, t] })
    (base : Nat) (e : TypeId) (z : Value) (bytes : Nat) (ht : P.underlying t = some (.slice e)) (hinf : (P.info? e).map (fun i => (i.zero, i.size, i.bytes)) = some (some z, 1, bytes)) (hzs : z.cells.size = 1)
    (a : Option Addr) (cap : Nat) (l : List α) (hs : act.eval s = .slice a l.length cap) (hown : Own enc e (base ≤ ·) w a cap l)
    (S : Nat → Prop) (b : Option Addr) (cb : Nat) (m : List α) (hx : act.eval x = .slice b m.length cb) (hm : Sl enc S w b cb m) (h1 : ∀ y, (enc y).oneCell' = true)
    (h63 : l.length + m.length ≤ maxLen) (hbytes : (l.length + m.length) * bytes ≤ 140737488355328) (hbase : base ≤ w.heap.size)
    (h : ∀ a' cap' w', Own enc e (base ≤ ·) w' a' cap' (l ++ m) → Grew a base w w' → K (act.put o.dst (.slice a' (l.length + m.length) cap')) w') : o.wp P act w K Q := by
  obtain ⟨i, hi, hz, hsz, hby⟩ := info_parts hinf
  have howns : w.ownsRow base e 1 (.slice a l.length cap) l.length (l.map enc) := hown.owns fun _ _ hb => hb
  cases b with
  | none =>
    obtain rfl := hm.nil rfl
    have hm0 : m = [] := by
      by_cases h0 : m = []
      · exact h0
      · obtain ⟨_, _, h2, _⟩ := hm.at_ h0; cases h2
    subst hm0
    have hrun := run_append_owned_none (P := P) (w := w) base t o.type e i 1 ht hi _ _ _ howns
    have := h a cap w (by simpa using hown) ⟨Below.refl _ _, fun _ _ _ => rfl⟩
    unfold Oper.wp execOp
    simp only [ho, resolve, invoke, builtin, Sem.run_bind, Sem.run_pure, Result.andThen_ok, List.map_toArray, List.map_cons, List.map_nil, hs, hx]
    show o.upon P act K Q (((Builtin.append_ #[t, t] o.type #[.slice a l.length cap, .slice none 0 0]).run P w).andThen _)
    rw [hrun]
    show K _ _
    simpa using this
  | some ad =>
    refine wp_append_own w s x t ho base e i z 1 bytes ht hi hz hsz hby hzs (by omega) _ _ _ hs howns ad m.length cb (m.map enc) hx (by simp) ?_ ?_ h63 hbytes hbase ?_
    · intro j u hu
      rw [List.getElem?_map] at hu
      obtain ⟨y, hy, rfl⟩ := Option.map_eq_some_iff.1 hu
      obtain ⟨hj, hy'⟩ := List.getElem?_eq_some_iff.1 hy
      obtain ⟨b0, off, e0, _, _, hc⟩ := hm.get (by omega)
      cases e0
      have := hc j hj
      rw [hy'] at this
      have e1 : (⟨b0, off, none⟩ : Addr).add j = ⟨b0, off + j, none⟩ := by unfold Addr.add; split <;> simp_all
      rw [e1]; exact this
    · intro u hu
      obtain ⟨y, _, rfl⟩ := List.mem_map.1 hu
      exact h1 y
    · intro v' w' hv hg _
      have hb := Grew.of_grown hg hbase (fun b hb => (hown.block b hb).1)
      have hv2 : ∃ a' cap', v' = .slice a' (l.length + m.length) cap' := by
        rcases hv.2 with ⟨e1, e2⟩ | ⟨g, c, _, e1, _⟩
        · exact ⟨none, 0, by rw [e1, e2]⟩
        · exact ⟨_, c, e1⟩
      obtain ⟨a', cap', rfl⟩ := hv2
      refine h a' cap' w' (Own.of_owns (base := base) ?_ (fun _ _ hb => hb)) hb
      rw [List.length_append, List.map_append]
      exact hv

/-- 'append(l, m...)' where l is the call's own, m a slice of whatever make. -/
theorem wpList_join (hgd : o.guard = none) (s x : Operand) (t : TypeId)
    (ho : o.op = .call { callee := .builtin .append, args := #[s, x], argTypes := #[t, t] })
    (base : Nat) (e : TypeId) (z : Value) (bytes : Nat) (ht : P.underlying t = some (.slice e)) (hinf : (P.info? e).map (fun i => (i.zero, i.size, i.bytes)) = some (some z, 1, bytes)) (hzs : z.cells.size = 1)
    (a : Option Addr) (cap : Nat) (l : List α) (hs : act.eval s = .slice a l.length cap) (hown : Own enc e (base ≤ ·) w a cap l)
    (S : Nat → Prop) (b : Option Addr) (cb : Nat) (m : List α) (hx : act.eval x = .slice b m.length cb) (hm : Sl enc S w b cb m) (h1 : ∀ y, (enc y).oneCell' = true)
    (h63 : l.length + m.length ≤ maxLen) (hbytes : (l.length + m.length) * bytes ≤ 140737488355328) (hbase : base ≤ w.heap.size)
    (h : ∀ a' cap' w', Own enc e (base ≤ ·) w' a' cap' (l ++ m) → Grew a base w w' → wpList P ops Q rest (act.put o.dst (.slice a' (l.length + m.length) cap')) w') : wpList P ops Q (o :: rest) act w :=
  wpList_plain hgd fun _ hK => wp_join s x t ho base e z bytes ht hinf hzs a cap l hs hown S b cb m hx hm h1 h63 hbytes hbase fun a' cap' w' h2 h3 => hK _ _ (h a' cap' w' h2 h3)

/-- The same at a step of a region that draws its order. -/
theorem step_join {K : Act → World → Prop} {E : Prop} (hgd : o.guard = none) (s x : Operand) (t : TypeId)
    (ho : o.op = .call { callee := .builtin .append, args := #[s, x], argTypes := #[t, t] })
    (base : Nat) (e : TypeId) (z : Value) (bytes : Nat) (ht : P.underlying t = some (.slice e)) (hinf : (P.info? e).map (fun i => (i.zero, i.size, i.bytes)) = some (some z, 1, bytes)) (hzs : z.cells.size = 1)
    (a : Option Addr) (cap : Nat) (l : List α) (hs : act.eval s = .slice a l.length cap) (hown : Own enc e (base ≤ ·) w a cap l)
    (S : Nat → Prop) (b : Option Addr) (cb : Nat) (m : List α) (hx : act.eval x = .slice b m.length cb) (hm : Sl enc S w b cb m) (h1 : ∀ y, (enc y).oneCell' = true)
    (h63 : l.length + m.length ≤ maxLen) (hbytes : (l.length + m.length) * bytes ≤ 140737488355328) (hbase : base ≤ w.heap.size)
    (h : ∀ a' cap' w', Own enc e (base ≤ ·) w' a' cap' (l ++ m) → Grew a base w w' → K (act.put o.dst (.slice a' (l.length + m.length) cap')) w') : if Region.wanted o (yielded ops act.tmps) = true then Oper.wp P o act w K Q else E := by
  rw [if_pos (by simp [Region.wanted, hgd])]
  exact wp_join s x t ho base e z bytes ht hinf hzs a cap l hs hown S b cb m hx hm h1 h63 hbytes hbase h

/-- 'append(l, y)', the new element in a new cell. -/
theorem wpList_push (hgd : o.guard = none) (s x : Operand) (t : TypeId)
    (ho : o.op = .call { callee := .builtin .append, args := #[s, x], argTypes := #[t, t] })
    (base : Nat) (e : TypeId) (z : Value) (bytes : Nat) (ht : P.underlying t = some (.slice e)) (hinf : (P.info? e).map (fun i => (i.zero, i.size, i.bytes)) = some (some z, 1, bytes)) (hzs : z.cells.size = 1)
    (a : Option Addr) (cap : Nat) (l : List α) (hs : act.eval s = .slice a l.length cap) (hown : Own enc e (base ≤ ·) w a cap l)
    (g cb : Nat) (y : α) (hx : act.eval x = .slice (some ⟨g, 0, none⟩) 1 cb) (hy : w.cell? ⟨g, 0, none⟩ = some (enc y)) (h1 : ∀ y, (enc y).oneCell' = true) (hcb : 1 ≤ cb) (hcb' : cb ≤ maxLen)
    (h63 : l.length + 1 ≤ maxLen) (hbytes : (l.length + 1) * bytes ≤ 140737488355328) (hbase : base ≤ w.heap.size)
    (h : ∀ a' cap' w', Own enc e (base ≤ ·) w' a' cap' (l ++ [y]) → Grew a base w w' → wpList P ops Q rest (act.put o.dst (.slice a' (l.length + 1) cap')) w') : wpList P ops Q (o :: rest) act w :=
  wpList_join hgd s x t ho base e z bytes ht hinf hzs a cap l hs hown (fun _ => True) (some ⟨g, 0, none⟩) cb [y] hx
    ⟨hcb, hcb', (fun h => by cases h), fun _ => ⟨g, 0, rfl, trivial, fun i hi => by
      have : i = 0 := by simp at hi; exact hi
      subst this; simpa using hy⟩⟩ h1 h63 hbytes hbase h

/-- 'make([]T, n)'. -/
theorem wpList_mk (hgd : o.guard = none) (s c : Operand) (t : TypeId) (ho : o.op = .makeSlice t s c)
    (base : Nat) (e : TypeId) (z : Value) (y : α) (hzy : z = enc y) (bytes : Nat) (ht : P.underlying t = some (.slice e)) (hinf : (P.info? e).map (fun i => (i.zero, i.size, i.bytes)) = some (some z, 1, bytes)) (hzs : z.cells = #[z])
    (kl kc : IntKind) (L C : Int) (n : Nat) (hl : act.eval s = .int kl L) (hc : act.eval c = .int kc C) (hL : L = (n : Int)) (hC : C = (n : Int)) (hn : bytes * n ≤ 281474976710656) (h63 : n ≤ maxLen) (hbase : base ≤ w.heap.size)
    (h : ∀ w', Own enc e (base ≤ ·) w' (some ⟨w.heap.size, 0, none⟩) n (List.replicate n y) → Grew none base w w' → wpList P ops Q rest (act.put o.dst (.slice (some ⟨w.heap.size, 0, none⟩) n n)) w') : wpList P ops Q (o :: rest) act w := by
  obtain ⟨i, hi, hz, hsz, hby⟩ := info_parts hinf
  refine wpList_make_full w hgd s c t ho base e i z 1 ht hi hz hsz kl kc L C n hl hc hL hC (by rw [hby]; exact hn) h63 hbase ?_
  intro w' hv hg
  refine h w' (Own.of_owns (base := base) ?_ (fun _ _ hb => hb)) ⟨(Below.refl _ _).grown hg hbase (fun k h => by cases h), fun b hb _ => hg.block b hb (by simp)⟩
  rw [hzs, toList_madeCells_one, Nat.mul_one] at hv
  rw [List.length_replicate, List.map_replicate, ← hzy]
  exact hv

end

theorem chg_cell {T : Nat → Prop} {w w' : World} (hc : Chg T w w') {b : Nat} (hb : b < w.heap.size) (hT : ¬ T b) : ∀ o, w'.cell? ⟨b, o, none⟩ = w.cell? ⟨b, o, none⟩ := fun _ => World.cell?_of_block (hc.block b hb hT)
theorem chg_frozen {T : Nat → Prop} {w w' : World} (hc : Chg T w w') {b : Nat} (hb : b < w.heap.size) (hT : ¬ T b) : ∀ o, w'.frozen? ⟨b, o, none⟩ = w.frozen? ⟨b, o, none⟩ := fun _ => World.frozen?_of_block (hc.block b hb hT)

theorem list_ext {α : Type} {l m : List α} (h : l.length = m.length) (hg : ∀ i, i < l.length → l[i]? = m[i]?) : l = m :=
  List.ext_getElem? fun i => by
    by_cases hi : i < l.length
    · exact hg i hi
    · rw [List.getElem?_eq_none (by omega), List.getElem?_eq_none (by omega)]

theorem infoU8 : (Try.prog.info? 5).map (fun i => (i.zero, i.size, i.bytes)) = some (some (.int .u8 0), 1, 1) := by kernel_rfl
theorem infoI64 : (Try.prog.info? 3).map (fun i => (i.zero, i.size, i.bytes)) = some (some (.int .i64 0), 1, 8) := by kernel_rfl

end Go.Proofs.Ytfnhchcgieeedaa
