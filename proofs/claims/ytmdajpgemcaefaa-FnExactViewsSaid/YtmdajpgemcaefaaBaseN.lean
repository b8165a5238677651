/-
  Words and small lemmas on slices of structs: each element has sz one-cell fields.
-/
import Derived.Test.YtmdajpgemcaefaaBase
namespace Go.Proofs.Ytmdajpgemcaefaa
set_option linter.unusedSimpArgs false
set_option linter.unusedVariables false
open Go.RowKit

theorem flat_len {α : Type} {enc : α → List Value} {sz : Nat} (he : ∀ x, (enc x).length = sz) : ∀ l : List α, (l.flatMap enc).length = l.length * sz
  | [] => by simp
  | x :: l => by simp [he, flat_len he l, Nat.add_mul]; omega

theorem flat_get {α : Type} {enc : α → List Value} {sz : Nat} (he : ∀ x, (enc x).length = sz) : ∀ (l : List α) (i : Nat) (hi : i < l.length) (j : Nat), j < sz → (l.flatMap enc)[i * sz + j]? = (enc l[i])[j]?
  | x :: l, 0, _, j, hj => by
    simp only [List.flatMap_cons, Nat.zero_mul, Nat.zero_add, List.getElem_cons_zero]
    rw [List.getElem?_append_left (by rw [he]; exact hj)]
  | x :: l, i + 1, hi, j, hj => by
    simp only [List.flatMap_cons, List.getElem_cons_succ]
    rw [List.getElem?_append_right (by rw [he, Nat.add_mul]; omega), he, show (i + 1) * sz + j - sz = i * sz + j from by rw [Nat.add_mul]; omega]
    exact flat_get he l i (by simpa using hi) j hj

/-- A slice value that reads as the list l of structs, from blocks that satisfy S. -/
structure SlN {α : Type} (enc : α → List Value) (sz : Nat) (S : Nat → Prop) (w : World) (a : Option Addr) (cap : Nat) (l : List α) : Prop where
  le : l.length ≤ cap
  lt : cap ≤ maxLen
  nil : a = none → cap = 0
  at_ : l ≠ [] → ∃ b off, a = some ⟨b, off, none⟩ ∧ S b ∧ b < w.heap.size ∧ ∀ i (h : i < l.length) j u, (enc l[i])[j]? = some u → w.cell? ⟨b, off + i * sz + j, none⟩ = some u

/-- A slice of structs in a row of its own. -/
structure OwnN {α : Type} (enc : α → List Value) (sz : Nat) (e : TypeId) (S : Nat → Prop) (w : World) (a : Option Addr) (cap : Nat) (l : List α) : Prop where
  le : l.length ≤ cap
  lt : cap ≤ maxLen
  row : (a = none ∧ l = [] ∧ cap = 0) ∨ ∃ g cur, a = some ⟨g, 0, none⟩ ∧ S g ∧ w.heap[g]? = some (.cells cur e (0, 0)) ∧ cur.size = cap * sz ∧ cur.toList.take (l.length * sz) = l.flatMap enc

section
variable {α : Type} {enc : α → List Value} {sz : Nat} {e : TypeId} {S S' : Nat → Prop} {w w' : World} {a : Option Addr} {cap : Nat} {l : List α}

theorem SlN.get (h : SlN enc sz S w a cap l) (hn : 0 < l.length) :
    ∃ b off, a = some ⟨b, off, none⟩ ∧ S b ∧ b < w.heap.size ∧ ∀ i (h : i < l.length) j u, (enc l[i])[j]? = some u → w.cell? ⟨b, off + i * sz + j, none⟩ = some u :=
  h.at_ (by intro e; simp [e] at hn)

theorem SlN.lift (h : SlN enc sz S w a cap l) (hk : ∀ b, S b → b < w.heap.size → w'.heap[b]? = w.heap[b]?) (hz : w.heap.size ≤ w'.heap.size) (hs : ∀ b, b < w.heap.size → S b → S' b) : SlN enc sz S' w' a cap l := by
  refine ⟨h.le, h.lt, h.nil, fun hn => ?_⟩
  obtain ⟨b, off, h1, h2, h3, h4⟩ := h.at_ hn
  exact ⟨b, off, h1, hs b h3 h2, by omega, fun i hi j u hu => by rw [← h4 i hi j u hu]; exact World.cell?_of_block (w := w) (hk b h2 h3)⟩

theorem SlN.below (h : SlN enc sz S w a cap l) (hb : Below w.heap.size w w') : SlN enc sz S w' a cap l := h.lift (fun b _ hlt => hb.block b hlt) hb.size fun _ _ hS => hS
theorem SlN.mono (h : SlN enc sz S w a cap l) (hs : ∀ b, b < w.heap.size → S b → S' b) : SlN enc sz S' w a cap l := h.lift (fun _ _ _ => rfl) (Nat.le_refl _) hs
theorem SlN.alloc (h : SlN enc sz S w a cap l) (o : Obj) : SlN enc sz S (w.alloc o) a cap l := h.lift (fun b _ hb => Below.heap_alloc _ _ _ hb) (by simp) fun _ _ hS => hS
theorem SlN.drew1 (h : SlN enc sz S w a cap l) : SlN enc sz S w.drew a cap l := h.lift (fun _ _ _ => rfl) (Nat.le_refl _) fun _ _ hS => hS
theorem SlN.chg {T : Nat → Prop} (h : SlN enc sz S w a cap l) (hc : Chg T w w') (hd : ∀ b, b < w.heap.size → S b → ¬ T b) : SlN enc sz S w' a cap l :=
  h.lift (fun b hS hlt => hc.block b hlt (hd b hlt hS)) hc.size fun _ _ hS => hS

theorem OwnN.nil : OwnN enc sz e S w none 0 [] := ⟨by simp, Nat.zero_le _, .inl ⟨rfl, rfl, rfl⟩⟩
theorem OwnN.lit (base : Nat) (hb : base ≤ w.heap.size) : OwnN enc sz e (base ≤ ·) (w.alloc (.cells #[] e)) (some ⟨w.heap.size, 0, none⟩) 0 [] :=
  ⟨by simp, Nat.zero_le _, .inr ⟨w.heap.size, #[], rfl, hb, heap_alloc_new w _, by simp, by simp⟩⟩

theorem OwnN.owns {base : Nat} (he : ∀ x, (enc x).length = sz) (h : OwnN enc sz e S w a cap l) (hb : ∀ b, b < w.heap.size → S b → base ≤ b) : w.ownsRow base e sz (.slice a l.length cap) l.length (l.flatMap enc) := by
  refine ⟨flat_len he l, ?_⟩
  rcases h.row with ⟨rfl, rfl, rfl⟩ | ⟨g, cur, rfl, hS, hg, hs, ht⟩
  · exact .inl ⟨rfl, rfl⟩
  · exact .inr ⟨g, cap, cur, rfl, hb g (Array.getElem?_eq_some_iff.1 hg).1 hS, hg, h.le, h.lt, hs, ht⟩

theorem OwnN.of_owns {base : Nat} (h : w.ownsRow base e sz (.slice a l.length cap) l.length (l.flatMap enc)) (hs : ∀ b, b < w.heap.size → base ≤ b → S b) : OwnN enc sz e S w a cap l := by
  obtain ⟨_, h2⟩ := h
  rcases h2 with ⟨h2, h3⟩ | ⟨g, cap', cur, hv, hb, hg, hle, hm, hsz, ht⟩
  · simp only [Value.slice.injEq] at h2
    obtain ⟨rfl, h4, rfl⟩ := h2
    have : l = [] := List.eq_nil_of_length_eq_zero h4
    subst this
    exact OwnN.nil
  · simp only [Value.slice.injEq] at hv
    obtain ⟨rfl, _, rfl⟩ := hv
    exact ⟨hle, hm, .inr ⟨g, cur, rfl, hs g (Array.getElem?_eq_some_iff.1 hg).1 hb, hg, hsz, ht⟩⟩

theorem OwnN.sl (he : ∀ x, (enc x).length = sz) (h : OwnN enc sz e S w a cap l) : SlN enc sz S w a cap l := by
  refine ⟨h.le, h.lt, fun ha => ?_, fun hne => ?_⟩
  · rcases h.row with ⟨_, _, h3⟩ | ⟨g, cur, h1, _⟩
    · exact h3
    · rw [h1] at ha; cases ha
  · rcases h.row with ⟨_, rfl, _⟩ | ⟨g, cur, rfl, hS, hg, hs, ht⟩
    · exact absurd rfl hne
    · refine ⟨g, 0, rfl, hS, (Array.getElem?_eq_some_iff.1 hg).1, fun i hi j u hu => ?_⟩
      have ho : w.ownsRow 0 e sz (.slice (some ⟨g, 0, none⟩) l.length cap) l.length (l.flatMap enc) := h.owns he fun _ _ _ => Nat.zero_le _
      have hj : j < sz := by rw [← he l[i]]; exact (List.getElem?_eq_some_iff.1 hu).1
      have hlt : i * sz + j < l.length * sz := by
        have := Nat.mul_le_mul_right sz (show i + 1 ≤ l.length from hi)
        rw [Nat.add_mul] at this; omega
      have := ho.cellAt (i * sz + j) hlt
      rw [Nat.zero_add, this, flat_get he l i hi j hj, hu]

theorem OwnN.lift (h : OwnN enc sz e S w a cap l) (hk : ∀ b, S b → b < w.heap.size → w'.heap[b]? = w.heap[b]?) (hs : ∀ b, b < w.heap.size → S b → S' b) : OwnN enc sz e S' w' a cap l := by
  refine ⟨h.le, h.lt, ?_⟩
  rcases h.row with h1 | ⟨g, cur, ha, hS, hg, r⟩
  · exact .inl h1
  · have hlt := (Array.getElem?_eq_some_iff.1 hg).1
    exact .inr ⟨g, cur, ha, hs g hlt hS, by rw [hk g hS hlt]; exact hg, r⟩

theorem OwnN.below (h : OwnN enc sz e S w a cap l) (hb : Below w.heap.size w w') : OwnN enc sz e S w' a cap l := h.lift (fun b _ hlt => hb.block b hlt) fun _ _ hS => hS
theorem OwnN.mono (h : OwnN enc sz e S w a cap l) (hs : ∀ b, b < w.heap.size → S b → S' b) : OwnN enc sz e S' w a cap l := h.lift (fun _ _ _ => rfl) hs
theorem OwnN.alloc (h : OwnN enc sz e S w a cap l) (o : Obj) : OwnN enc sz e S (w.alloc o) a cap l := h.lift (fun b _ hb => Below.heap_alloc _ _ _ hb) fun _ _ hS => hS
theorem OwnN.drew1 (h : OwnN enc sz e S w a cap l) : OwnN enc sz e S w.drew a cap l := h.lift (fun _ _ _ => rfl) fun _ _ hS => hS
theorem OwnN.chg {T : Nat → Prop} (h : OwnN enc sz e S w a cap l) (hc : Chg T w w') (hd : ∀ b, b < w.heap.size → S b → ¬ T b) : OwnN enc sz e S w' a cap l :=
  h.lift (fun b hS hlt => hc.block b hlt (hd b hlt hS)) fun _ _ hS => hS

theorem OwnN.block (h : OwnN enc sz e S w a cap l) : ∀ b, a.map (·.block) = some b → S b ∧ b < w.heap.size := by
  intro b hb
  rcases h.row with ⟨rfl, _⟩ | ⟨g, cur, rfl, hS, hg, _⟩
  · cases hb
  · cases hb
    exact ⟨hS, (Array.getElem?_eq_some_iff.1 hg).1⟩

end

end Go.Proofs.Ytmdajpgemcaefaa
