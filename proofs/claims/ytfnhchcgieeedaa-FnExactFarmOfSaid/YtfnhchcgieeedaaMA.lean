/-
  The engine, texts BaseN JoinN E1 E2 E3 E4 E5 E6 E7 EN E8 in one. No conditions of its own.
-/
import Derived.Test.YtfnhchcgieeedaaBase
import Derived.Deep.MidRow
import Derived.Great.BuildSlice
import Derived.Laws.OwnMore
namespace Go.Proofs.Ytfnhchcgieeedaa
set_option linter.unusedSimpArgs false
set_option linter.unusedVariables false
set_option linter.unusedSimpArgs false
set_option linter.unusedVariables false
set_option linter.defProp false
open Go.RowKit

theorem flat_len {α : Type} {enc : α → List Value} {sz : Nat} (he : ∀ x, (enc x).length = sz) : ∀ l : List α, (l.flatMap enc).length = l.length * sz
  | [] => by simp
  | x :: l => by simp [he, flat_len he l, Nat.add_mul]; omega

theorem flat_get {α : Type} {enc : α → List Value} {sz : Nat} (he : ∀ x, (enc x).length = sz) : ∀ (l : List α) (i : Nat) (hi : i < l.length) (j : Nat), j < sz → (l.flatMap enc)[i * sz + j]? = (enc l[i])[j]?
  | x :: l, 0, _, j, hj => by
    simp only [List.flatMap_cons, Nat.zero_mul, Nat.zero_add, List.getElem_cons_zero]
    rw [List.getElem?_append_left (by rw [he]; exact hj)]
  | x :: l, i + 1, hi, j, hj => by
    simp only [List.flatMap_cons, List.getElem_cons_succ]
    rw [List.getElem?_append_right (by rw [he, Nat.add_mul]; omega), he, show (i + 1) * sz + j - sz = i * sz + j from by rw [Nat.add_mul]; omega]
    exact flat_get he l i (by simpa using hi) j hj

/-- A slice value that reads as the list l of structs, from blocks that satisfy S. -/
structure SlN {α : Type} (enc : α → List Value) (sz : Nat) (S : Nat → Prop) (w : World) (a : Option Addr) (cap : Nat) (l : List α) : Prop where
  le : l.length ≤ cap
  lt : cap ≤ maxLen
  nil : a = none → cap = 0
  at_ : l ≠ [] → ∃ b off, a = some ⟨b, off, none⟩ ∧ S b ∧ b < w.heap.size ∧ ∀ i (h : i < l.length) j u, (enc l[i])[j]? = some u → w.cell? ⟨b, off + i * sz + j, none⟩ = some u

/-- A slice of structs in a row of its own. -/
structure OwnN {α : Type} (enc : α → List Value) (sz : Nat) (e : TypeId) (S : Nat → Prop) (w : World) (a : Option Addr) (cap : Nat) (l : List α) : Prop where
  le : l.length ≤ cap
  lt : cap ≤ maxLen
  row : (a = none ∧ l = [] ∧ cap = 0) ∨ ∃ g cur, a = some ⟨g, 0, none⟩ ∧ S g ∧ w.heap[g]? = some (.cells cur e (0, 0)) ∧ cur.size = cap * sz ∧ cur.toList.take (l.length * sz) = l.flatMap enc

section
variable {α : Type} {enc : α → List Value} {sz : Nat} {e : TypeId} {S S' : Nat → Prop} {w w' : World} {a : Option Addr} {cap : Nat} {l : List α}

theorem SlN.get (h : SlN enc sz S w a cap l) (hn : 0 < l.length) :
    ∃ b off, a = some ⟨b, off, none⟩ ∧ S b ∧ b < w.heap.size ∧ ∀ i (h : i < l.length) j u, (enc l[i])[j]? = some u → w.cell? ⟨b, off + i * sz + j, none⟩ = some u :=
  h.at_ (by intro e; simp [e] at hn)

theorem SlN.lift (h : SlN enc sz S w a cap l) (hk : ∀ b, S b → b < w.heap.size → w'.heap[b]? = w.heap[b]?) (hz : w.heap.size ≤ w'.heap.size) (hs : ∀ b, b < w.heap.size → S b → S' b) : SlN enc sz S' w' a cap l := by
  refine ⟨h.le, h.lt, h.nil, fun hn => ?_⟩
  obtain ⟨b, off, h1, h2, h3, h4⟩ := h.at_ hn
  exact ⟨b, off, h1, hs b h3 h2, by omega, fun i hi j u hu => by rw [← h4 i hi j u hu]; exact World.cell?_of_block (w := w) (hk b h2 h3)⟩

theorem SlN.below (h : SlN enc sz S w a cap l) (hb : Below w.heap.size w w') : SlN enc sz S w' a cap l := h.lift (fun b _ hlt => hb.block b hlt) hb.size fun _ _ hS => hS
theorem SlN.mono (h : SlN enc sz S w a cap l) (hs : ∀ b, b < w.heap.size → S b → S' b) : SlN enc sz S' w a cap l := h.lift (fun _ _ _ => rfl) (Nat.le_refl _) hs
theorem SlN.alloc (h : SlN enc sz S w a cap l) (o : Obj) : SlN enc sz S (w.alloc o) a cap l := h.lift (fun b _ hb => Below.heap_alloc _ _ _ hb) (by simp) fun _ _ hS => hS
theorem SlN.drew1 (h : SlN enc sz S w a cap l) : SlN enc sz S w.drew a cap l := h.lift (fun _ _ _ => rfl) (Nat.le_refl _) fun _ _ hS => hS
theorem SlN.chg {T : Nat → Prop} (h : SlN enc sz S w a cap l) (hc : Chg T w w') (hd : ∀ b, b < w.heap.size → S b → ¬ T b) : SlN enc sz S w' a cap l :=
  h.lift (fun b hS hlt => hc.block b hlt (hd b hlt hS)) hc.size fun _ _ hS => hS

theorem OwnN.nil : OwnN enc sz e S w none 0 [] := ⟨by simp, Nat.zero_le _, .inl ⟨rfl, rfl, rfl⟩⟩
theorem OwnN.lit (base : Nat) (hb : base ≤ w.heap.size) : OwnN enc sz e (base ≤ ·) (w.alloc (.cells #[] e)) (some ⟨w.heap.size, 0, none⟩) 0 [] :=
  ⟨by simp, Nat.zero_le _, .inr ⟨w.heap.size, #[], rfl, hb, heap_alloc_new w _, by simp, by simp⟩⟩

theorem OwnN.owns {base : Nat} (he : ∀ x, (enc x).length = sz) (h : OwnN enc sz e S w a cap l) (hb : ∀ b, b < w.heap.size → S b → base ≤ b) : w.ownsRow base e sz (.slice a l.length cap) l.length (l.flatMap enc) := by
  refine ⟨flat_len he l, ?_⟩
  rcases h.row with ⟨rfl, rfl, rfl⟩ | ⟨g, cur, rfl, hS, hg, hs, ht⟩
  · exact .inl ⟨rfl, rfl⟩
  · exact .inr ⟨g, cap, cur, rfl, hb g (Array.getElem?_eq_some_iff.1 hg).1 hS, hg, h.le, h.lt, hs, ht⟩

theorem OwnN.of_owns {base : Nat} (h : w.ownsRow base e sz (.slice a l.length cap) l.length (l.flatMap enc)) (hs : ∀ b, b < w.heap.size → base ≤ b → S b) : OwnN enc sz e S w a cap l := by
  obtain ⟨_, h2⟩ := h
  rcases h2 with ⟨h2, h3⟩ | ⟨g, cap', cur, hv, hb, hg, hle, hm, hsz, ht⟩
  · simp only [Value.slice.injEq] at h2
    obtain ⟨rfl, h4, rfl⟩ := h2
    have : l = [] := List.eq_nil_of_length_eq_zero h4
    subst this
    exact OwnN.nil
  · simp only [Value.slice.injEq] at hv
    obtain ⟨rfl, _, rfl⟩ := hv
    exact ⟨hle, hm, .inr ⟨g, cur, rfl, hs g (Array.getElem?_eq_some_iff.1 hg).1 hb, hg, hsz, ht⟩⟩

theorem OwnN.sl (he : ∀ x, (enc x).length = sz) (h : OwnN enc sz e S w a cap l) : SlN enc sz S w a cap l := by
  refine ⟨h.le, h.lt, fun ha => ?_, fun hne => ?_⟩
  · rcases h.row with ⟨_, _, h3⟩ | ⟨g, cur, h1, _⟩
    · exact h3
    · rw [h1] at ha; cases ha
  · rcases h.row with ⟨_, rfl, _⟩ | ⟨g, cur, rfl, hS, hg, hs, ht⟩
    · exact absurd rfl hne
    · refine ⟨g, 0, rfl, hS, (Array.getElem?_eq_some_iff.1 hg).1, fun i hi j u hu => ?_⟩
      have ho : w.ownsRow 0 e sz (.slice (some ⟨g, 0, none⟩) l.length cap) l.length (l.flatMap enc) := h.owns he fun _ _ _ => Nat.zero_le _
      have hj : j < sz := by rw [← he l[i]]; exact (List.getElem?_eq_some_iff.1 hu).1
      have hlt : i * sz + j < l.length * sz := by
        have := Nat.mul_le_mul_right sz (show i + 1 ≤ l.length from hi)
        rw [Nat.add_mul] at this; omega
      have := ho.cellAt (i * sz + j) hlt
      rw [Nat.zero_add, this, flat_get he l i hi j hj, hu]

theorem OwnN.lift (h : OwnN enc sz e S w a cap l) (hk : ∀ b, S b → b < w.heap.size → w'.heap[b]? = w.heap[b]?) (hs : ∀ b, b < w.heap.size → S b → S' b) : OwnN enc sz e S' w' a cap l := by
  refine ⟨h.le, h.lt, ?_⟩
  rcases h.row with h1 | ⟨g, cur, ha, hS, hg, r⟩
  · exact .inl h1
  · have hlt := (Array.getElem?_eq_some_iff.1 hg).1
    exact .inr ⟨g, cur, ha, hs g hlt hS, by rw [hk g hS hlt]; exact hg, r⟩

theorem OwnN.below (h : OwnN enc sz e S w a cap l) (hb : Below w.heap.size w w') : OwnN enc sz e S w' a cap l := h.lift (fun b _ hlt => hb.block b hlt) fun _ _ hS => hS
theorem OwnN.mono (h : OwnN enc sz e S w a cap l) (hs : ∀ b, b < w.heap.size → S b → S' b) : OwnN enc sz e S' w a cap l := h.lift (fun _ _ _ => rfl) hs
theorem OwnN.alloc (h : OwnN enc sz e S w a cap l) (o : Obj) : OwnN enc sz e S (w.alloc o) a cap l := h.lift (fun b _ hb => Below.heap_alloc _ _ _ hb) fun _ _ hS => hS
theorem OwnN.drew1 (h : OwnN enc sz e S w a cap l) : OwnN enc sz e S w.drew a cap l := h.lift (fun _ _ _ => rfl) fun _ _ hS => hS
theorem OwnN.chg {T : Nat → Prop} (h : OwnN enc sz e S w a cap l) (hc : Chg T w w') (hd : ∀ b, b < w.heap.size → S b → ¬ T b) : OwnN enc sz e S w' a cap l :=
  h.lift (fun b hS hlt => hc.block b hlt (hd b hlt hS)) fun _ _ hS => hS

theorem OwnN.block (h : OwnN enc sz e S w a cap l) : ∀ b, a.map (·.block) = some b → S b ∧ b < w.heap.size := by
  intro b hb
  rcases h.row with ⟨rfl, _⟩ | ⟨g, cur, rfl, hS, hg, _⟩
  · cases hb
  · cases hb
    exact ⟨hS, (Array.getElem?_eq_some_iff.1 hg).1⟩

end

end Go.Proofs.Ytfnhchcgieeedaa

namespace Go.Proofs.Ytfnhchcgieeedaa
set_option linter.unusedSimpArgs false
set_option linter.unusedVariables false
set_option linter.defProp false
open Go.RowKit

section
variable {P : Program} {w : World} {ops : Array Oper} {rest : List Oper} {o : Oper} {act : Act} {Q : Exit → Act → World → Prop} {α : Type} {enc : α → List Value} {sz : Nat}

theorem wp_joinN {K : Act → World → Prop} (he : ∀ x, (enc x).length = sz) (hsz0 : 0 < sz) (s x : Operand) (t : TypeId)
    (ho : o.op = .call { callee := .builtin .append, args := #[s, x], argTypes := #[t, t] })
    (base : Nat) (e : TypeId) (z : Value) (bytes : Nat) (ht : P.underlying t = some (.slice e)) (hinf : (P.info? e).map (fun i => (i.zero, i.size, i.bytes)) = some (some z, sz, bytes)) (hzs : z.cells.size = sz)
    (a : Option Addr) (cap : Nat) (l : List α) (hs : act.eval s = .slice a l.length cap) (hown : OwnN enc sz e (base ≤ ·) w a cap l)
    (S : Nat → Prop) (b : Option Addr) (cb : Nat) (m : List α) (hx : act.eval x = .slice b m.length cb) (hm : SlN enc sz S w b cb m) (h1 : ∀ y, ∀ u ∈ enc y, u.oneCell' = true)
    (h63 : l.length + m.length ≤ maxLen) (hbytes : (l.length + m.length) * bytes ≤ 140737488355328) (hbase : base ≤ w.heap.size)
    (h : ∀ a' cap' w', OwnN enc sz e (base ≤ ·) w' a' cap' (l ++ m) → Grew a base w w' → K (act.put o.dst (.slice a' (l.length + m.length) cap')) w') : o.wp P act w K Q := by
  obtain ⟨i, hi, hz, hsz, hby⟩ := info_parts hinf
  have howns : w.ownsRow base e sz (.slice a l.length cap) l.length (l.flatMap enc) := hown.owns he fun _ _ hb => hb
  cases b with
  | none =>
    obtain rfl := hm.nil rfl
    have hm0 : m = [] := by
      by_cases h0 : m = []
      · exact h0
      · obtain ⟨_, _, h2, _⟩ := hm.at_ h0; cases h2
    subst hm0
    have hrun := run_append_owned_none (P := P) (w := w) base t o.type e i sz ht hi _ _ _ howns
    have := h a cap w (by simpa using hown) ⟨Below.refl _ _, fun _ _ _ => rfl⟩
    unfold Oper.wp execOp
    simp only [ho, resolve, invoke, builtin, Sem.run_bind, Sem.run_pure, Result.andThen_ok, List.map_toArray, List.map_cons, List.map_nil, hs, hx]
    show o.upon P act K Q (((Builtin.append_ #[t, t] o.type #[.slice a l.length cap, .slice none 0 0]).run P w).andThen _)
    rw [hrun]
    show K _ _
    simpa using this
  | some ad =>
    refine wp_append_own w s x t ho base e i z sz bytes ht hi hz hsz hby hzs hsz0 _ _ _ hs howns ad m.length cb (m.flatMap enc) hx (flat_len he m) ?_ ?_ h63 hbytes hbase ?_
    · intro j u hu
      have hjl := (List.getElem?_eq_some_iff.1 hu).1
      rw [flat_len he m] at hjl
      have hk : j / sz < m.length := Nat.div_lt_of_lt_mul (by rw [Nat.mul_comm]; exact hjl)
      have hj : j % sz < sz := Nat.mod_lt _ hsz0
      have hd : j / sz * sz + j % sz = j := by rw [Nat.mul_comm]; exact Nat.div_add_mod j sz
      have hg := flat_get he m (j / sz) hk (j % sz) hj
      rw [hd, hu] at hg
      obtain ⟨b0, off, e0, _, _, hc⟩ := hm.get (Nat.lt_of_le_of_lt (Nat.zero_le _) hk)
      cases e0
      have := hc (j / sz) hk (j % sz) u hg.symm
      have e1 : (⟨b0, off, none⟩ : Addr).add j = ⟨b0, off + j, none⟩ := by unfold Addr.add; split <;> simp_all
      rw [Nat.add_assoc, hd] at this
      rw [e1]; exact this
    · intro u hu
      obtain ⟨y, _, hu'⟩ := List.mem_flatMap.1 hu
      exact h1 y u hu'
    · intro v' w' hv hg _
      have hb := Grew.of_grown hg hbase (fun b hb => (hown.block b hb).1)
      have hv2 : ∃ a' cap', v' = .slice a' (l.length + m.length) cap' := by
        rcases hv.2 with ⟨e1, e2⟩ | ⟨g, c, _, e1, _⟩
        · exact ⟨none, 0, by rw [e1, e2]⟩
        · exact ⟨_, c, e1⟩
      obtain ⟨a', cap', rfl⟩ := hv2
      refine h a' cap' w' (OwnN.of_owns (base := base) ?_ (fun _ _ hb => hb)) hb
      rw [List.length_append, List.flatMap_append]
      exact hv

theorem wpList_joinN (he : ∀ x, (enc x).length = sz) (hsz0 : 0 < sz) (hgd : o.guard = none) (s x : Operand) (t : TypeId)
    (ho : o.op = .call { callee := .builtin .append, args := #[s, x], argTypes := #[t, t] })
    (base : Nat) (e : TypeId) (z : Value) (bytes : Nat) (ht : P.underlying t = some (.slice e)) (hinf : (P.info? e).map (fun i => (i.zero, i.size, i.bytes)) = some (some z, sz, bytes)) (hzs : z.cells.size = sz)
    (a : Option Addr) (cap : Nat) (l : List α) (hs : act.eval s = .slice a l.length cap) (hown : OwnN enc sz e (base ≤ ·) w a cap l)
    (S : Nat → Prop) (b : Option Addr) (cb : Nat) (m : List α) (hx : act.eval x = .slice b m.length cb) (hm : SlN enc sz S w b cb m) (h1 : ∀ y, ∀ u ∈ enc y, u.oneCell' = true)
    (h63 : l.length + m.length ≤ maxLen) (hbytes : (l.length + m.length) * bytes ≤ 140737488355328) (hbase : base ≤ w.heap.size)
    (h : ∀ a' cap' w', OwnN enc sz e (base ≤ ·) w' a' cap' (l ++ m) → Grew a base w w' → wpList P ops Q rest (act.put o.dst (.slice a' (l.length + m.length) cap')) w') : wpList P ops Q (o :: rest) act w :=
  wpList_plain hgd fun _ hK => wp_joinN he hsz0 s x t ho base e z bytes ht hinf hzs a cap l hs hown S b cb m hx hm h1 h63 hbytes hbase fun a' cap' w' h2 h3 => hK _ _ (h a' cap' w' h2 h3)

/-- 'append(l, y)', the new element in a new block. -/
theorem wpList_pushN (he : ∀ x, (enc x).length = sz) (hsz0 : 0 < sz) (hgd : o.guard = none) (s x : Operand) (t : TypeId)
    (ho : o.op = .call { callee := .builtin .append, args := #[s, x], argTypes := #[t, t] })
    (base : Nat) (e : TypeId) (z : Value) (bytes : Nat) (ht : P.underlying t = some (.slice e)) (hinf : (P.info? e).map (fun i => (i.zero, i.size, i.bytes)) = some (some z, sz, bytes)) (hzs : z.cells.size = sz)
    (a : Option Addr) (cap : Nat) (l : List α) (hs : act.eval s = .slice a l.length cap) (hown : OwnN enc sz e (base ≤ ·) w a cap l)
    (g cb : Nat) (y : α) (hx : act.eval x = .slice (some ⟨g, 0, none⟩) 1 cb) (hg : g < w.heap.size) (hy : ∀ j u, (enc y)[j]? = some u → w.cell? ⟨g, j, none⟩ = some u) (h1 : ∀ y, ∀ u ∈ enc y, u.oneCell' = true) (hcb : 1 ≤ cb) (hcb' : cb ≤ maxLen)
    (h63 : l.length + 1 ≤ maxLen) (hbytes : (l.length + 1) * bytes ≤ 140737488355328) (hbase : base ≤ w.heap.size)
    (h : ∀ a' cap' w', OwnN enc sz e (base ≤ ·) w' a' cap' (l ++ [y]) → Grew a base w w' → wpList P ops Q rest (act.put o.dst (.slice a' (l.length + 1) cap')) w') : wpList P ops Q (o :: rest) act w :=
  wpList_joinN he hsz0 hgd s x t ho base e z bytes ht hinf hzs a cap l hs hown (fun _ => True) (some ⟨g, 0, none⟩) cb [y] hx
    ⟨hcb, hcb', (fun h => by cases h), fun _ => ⟨g, 0, rfl, trivial, hg, fun i hi j u hu => by
      have : i = 0 := by simp at hi; exact hi
      subst this; simpa using hy j u (by simpa using hu)⟩⟩ h1 h63 hbytes hbase h

end

end Go.Proofs.Ytfnhchcgieeedaa

namespace Go.Proofs.Ytfnhchcgieeedaa
set_option linter.unusedSimpArgs false
set_option linter.unusedVariables false
set_option linter.defProp false
open Go.RowKit

/-- Data as a tree: a cell. -/
inductive DC where
  | v (x : Value)
  | sl (T sz : Nat) (es : List (List DC))

/-- A symbolic cell. -/
inductive CV where
  | any
  | v (x : Value)
  | nil
  | ptr (f i c : Nat)
  | sl (f sz o n : Nat)

/-- A symbolic value. -/
inductive SV where
  | any
  | c (x : CV)
  | agg (l : List CV)
  | tup (l : List (CV ⊕ List CV))

def All2 {α β : Type} (R : α → β → Prop) : List α → List β → Prop
  | [], [] => True
  | a :: l, b :: m => R a b ∧ All2 R l m
  | _, _ => False

theorem All2.length {α β : Type} {R : α → β → Prop} : ∀ {l : List α} {m : List β}, All2 R l m → l.length = m.length
  | [], [], _ => rfl
  | _ :: l, _ :: m, h => by simp [All2.length (l := l) (m := m) h.2]

theorem All2.get {α β : Type} {R : α → β → Prop} : ∀ {l : List α} {m : List β}, All2 R l m → ∀ {i : Nat} {a : α}, l[i]? = some a → ∃ b, m[i]? = some b ∧ R a b
  | [], [], _, i, a, h => by simp at h
  | x :: l, y :: m, h, 0, a, e => by
    simp at e; subst e; exact ⟨y, rfl, h.1⟩
  | x :: l, y :: m, h, i + 1, a, e => by
    simp at e; simpa using All2.get (l := l) (m := m) h.2 e

theorem All2.mono {α β : Type} {R R' : α → β → Prop} (hr : ∀ a b, R a b → R' a b) : ∀ {l : List α} {m : List β}, All2 R l m → All2 R' l m
  | [], [], _ => trivial
  | _ :: l, _ :: m, h => ⟨hr _ _ h.1, All2.mono hr (l := l) (m := m) h.2⟩

theorem All2.of_get {α β : Type} {R : α → β → Prop} : ∀ {l : List α} {m : List β}, l.length = m.length → (∀ (i : Nat) (a : α) (b : β), l[i]? = some a → m[i]? = some b → R a b) → All2 R l m
  | [], [], _, _ => trivial
  | [], _ :: _, h, _ => by simp at h
  | _ :: _, [], h, _ => by simp at h
  | x :: l, y :: m, h, hg => ⟨hg 0 x y rfl rfl, All2.of_get (l := l) (m := m) (by simpa using h) fun i a b h1 h2 => hg (i + 1) a b (by simpa using h1) (by simpa using h2)⟩

theorem All2.set {α β : Type} {R : α → β → Prop} {l : List α} {m : List β} (h : All2 R l m) (i : Nat) {a : α} {b : β} (hr : R a b) : All2 R (l.set i a) (m.set i b) := by
  refine All2.of_get (by simp [h.length]) fun j x y h1 h2 => ?_
  rw [List.getElem?_set] at h1 h2
  by_cases hij : i = j
  · subst hij
    rw [if_pos rfl] at h1 h2
    split at h1
    · split at h2
      · cases h1; cases h2; exact hr
      · cases h2
    · cases h1
  · rw [if_neg hij] at h1 h2
    obtain ⟨y', hy, hr'⟩ := h.get h1
    rw [hy] at h2
    cases h2
    exact hr'

theorem All2.append {α β : Type} {R : α → β → Prop} : ∀ {l : List α} {m : List β} {l' : List α} {m' : List β}, All2 R l m → All2 R l' m' → All2 R (l ++ l') (m ++ m')
  | [], [], _, _, _, h' => h'
  | _ :: l, _ :: m, _, _, h, h' => ⟨h.1, All2.append (l := l) (m := m) h.2 h'⟩

theorem All2.take {α β : Type} {R : α → β → Prop} : ∀ {l : List α} {m : List β}, All2 R l m → ∀ n, All2 R (l.take n) (m.take n)
  | [], [], _, n => by simp [All2]
  | x :: l, y :: m, h, 0 => trivial
  | x :: l, y :: m, h, n + 1 => ⟨h.1, All2.take (l := l) (m := m) h.2 n⟩

theorem All2.drop {α β : Type} {R : α → β → Prop} : ∀ {l : List α} {m : List β}, All2 R l m → ∀ n, All2 R (l.drop n) (m.drop n)
  | [], [], _, n => by simp [All2]
  | x :: l, y :: m, h, 0 => h
  | x :: l, y :: m, h, n + 1 => All2.drop (l := l) (m := m) h.2 n

/-- Where a block of the state lies: block, first cell, cells to an element, capacity, the blocks it rests on. -/
structure At where
  adr : Option Nat
  off : Nat
  sz : Nat
  cap : Nat
  ex : Prop
  F : Nat → Prop

/-- A place but for its blocks. -/
def At.nf (p : At) : At := { p with F := fun _ => False }

theorem nf_cases {p q : At} (h : p.nf = q.nf) : ∃ F, p = { q with F := F } := ⟨p.F, by
  cases p; cases q
  simp only [At.nf, At.mk.injEq] at h
  obtain ⟨rfl, rfl, rfl, rfl, rfl, _⟩ := h
  rfl⟩

def CVr (V : Nat → Prop) (ρ : Nat → At) : CV → Value → Prop
  | .any, u => u.oneCell' = true
  | .v x, u => u = x ∧ x.oneCell' = true
  | .nil, u => u = .slice none 0 0
  | .ptr f i c, u => V f ∧ ∃ b, (ρ f).adr = some b ∧ u = .pointer (some ⟨b, (ρ f).off + i * (ρ f).sz + c, none⟩)
  | .sl f sz o n, u => V f ∧ (ρ f).sz = sz ∧ ∃ a cp, u = .slice a n cp ∧ n ≤ cp ∧ cp ≤ maxLen ∧ (a = none → cp = 0) ∧
      (o = 0 → (ρ f).ex → a = (ρ f).adr.map (⟨·, (ρ f).off, none⟩) ∧ cp = (ρ f).cap) ∧ (0 < n → ∃ b, (ρ f).adr = some b ∧ a = some ⟨b, (ρ f).off + o * sz, none⟩)

def CSr (V : Nat → Prop) (ρ : Nat → At) : CV ⊕ List CV → Value → Prop
  | .inl x, u => CVr V ρ x u
  | .inr l, u => ∃ vs : List Value, u = .agg vs.toArray ∧ All2 (CVr V ρ) l vs

def SVr (V : Nat → Prop) (ρ : Nat → At) : SV → Value → Prop
  | .any, _ => True
  | .c x, u => CVr V ρ x u
  | .agg l, u => ∃ vs : List Value, u = .agg vs.toArray ∧ All2 (CVr V ρ) l vs
  | .tup l, u => ∃ vs : List Value, u = .tuple vs.toArray ∧ All2 (CSr V ρ) l vs

theorem CVr.one {V : Nat → Prop} {ρ : Nat → At} {x : CV} {u : Value} (h : CVr V ρ x u) : u.oneCell' = true := by
  cases x with
  | any => exact h
  | v x => rw [h.1]; exact h.2
  | nil => rw [show u = _ from h]; rfl
  | ptr f i c => obtain ⟨_, b, _, rfl⟩ := h; rfl
  | sl f sz o n => obtain ⟨_, _, a, cp, rfl, _⟩ := h; rfl

section
variable {V V' : Nat → Prop} {ρ ρ' : Nat → At}

theorem CVr.mono (hV : ∀ f, V f → V' f ∧ (ρ' f).nf = (ρ f).nf) {x : CV} {u : Value} (h : CVr V ρ x u) : CVr V' ρ' x u := by
  cases x with
  | any => exact h
  | v x => exact h
  | nil => exact h
  | ptr f i c =>
    obtain ⟨h1, h2⟩ := h
    obtain ⟨h3, h4⟩ := hV f h1
    obtain ⟨F, h5⟩ := nf_cases h4
    exact ⟨h3, by rw [h5]; exact h2⟩
  | sl f sz o n =>
    obtain ⟨h1, h2⟩ := h
    obtain ⟨h3, h4⟩ := hV f h1
    obtain ⟨F, h5⟩ := nf_cases h4
    exact ⟨h3, by rw [h5]; exact h2⟩

theorem CSr.mono (hV : ∀ f, V f → V' f ∧ (ρ' f).nf = (ρ f).nf) {x : CV ⊕ List CV} {u : Value} (h : CSr V ρ x u) : CSr V' ρ' x u := by
  cases x with
  | inl x => exact CVr.mono hV h
  | inr l => obtain ⟨vs, h1, h2⟩ := h; exact ⟨vs, h1, h2.mono fun _ _ => CVr.mono hV⟩

theorem SVr.mono (hV : ∀ f, V f → V' f ∧ (ρ' f).nf = (ρ f).nf) {x : SV} {u : Value} (h : SVr V ρ x u) : SVr V' ρ' x u := by
  cases x with
  | any => trivial
  | c x => exact CVr.mono hV h
  | agg l => obtain ⟨vs, h1, h2⟩ := h; exact ⟨vs, h1, h2.mono fun _ _ => CVr.mono hV⟩
  | tup l => obtain ⟨vs, h1, h2⟩ := h; exact ⟨vs, h1, h2.mono fun _ _ => CSr.mono hV⟩
end

/-- A value reads as data, out of blocks that satisfy F. -/
inductive Rd (w : World) (F : Nat → Prop) : DC → Value → Prop
  | v {x : Value} (h : x.oneCell' = true) : Rd w F (.v x) x
  | sl {T sz : Nat} {es : List (List DC)} {a : Option Addr} {cap : Nat} (g : Nat → Nat → Value)
      (le : es.length ≤ cap) (lt : cap ≤ maxLen) (nil : a = none → cap = 0) (wf : ∀ e ∈ es, e.length = sz)
      (ad : es ≠ [] → ∃ b off, a = some ⟨b, off, none⟩ ∧ F b ∧ ∀ i j, i < es.length → j < sz → w.cell? ⟨b, off + i * sz + j, none⟩ = some (g i j))
      (r : ∀ i e j c, es[i]? = some e → e[j]? = some c → Rd w F c (g i j)) : Rd w F (.sl T sz es) (.slice a es.length cap)

theorem Rd.one {w : World} {F : Nat → Prop} {c : DC} {u : Value} (h : Rd w F c u) : u.oneCell' = true := by
  cases h with
  | v h => exact h
  | sl => rfl

theorem Rd.keep {w w' : World} {F F' : Nat → Prop} (hw : ∀ b, F b → F' b ∧ w'.heap[b]? = w.heap[b]?) {c : DC} {u : Value} (h : Rd w F c u) : Rd w' F' c u := by
  induction h with
  | v h => exact .v h
  | sl g le lt nil wf ad r ih =>
    refine .sl g le lt nil wf (fun hn => ?_) ih
    obtain ⟨b, off, h1, h2, h3⟩ := ad hn
    exact ⟨b, off, h1, (hw b h2).1, fun i j hi hj => (World.cell?_of_block (w := w) (hw b h2).2).trans (h3 i j hi hj)⟩

/-- A block of the state: a variable; a row of the call's own (its cells hold no slices); a row that is only read; memory of which a fact is known (a map);
a row of the call's own whose cells may hold slices of rows of its own (h: the cell whose row is lent to a block); a row of the call's own whose cells may hold slices of memory that is only read; memory of which a fact is known that leans on memory that is only read. -/
inductive Blk where
  | box (T : Nat) (cs : List CV)
  | row (T : Nat) (es : List (List DC))
  | ro (es : List (List DC))
  | gh (S : List Nat) (φ : World → Prop)
  | nst (T : Nat) (es : List (List DC)) (h : Option (Nat × Nat × CV))
  | mix (T : Nat) (es : List (List DC))
  | gx (S : List Nat) (φ : (Nat → Prop) → World → Prop)

def Blk.own : Blk → Bool
  | .ro _ => false
  | _ => true

/-- Blocks that lean on memory that is only read. -/
def Blk.shr : Blk → Bool
  | .box _ _ => false
  | .row _ _ => false
  | .ro _ => false
  | .gh _ _ => false
  | .nst _ _ _ => false
  | .mix _ _ => true
  | .gx _ _ => true

def DC.val : DC → Value
  | .v x => x
  | .sl _ _ _ => undef

def flatE (es : List (List DC)) : List Value := es.flatMap fun e => e.map DC.val

def DC.flat (c : DC) : Prop := ∃ x : Value, c = .v x ∧ x.oneCell' = true

/-- A row of the call's own. -/
def RowAt (w : World) (p : At) (T : Nat) (es : List (List DC)) : Prop :=
  (p.off = 0 ∧ p.ex) ∧ p.cap ≤ maxLen ∧ es.length ≤ p.cap ∧ (∀ e ∈ es, e.length = p.sz) ∧ (∀ e ∈ es, ∀ c ∈ e, DC.flat c) ∧ (p.adr = none → p.cap = 0) ∧
      ∀ b, p.adr = some b → p.F b ∧ ∃ cur : Array Value, w.heap[b]? = some (.cells cur T (0, 0)) ∧ cur.size = p.cap * p.sz ∧ cur.toList.take (es.length * p.sz) = flatE es

/-- A cell of a row with rows in it. -/
def Cel (w : World) (q : At) : DC → Value → Prop
  | .v x, u => u = x ∧ x.oneCell' = true
  | .sl T sz es, u => q.sz = sz ∧ RowAt w q T es ∧ u = .slice (q.adr.map (⟨·, 0, none⟩)) es.length q.cap

def holeAt (h : Option (Nat × Nat × CV)) (i j : Nat) : Option CV :=
  match h with
  | some (i', j', x) => if i = i' ∧ j = j' then some x else none
  | none => none

def CelH (V : Nat → Prop) (ρ : Nat → At) (w : World) (q : At) (h : Option CV) (c : DC) (u : Value) : Prop :=
  match h with
  | some x => CVr V ρ x u
  | none => Cel w q c u

structure Nest (V : Nat → Prop) (ρ : Nat → At) (w : World) (p : At) (T : Nat) (es : List (List DC)) (h : Option (Nat × Nat × CV)) (q : Nat → Nat → At) : Prop where
  off : p.off = 0 ∧ p.ex
  cap : p.cap ≤ maxLen
  le : es.length ≤ p.cap
  sz : ∀ e ∈ es, e.length = p.sz
  nil : p.adr = none → p.cap = 0
  sub : ∀ i j b, (q i j).F b → p.F b ∧ p.adr ≠ some b
  apart : ∀ i j i' j' b, (q i j).F b → (q i' j').F b → i = i' ∧ j = j'
  cells : ∀ b, p.adr = some b → p.F b ∧ ∃ cur : Array Value, w.heap[b]? = some (.cells cur T (0, 0)) ∧ cur.size = p.cap * p.sz ∧
      ∀ i e j c, es[i]? = some e → e[j]? = some c → ∃ u, cur[i * p.sz + j]? = some u ∧ CelH V ρ w (q i j) (holeAt h i j) c u

theorem RowAt.keep {w w' : World} {p : At} {T : Nat} {es : List (List DC)} (hw : ∀ b, p.F b → w'.heap[b]? = w.heap[b]?) (h : RowAt w p T es) : RowAt w' p T es := by
  obtain ⟨h0, h1, h2, h3, h4, h5, h6⟩ := h
  refine ⟨h0, h1, h2, h3, h4, h5, fun b hb => ?_⟩
  obtain ⟨h7, cur, h8, h9⟩ := h6 b hb
  exact ⟨h7, cur, by rw [hw b h7]; exact h8, h9⟩

theorem Cel.keep {w w' : World} {q : At} {c : DC} {u : Value} (hw : ∀ b, q.F b → w'.heap[b]? = w.heap[b]?) (h : Cel w q c u) : Cel w' q c u := by
  cases c with
  | v x => exact h
  | sl T sz es => exact ⟨h.1, h.2.1.keep hw, h.2.2⟩

theorem Nest.keep {V V' : Nat → Prop} {ρ ρ' : Nat → At} {w w' : World} {p : At} {T : Nat} {es : List (List DC)} {h : Option (Nat × Nat × CV)} {q : Nat → Nat → At} (hV : ∀ f, V f → V' f ∧ (ρ' f).nf = (ρ f).nf)
    (hw : ∀ b, p.F b → w'.heap[b]? = w.heap[b]?) (n : Nest V ρ w p T es h q) : Nest V' ρ' w' p T es h q := by
  refine ⟨n.off, n.cap, n.le, n.sz, n.nil, n.sub, n.apart, fun b hb => ?_⟩
  obtain ⟨h1, cur, h2, h3, h4⟩ := n.cells b hb
  refine ⟨h1, cur, by rw [hw b h1]; exact h2, h3, fun i e j c hi hj => ?_⟩
  obtain ⟨u, h5, h6⟩ := h4 i e j c hi hj
  refine ⟨u, h5, ?_⟩
  unfold CelH at h6 ⊢
  split
  · rename_i hx; rw [hx] at h6; exact CVr.mono hV h6
  · rename_i hx; rw [hx] at h6; exact h6.keep fun b hb => hw b (n.sub i j b hb).1

def Holds (V : Nat → Prop) (ρ : Nat → At) (w : World) (p : At) : Blk → Prop
  | .box T cs => p.off = 0 ∧ ∃ (b : Nat) (vs : List Value), p.adr = some b ∧ p.F b ∧ w.heap[b]? = some (.cells vs.toArray T (0, 0)) ∧ All2 (CVr V ρ) cs vs
  | .row T es => (p.off = 0 ∧ p.ex) ∧ p.cap ≤ maxLen ∧ es.length ≤ p.cap ∧ (∀ e ∈ es, e.length = p.sz) ∧ (∀ e ∈ es, ∀ c ∈ e, DC.flat c) ∧ (p.adr = none → p.cap = 0) ∧
      ∀ b, p.adr = some b → p.F b ∧ ∃ cur : Array Value, w.heap[b]? = some (.cells cur T (0, 0)) ∧ cur.size = p.cap * p.sz ∧ cur.toList.take (es.length * p.sz) = flatE es
  | .ro es => ¬ p.ex ∧ p.cap ≤ maxLen ∧ es.length ≤ p.cap ∧ (∀ e ∈ es, e.length = p.sz) ∧
      (es ≠ [] → ∃ b, p.adr = some b ∧ p.F b) ∧ ∀ i e j c b, es[i]? = some e → e[j]? = some c → p.adr = some b → ∃ u, w.cell? ⟨b, p.off + i * p.sz + j, none⟩ = some u ∧ Rd w p.F c u
  | .gh S φ => (∀ b ∈ S, p.F b) ∧ φ w ∧ ∀ w', (∀ b ∈ S, w'.heap[b]? = w.heap[b]?) → φ w'
  | .nst T es h => ∃ q, Nest V ρ w p T es h q
  | .mix T es => (p.off = 0 ∧ p.ex) ∧ p.cap ≤ maxLen ∧ es.length ≤ p.cap ∧ (∀ e ∈ es, e.length = p.sz) ∧ (p.adr = none → p.cap = 0) ∧
      ∀ b, p.adr = some b → p.F b ∧ ∃ cur : Array Value, w.heap[b]? = some (.cells cur T (0, 0)) ∧ cur.size = p.cap * p.sz ∧
        ∀ i e j c, es[i]? = some e → e[j]? = some c → ∃ u, cur[i * p.sz + j]? = some u ∧ Rd w (fun k => p.F k ∧ p.adr ≠ some k) c u
  | .gx S φ => (∀ b ∈ S, p.F b) ∧ φ (fun k => p.F k ∧ k ∉ S) w ∧ ∀ w', (∀ b, p.F b → w'.heap[b]? = w.heap[b]?) → φ (fun k => p.F k ∧ k ∉ S) w'

/-- The blocks of a place that none else looks at. -/
def Blk.exc (p : At) : Blk → Nat → Prop
  | .ro _, _ => False
  | .mix _ _, b => p.adr = some b
  | .gx S _, b => b ∈ S
  | _, b => p.F b

def excH (H : Nat → Option Blk) (ρ : Nat → At) (f b : Nat) : Prop := ∃ blk, H f = some blk ∧ blk.exc (ρ f) b

theorem Holds.keep {V V' : Nat → Prop} {ρ ρ' : Nat → At} {w w' : World} {p : At} {blk : Blk} (hV : ∀ f, V f → V' f ∧ (ρ' f).nf = (ρ f).nf) (hw : ∀ b, p.F b → w'.heap[b]? = w.heap[b]?)
    (h : Holds V ρ w p blk) : Holds V' ρ' w' p blk := by
  cases blk with
  | box T cs =>
    obtain ⟨h0, b, vs, h1, h2, h3, h4⟩ := h
    exact ⟨h0, b, vs, h1, h2, by rw [hw b h2]; exact h3, h4.mono fun _ _ => CVr.mono hV⟩
  | row T es =>
    obtain ⟨h0, h1, h2, h3, h4, h5, h6⟩ := h
    refine ⟨h0, h1, h2, h3, h4, h5, fun b hb => ?_⟩
    obtain ⟨h7, cur, h8, h9⟩ := h6 b hb
    exact ⟨h7, cur, by rw [hw b h7]; exact h8, h9⟩
  | ro es =>
    obtain ⟨h0, h1, h2, h3, h6, h7⟩ := h
    refine ⟨h0, h1, h2, h3, h6, fun i e j c b h8 h9 hb => ?_⟩
    obtain ⟨u, h10, h11⟩ := h7 i e j c b h8 h9 hb
    obtain ⟨b', hb', hF⟩ := h6 (by intro e0; simp [e0] at h8)
    rw [hb] at hb'
    cases hb'
    exact ⟨u, (World.cell?_of_block (w := w) (hw b hF)).trans h10, h11.keep fun b hb => ⟨hb, hw b hb⟩⟩
  | gh S φ => exact ⟨h.1, h.2.2 w' (fun b hb => hw b (h.1 b hb)), fun w'' h' => h.2.2 w'' fun b hb => (h' b hb).trans (hw b (h.1 b hb))⟩
  | nst T es hh => obtain ⟨q, n⟩ := h; exact ⟨q, n.keep hV hw⟩
  | mix T es =>
    obtain ⟨h0, h1, h2, h3, h5, h6⟩ := h
    refine ⟨h0, h1, h2, h3, h5, fun b hb => ?_⟩
    obtain ⟨h7, cur, h8, h9, h10⟩ := h6 b hb
    refine ⟨h7, cur, by rw [hw b h7]; exact h8, h9, fun i e j c hi hj => ?_⟩
    obtain ⟨u, h11, h12⟩ := h10 i e j c hi hj
    exact ⟨u, h11, h12.keep fun k hk => ⟨hk, hw k hk.1⟩⟩
  | gx S φ => exact ⟨h.1, h.2.2 w' hw, fun w'' h' => h.2.2 w'' fun b hb => (h' b hb).trans (hw b hb)⟩

theorem Holds.exc {V : Nat → Prop} {ρ : Nat → At} {w : World} {p : At} {blk : Blk} (h : Holds V ρ w p blk) {b : Nat} (hb : blk.exc p b) : p.F b := by
  cases blk with
  | ro es => exact hb.elim
  | mix T es => obtain ⟨_, _, _, _, _, h6⟩ := h; exact (h6 b hb).1
  | gx S φ => exact h.1 b hb
  | box T cs => exact hb
  | row T es => exact hb
  | gh S φ => exact hb
  | nst T es x => exact hb

theorem exc_ro {p : At} {blk : Blk} (h : blk.own = false) {b : Nat} : ¬ blk.exc p b := by
  cases blk <;> first | exact id | cases h
theorem exc_shr {p : At} {blk : Blk} (ho : blk.own = true) {b : Nat} (hF : p.F b) (h : ¬ blk.exc p b) : blk.shr = true := by
  cases blk <;> first | rfl | exact absurd hF h | cases ho
theorem exc_own {p : At} {blk : Blk} {b : Nat} (h : blk.exc p b) : blk.own = true := by
  cases blk <;> first | rfl | exact h.elim

/-- The memory of a state. -/
structure Mem (V : Nat → Prop) (ρ : Nat → At) (G : Nat → Option Blk) (w : World) : Prop where
  dom : ∀ f blk, G f = some blk → V f ∧ Holds V ρ w (ρ f) blk ∧ ∀ b, (ρ f).F b → b < w.heap.size
  sep : ∀ f g blk blk', f ≠ g → G f = some blk → G g = some blk' → ∀ b, blk.exc (ρ f) b → ¬ (ρ g).F b

abbrev Heap := List (Nat × Option Blk)

def hget : Heap → Nat → Option Blk
  | [], _ => none
  | (g, x) :: H, f => if f = g then x else hget H f

def hput : Heap → Nat → Option Blk → Heap
  | [], f, b => [(f, b)]
  | (g, x) :: H, f, b => if f = g then (g, b) :: H else (g, x) :: hput H f b

theorem hget_hput (H : Heap) (f : Nat) (b : Option Blk) (g : Nat) : hget (hput H f b) g = if g = f then b else hget H g := by
  induction H with
  | nil => simp [hput, hget]
  | cons p H ih =>
    obtain ⟨k, x⟩ := p
    unfold hput
    by_cases h : f = k
    · subst h; simp [hget]; split <;> rfl
    · rw [if_neg h]
      simp only [hget, ih]
      by_cases h2 : g = k
      · subst h2; rw [if_pos rfl, if_pos rfl, if_neg (fun e => h e.symm)]
      · rw [if_neg h2, if_neg h2]

def hputs : Heap → List (Nat × Option Blk) → Heap
  | H, [] => H
  | H, (f, b) :: l => hputs (hput H f b) l

/-- What an operation does: its value, the blocks it looks at, the blocks it changes (none: given up), the next free number. -/
structure Eff where
  r : SV
  rd : List Nat
  wr : List (Nat × Option Blk)
  nx : Nat

/-- An effect that fits a state. -/
structure Fit (H : Heap) (nx : Nat) (e : Eff) : Prop where
  le : nx ≤ e.nx
  rd : ∀ f ∈ e.rd, ∃ blk, hget H f = some blk
  key : ∀ f b, (f, b) ∈ e.wr → f < e.nx ∧ (f < nx → f ∈ e.rd ∧ ∃ blk, hget H f = some blk ∧ blk.own = true)
  nodup : (e.wr.map (·.1)).Nodup

def looked (H : Heap) (rd : List Nat) (f : Nat) : Option Blk := if f ∈ rd then hget H f else none
def newV (V : Nat → Prop) (nx nx' : Nat) (f : Nat) : Prop := V f ∨ (nx ≤ f ∧ f < nx')

/-- The places of a state behind an effect: but for the blocks of the changed ones they are what they were. -/
def Same (ρ ρ' : Nat → At) (nx : Nat) (e : Eff) : Prop := ∀ f, f < nx ∨ e.nx ≤ f → (ρ' f).nf = (ρ f).nf ∧ (f ∉ e.wr.map (·.1) → ρ' f = ρ f)

theorem same_of {ρ ρ' : Nat → At} {nx : Nat} {e : Eff} (h : ∀ f, f < nx ∨ e.nx ≤ f → ρ' f = ρ f) : Same ρ ρ' nx e := fun f hf => ⟨congrArg At.nf (h f hf), fun _ => h f hf⟩

/-- What has become of a world. -/
structure Done (V : Nat → Prop) (ρ : Nat → At) (H : Heap) (nx : Nat) (w : World) (e : Eff) (u : Value) (ρ' : Nat → At) (w' : World) : Prop where
  same : Same ρ ρ' nx e
  val : SVr (newV V nx e.nx) ρ' e.r u
  mem : Mem (newV V nx e.nx) ρ' (hget e.wr) w'
  foot : ∀ f blk, hget e.wr f = some blk → ∀ b, (ρ' f).F b → w.heap.size ≤ b ∨ (∃ g x, (g, x) ∈ e.wr ∧ g < nx ∧ excH (hget H) ρ g b) ∨ (¬ blk.exc (ρ' f) b ∧ ∃ g ∈ e.rd, ∃ blk', hget H g = some blk' ∧ (ρ g).F b ∧ ¬ blk'.exc (ρ g) b)
  os : w'.os = w.os
  tape : w'.tape = w.tape
  output : w'.output = w.output
  size : w.heap.size ≤ w'.heap.size
  block : ∀ k, k < w.heap.size → (∀ g x, (g, x) ∈ e.wr → g < nx → ¬ excH (hget H) ρ g k) → w'.heap[k]? = w.heap[k]?

/-- The operation has this effect, wherever its operands are as told. -/
def EffOK (P : Program) (o : Oper) (ev : Operand → SV) (H : Heap) (nx : Nat) (e : Eff) : Prop :=
  ∀ (V : Nat → Prop) (ρ : Nat → At) (a : Act) (w : World) (K : Act → World → Prop) (Q : Exit → Act → World → Prop),
    (∀ f, nx ≤ f → f < e.nx → ¬ V f) → (∀ x, SVr V ρ (ev x) (a.eval x)) → Mem V ρ (looked H e.rd) w →
    (∀ u ρ' w', Done V ρ H nx w e u ρ' w' → K (a.put o.dst u) w') → o.wp P a w K Q

end Go.Proofs.Ytfnhchcgieeedaa

namespace Go.Proofs.Ytfnhchcgieeedaa
set_option linter.unusedSimpArgs false
set_option linter.unusedVariables false
set_option linter.defProp false
open Go.RowKit

/-- A state: slots, blocks; what the call may write (blocks from B on, and those in T); the world is w0 but for these. -/
structure St (V : Nat → Prop) (ρ : Nat → At) (sl : List SV) (H : Heap) (B : Nat) (T R : Nat → Prop) (w0 : World) (a : Act) (w : World) : Prop where
  slots : All2 (SVr V ρ) sl a.tmps.toList
  defers : a.defers = []
  mem : Mem V ρ (hget H) w
  base : ∀ f blk, hget H f = some blk → ∀ b, blk.exc (ρ f) b → B ≤ b ∨ T b
  foot : ∀ f blk, hget H f = some blk → ∀ b, (ρ f).F b → B ≤ b ∨ T b ∨ R b
  os : w.os = w0.os
  tape : w.tape = w0.tape
  output : w.output = w0.output
  size : w0.heap.size ≤ w.heap.size
  block : ∀ k, k < w0.heap.size → k < B → ¬ T k → w.heap[k]? = w0.heap[k]?
  le : B ≤ w0.heap.size

def svOf : Value → SV
  | .slice none 0 0 => .c .nil
  | .agg _ => .any
  | .tuple _ => .any
  | x => .c (.v x)

theorem svOf_r (V : Nat → Prop) (ρ : Nat → At) (x : Value) : SVr V ρ (svOf x) x := by
  unfold svOf
  split
  · rfl
  · trivial
  · trivial
  · rename_i h1 h2 h3
    refine ⟨rfl, ?_⟩
    cases x <;> first | rfl | (exfalso; first | exact h2 _ rfl | exact h3 _ rfl)

def evS (sl : List SV) : Operand → SV
  | .tmp t => (sl[t]?).getD .any
  | .const v => svOf v
  | _ => .any

theorem evS_r {V : Nat → Prop} {ρ : Nat → At} {sl : List SV} {a : Act} (h : All2 (SVr V ρ) sl a.tmps.toList) (x : Operand) : SVr V ρ (evS sl x) (a.eval x) := by
  cases x with
  | tmp t =>
    cases hs : sl[t]? with
    | none => simp only [evS, hs]; trivial
    | some s =>
      have e0 : evS sl (.tmp t) = s := by simp [evS, hs]
      rw [e0]
      obtain ⟨u, hu, hr⟩ := h.get hs
      have e : a.eval (.tmp t) = u := by
        have : a.tmps[t]? = some u := by simpa using hu
        simp [Act.eval, Array.getD_eq_getD_getElem?, this]
      rw [e]; exact hr
  | const v => exact svOf_r V ρ v
  | global g => trivial
  | func f => trivial

def putS (sl : List SV) : Option Tmp → SV → List SV
  | some d, r => sl.set d r
  | none, _ => sl

theorem putS_r {V : Nat → Prop} {ρ : Nat → At} {sl : List SV} {a : Act} (h : All2 (SVr V ρ) sl a.tmps.toList) (d : Option Tmp) {r : SV} {u : Value} (hr : SVr V ρ r u) :
    All2 (SVr V ρ) (putS sl d r) (a.put d u).tmps.toList := by
  cases d with
  | none => exact h
  | some d =>
    simp only [putS, Act.put, Array.toList_setIfInBounds]
    exact h.set d hr

theorem hput_keys (H : Heap) (l : List (Nat × Option Blk)) (hn : (l.map (·.1)).Nodup) (g : Nat) : hget (hputs H l) g = if g ∈ l.map (·.1) then hget l g else hget H g := by
  induction l generalizing H with
  | nil => simp [hputs]
  | cons p l ih =>
    obtain ⟨f, b⟩ := p
    simp only [List.map_cons, List.nodup_cons] at hn
    simp only [hputs]
    rw [ih _ hn.2, hget_hput]
    simp only [List.map_cons, List.mem_cons, hget]
    by_cases h1 : g = f
    · subst h1; simp [hn.1]
    · simp only [h1, if_false, false_or]

theorem hget_mem {l : Heap} {f : Nat} {x : Blk} (h : hget l f = some x) : (f, some x) ∈ l := by
  induction l with
  | nil => cases h
  | cons p l ih =>
    obtain ⟨g, y⟩ := p
    simp only [hget] at h
    split at h
    · rename_i e; subst e; subst h; exact List.mem_cons_self
    · exact List.mem_cons_of_mem _ (ih h)

theorem hget_none {l : Heap} {f : Nat} (h : f ∉ l.map (·.1)) : hget l f = none := by
  induction l with
  | nil => rfl
  | cons p l ih =>
    obtain ⟨g, y⟩ := p
    simp only [List.map_cons, List.mem_cons, not_or] at h
    simp only [hget, if_neg h.1]
    exact ih h.2

/-- An effect carries the memory on. -/
theorem Mem.step {V : Nat → Prop} {ρ ρ' : Nat → At} {H : Heap} {nx : Nat} {w w' : World} {e : Eff} {u : Value} (hm : Mem V ρ (hget H) w) (hf : Fit H nx e)
    (hd : Done V ρ H nx w e u ρ' w') (hV : ∀ f, V f → f < nx ∨ e.nx ≤ f) : Mem (newV V nx e.nx) ρ' (hget (hputs H e.wr)) w' := by
  have hρn : ∀ f, V f → newV V nx e.nx f ∧ (ρ' f).nf = (ρ f).nf := fun f h => ⟨.inl h, (hd.same f (hV f h)).1⟩
  have hρ : ∀ f, f ∉ e.wr.map (·.1) → V f → newV V nx e.nx f ∧ ρ' f = ρ f := fun f hf h => ⟨.inl h, (hd.same f (hV f h)).2 hf⟩
  have old : ∀ g, g ∉ e.wr.map (·.1) → ∀ blk, hget H g = some blk → ∀ b, (ρ g).F b → w'.heap[b]? = w.heap[b]? := by
    intro g hg blk hb b hF
    have h3 := (hm.dom g blk hb).2.2 b hF
    refine hd.block b h3 fun g' x hx hlt hF' => ?_
    obtain ⟨blk', hb', hx'⟩ := hF'
    have hne : g' ≠ g := fun e0 => hg (by subst e0; exact List.mem_map.2 ⟨_, hx, rfl⟩)
    exact hm.sep g' g blk' blk hne hb' hb b hx' hF
  have nn : ∀ f blk g blk', f ∈ e.wr.map (·.1) → hget e.wr f = some blk → g ∉ e.wr.map (·.1) → hget H g = some blk' → ∀ b, (blk.exc (ρ' f) b → ¬ (ρ' g).F b) ∧ (blk'.exc (ρ' g) b → ¬ (ρ' f).F b) := by
    intro f blk g blk' hf1 hf2 hg1 hg2 b
    obtain ⟨hVg, hHg, hlt⟩ := hm.dom g blk' hg2
    rw [(hρ g hg1 hVg).2]
    refine ⟨fun hx hF' => ?_, fun hx hF => ?_⟩
    · have hF := (hd.mem.dom f blk hf2).2.1.exc hx
      rcases hd.foot f blk hf2 b hF with h1 | ⟨g', x, h1, h2, blk2, h3, h4⟩ | ⟨h1, _⟩
      · have := hlt b hF'; omega
      · have hne : g' ≠ g := fun e0 => hg1 (by subst e0; exact List.mem_map.2 ⟨_, h1, rfl⟩)
        exact hm.sep g' g blk2 blk' hne h3 hg2 b h4 hF'
      · exact h1 hx
    · have hF' := hHg.exc hx
      rcases hd.foot f blk hf2 b hF with h1 | ⟨g', x, h1, h2, blk2, h3, h4⟩ | ⟨h1, g', h2, blk2, h3, h4, h5⟩
      · have := hlt b hF'; omega
      · have hne : g' ≠ g := fun e0 => hg1 (by subst e0; exact List.mem_map.2 ⟨_, h1, rfl⟩)
        exact hm.sep g' g blk2 blk' hne h3 hg2 b h4 hF'
      · by_cases e0 : g = g'
        · subst e0; rw [hg2] at h3; cases h3; exact h5 hx
        · exact hm.sep g g' blk' blk2 e0 hg2 h3 b hx h4
  constructor
  · intro f blk hb
    rw [hput_keys _ _ hf.nodup] at hb
    split at hb
    · exact hd.mem.dom f blk hb
    · rename_i hn
      obtain ⟨h1, h2, h3⟩ := hm.dom f blk hb
      obtain ⟨h4, h5⟩ := hρ f hn h1
      rw [h5]
      exact ⟨h4, h2.keep hρn (old f hn blk hb), fun b hF => Nat.lt_of_lt_of_le (h3 b hF) hd.size⟩
  · intro f g blk blk' hne hb hb' b hF hF'
    rw [hput_keys _ _ hf.nodup] at hb hb'
    split at hb
    · rename_i h1
      split at hb'
      · exact hd.mem.sep f g blk blk' hne hb hb' b hF hF'
      · rename_i h2
        exact (nn f blk g blk' h1 hb h2 hb' b).1 hF hF'
    · rename_i h1
      split at hb'
      · rename_i h2
        exact (nn g blk' f blk h2 hb' h1 hb b).2 hF hF'
      · rename_i h2
        obtain ⟨h3, _, _⟩ := hm.dom f blk hb
        obtain ⟨h4, _, _⟩ := hm.dom g blk' hb'
        rw [(hρ f h1 h3).2] at hF
        rw [(hρ g h2 h4).2] at hF'
        exact hm.sep f g blk blk' hne hb hb' b hF hF'

theorem Mem.look {V : Nat → Prop} {ρ : Nat → At} {H : Heap} {w : World} (h : Mem V ρ (hget H) w) (rd : List Nat) : Mem V ρ (looked H rd) w := by
  have e : ∀ f blk, looked H rd f = some blk → hget H f = some blk := by
    intro f blk hb; unfold looked at hb; split at hb
    · exact hb
    · cases hb
  exact ⟨fun f blk hb => h.dom f blk (e f blk hb), fun f g blk blk' hne hb hb' => h.sep f g blk blk' hne (e f blk hb) (e g blk' hb')⟩

/-- An operation's effect carries a state to a state. -/
theorem St.after {o : Oper} {V : Nat → Prop} {ρ : Nat → At} {sl : List SV} {H : Heap} {B : Nat} {T R : Nat → Prop} {w0 : World} {a : Act} {w : World} {nx : Nat} {e : Eff}
    (h : St V ρ sl H B T R w0 a w) (hV : ∀ f, V f → f < nx ∨ e.nx ≤ f) (hf : Fit H nx e) {u : Value} {ρ' : Nat → At} {w' : World} (hd : Done V ρ H nx w e u ρ' w') :
    St (newV V nx e.nx) ρ' (putS sl o.dst e.r) (hputs H e.wr) B T R w0 (a.put o.dst u) w' := by
  have hρ : ∀ f, V f → newV V nx e.nx f ∧ (ρ' f).nf = (ρ f).nf := fun f h => ⟨.inl h, (hd.same f (hV f h)).1⟩
  have fr : ∀ k, B ≤ k ∨ T k ∨ (k < w.heap.size → w'.heap[k]? = w.heap[k]?) := by
    intro k
    by_cases h1 : ∃ g x, (g, x) ∈ e.wr ∧ g < nx ∧ excH (hget H) ρ g k
    · obtain ⟨g, x, h2, h3, blk, h5, h4⟩ := h1
      rcases h.base g blk h5 k h4 with h7 | h7
      · exact .inl h7
      · exact .inr (.inl h7)
    · exact .inr (.inr fun hk => hd.block k hk fun g x h2 h3 h4 => h1 ⟨g, x, h2, h3, h4⟩)
  refine ⟨putS_r (h.slots.mono fun _ _ => SVr.mono hρ) o.dst hd.val, ?_, h.mem.step hf hd hV, ?_, ?_, hd.os.trans h.os, hd.tape.trans h.tape, hd.output.trans h.output, Nat.le_trans h.size hd.size, ?_, h.le⟩
  · cases ho : o.dst <;> simp [Act.put, h.defers]
  · intro f blk hb b hF
    rw [hput_keys _ _ hf.nodup] at hb
    split at hb
    · rcases hd.foot f blk hb b ((hd.mem.dom f blk hb).2.1.exc hF) with h1 | ⟨g', x, h1, h2, blk2, h3, h4⟩ | ⟨h1, _⟩
      · left; have := h.size; have := h.le; omega
      · exact h.base g' blk2 h3 b h4
      · exact absurd hF h1
    · rename_i hn
      rw [(hd.same f (hV f (h.mem.dom f blk hb).1)).2 hn] at hF
      exact h.base f blk hb b hF
  · intro f blk hb b hF
    rw [hput_keys _ _ hf.nodup] at hb
    split at hb
    · rcases hd.foot f blk hb b hF with h1 | ⟨g', x, h1, h2, blk2, h3, h4⟩ | ⟨_, g', h1, blk2, h3, h4, _⟩
      · left; have := h.size; have := h.le; omega
      · exact (h.base g' blk2 h3 b h4).imp id .inl
      · exact h.foot g' blk2 h3 b h4
    · rename_i hn
      rw [(hd.same f (hV f (h.mem.dom f blk hb).1)).2 hn] at hF
      exact h.foot f blk hb b hF
  · intro k hk hkB hT
    rcases fr k with h1 | h1 | h1
    · omega
    · exact absurd h1 hT
    · rw [h1 (Nat.lt_of_lt_of_le hk h.size)]; exact h.block k hk hkB hT

theorem St.stepS {P : Program} {o : Oper} {V : Nat → Prop} {ρ : Nat → At} {sl : List SV} {H : Heap} {B : Nat} {T R : Nat → Prop} {w0 : World} {a : Act} {w : World} {nx : Nat} {e : Eff}
    {K : Act → World → Prop} {Q : Exit → Act → World → Prop} (h : St V ρ sl H B T R w0 a w) (hV : ∀ f, V f → f < nx ∨ e.nx ≤ f) (hf : Fit H nx e) (hok : EffOK P o (evS sl) H nx e)
    (hK : ∀ a' w' ρ', St (newV V nx e.nx) ρ' (putS sl o.dst e.r) (hputs H e.wr) B T R w0 a' w' → (∀ f, f < nx ∨ e.nx ≤ f → (ρ' f).nf = (ρ f).nf) → K a' w') : o.wp P a w K Q := by
  refine hok V ρ a w K Q (fun f h1 h2 hv => ?_) (evS_r h.slots) (h.mem.look e.rd) fun u ρ' w' hd => hK _ w' ρ' (h.after (o := o) hV hf hd) fun f hf => (hd.same f hf).1
  have := hV f hv; omega

/-- The operation has one of these effects. -/
def EffsOK (P : Program) (o : Oper) (ev : Operand → SV) (H : Heap) (nx : Nat) {I : Type} (rd : List Nat) (e : I → Eff) : Prop :=
  ∀ (V : Nat → Prop) (ρ : Nat → At) (a : Act) (w : World) (K : Act → World → Prop) (Q : Exit → Act → World → Prop),
    (∀ f, nx ≤ f → ¬ V f) → (∀ x, SVr V ρ (ev x) (a.eval x)) → Mem V ρ (looked H rd) w →
    (∀ i u ρ' w', Done V ρ H nx w (e i) u ρ' w' → K (a.put o.dst u) w') → o.wp P a w K Q

theorem EffOK.fam {P : Program} {o : Oper} {ev : Operand → SV} {H : Heap} {nx : Nat} {e : Eff} (h : EffOK P o ev H nx e) : EffsOK P o ev H nx e.rd fun _ : Unit => e :=
  fun V ρ a w K Q hV hev hm hK => h V ρ a w K Q (fun f h1 _ => hV f h1) hev hm fun u ρ' w' hd => hK () u ρ' w' hd

theorem St.stepF {P : Program} {o : Oper} {V : Nat → Prop} {ρ : Nat → At} {sl : List SV} {H : Heap} {B : Nat} {T R : Nat → Prop} {w0 : World} {a : Act} {w : World} {nx : Nat} {I : Type} {rd : List Nat} {e : I → Eff}
    {K : Act → World → Prop} {Q : Exit → Act → World → Prop} (h : St V ρ sl H B T R w0 a w) (hV : ∀ f, V f → f < nx) (hf : ∀ i, Fit H nx (e i)) (hok : EffsOK P o (evS sl) H nx rd e)
    (hK : ∀ i a' w' ρ', St (newV V nx (e i).nx) ρ' (putS sl o.dst (e i).r) (hputs H (e i).wr) B T R w0 a' w' → (∀ f, f < nx ∨ (e i).nx ≤ f → (ρ' f).nf = (ρ f).nf) → K a' w') : o.wp P a w K Q := by
  refine hok V ρ a w K Q (fun f h1 hv => ?_) (evS_r h.slots) (h.mem.look rd) fun i u ρ' w' hd => hK i _ w' ρ' (h.after (o := o) (fun f hf => .inl (hV f hf)) (hf i) hd) fun f hf => (hd.same f hf).1
  have := hV f hv; omega

end Go.Proofs.Ytfnhchcgieeedaa

namespace Go.Proofs.Ytfnhchcgieeedaa
set_option linter.unusedSimpArgs false
set_option linter.unusedVariables false
set_option linter.defProp false
open Go.RowKit

inductive TD where
  | int (k : IntKind)
  | bool
  | str
  | slice (e : Nat)
  | struct (fs : List (Nat × Nat × Bool))
  | other

structure TI where
  d : TD
  size : Nat
  bytes : Nat
  zero : List CV
  row : Bool

def cvOf : Value → CV
  | .slice none 0 0 => .nil
  | x => .v x

def isRowD : Option TypeDesc → Bool
  | some (.struct _) => true
  | some (.array ..) => true
  | _ => false

def szOf (P : Program) (t : TypeId) : Nat := if (P.underlying t).isSome then ((P.info? t).map (·.size)).getD 0 else 0

def tdOf (P : Program) : TypeDesc → TD
  | .int k => .int k
  | .bool => .bool
  | .string => .str
  | .slice e => .slice e
  | .struct fs => .struct (fs.toList.map fun f => (f.offset, szOf P f.type, isRowD (P.underlying f.type)))
  | _ => .other

def tiOf (P : Program) (t : TypeId) : Option TI :=
  match P.info? t, P.underlying t with
  | some i, some d => match i.zero with
    | some z => if z.cells.toList.all (·.oneCell') && z.cells.size == i.size then some ⟨tdOf P d, i.size, i.bytes, z.cells.toList.map cvOf, isRowD (some d)⟩ else none
    | none => none
  | _, _ => none

theorem tiOf_inv {P : Program} {t : TypeId} {ti : TI} (h : tiOf P t = some ti) :
    ∃ i d z, P.info? t = some i ∧ P.underlying t = some d ∧ (i.zero = some z ∧ (∀ x ∈ z.cells.toList, x.oneCell' = true) ∧ z.cells.size = i.size) ∧ ti = ⟨tdOf P d, i.size, i.bytes, z.cells.toList.map cvOf, isRowD (some d)⟩ := by
  unfold tiOf at h
  split at h
  · rename_i i d h1 h2
    split at h
    · rename_i z h3
      split at h
      · rename_i hc
        simp only [Bool.and_eq_true, List.all_eq_true, beq_iff_eq] at hc
        exact ⟨i, d, z, h1, h2, ⟨h3, hc.1, hc.2⟩, (Option.some.inj h).symm⟩
      · cases h
    · cases h
  · cases h

/-- The cells of a type: slices and others. -/
def shpOf (P : Program) : Nat → TypeId → List (Option (Nat × Nat))
  | 0, _ => []
  | d + 1, t => match P.underlying t with
    | some (.slice e) => [some (e, szOf P e)]
    | some (.struct fs) => fs.toList.flatMap fun f => shpOf P d f.type
    | _ => [none]

def nzL : List (Option (Nat × Nat)) → List Value → Option (List DC)
  | [], [] => some []
  | some (T, sz) :: l, .slice none 0 0 :: m => (nzL l m).map (.sl T sz [] :: ·)
  | none :: l, x :: m => (nzL l m).map (.v x :: ·)
  | _, _ => none

/-- The zero of a type as data. -/
def nzT (P : Program) (t : TypeId) : Option (List DC) := (P.info? t).bind fun i => i.zero.bind fun z => nzL (shpOf P 4 t) z.cells.toList

def nzC : DC → Value → Prop
  | .v x, u => u = x
  | .sl _ _ es, u => es = [] ∧ u = .slice none 0 0

theorem nzL_r : ∀ {s : List (Option (Nat × Nat))} {l : List Value} {d : List DC}, nzL s l = some d → All2 nzC d l
  | [], [], d, h => by cases h; trivial
  | [], _ :: _, d, h => by simp [nzL] at h
  | some _ :: _, [], d, h => by simp [nzL] at h
  | none :: _, [], d, h => by simp [nzL] at h
  | none :: s, x :: l, d, h => by
    simp only [nzL, Option.map_eq_some_iff] at h
    obtain ⟨d', h1, rfl⟩ := h
    exact ⟨rfl, nzL_r h1⟩
  | some (T, sz) :: s, x :: l, d, h => by
    unfold nzL at h
    split at h
    · rename_i e1 e2; cases e1
    · rename_i e1 e2
      simp only [List.cons.injEq, Option.some.injEq, Prod.mk.injEq] at e1 e2
      obtain ⟨d', h1, rfl⟩ := Option.map_eq_some_iff.1 h
      obtain ⟨rfl, rfl⟩ := e2
      obtain ⟨_, rfl⟩ := e1
      exact ⟨⟨rfl, rfl⟩, nzL_r h1⟩
    · rename_i e1 e2; simp at e1
    · cases h

theorem nzT_inv {P : Program} {t : TypeId} {d : List DC} (h : nzT P t = some d) : ∃ i z, P.info? t = some i ∧ i.zero = some z ∧ All2 nzC d z.cells.toList := by
  unfold nzT at h
  obtain ⟨i, h1, h2⟩ := Option.bind_eq_some_iff.1 h
  obtain ⟨z, h3, h4⟩ := Option.bind_eq_some_iff.1 h2
  exact ⟨i, z, h1, h3, nzL_r h4⟩

theorem td_int {P : Program} {d : TypeDesc} {k : IntKind} (h : tdOf P d = .int k) : d = .int k := by
  unfold tdOf at h; split at h <;> simp_all
theorem td_str {P : Program} {d : TypeDesc} (h : tdOf P d = .str) : d = .string := by
  unfold tdOf at h; split at h <;> simp_all
theorem td_bool {P : Program} {d : TypeDesc} (h : tdOf P d = .bool) : d = .bool := by
  unfold tdOf at h; split at h <;> simp_all
theorem td_slice {P : Program} {d : TypeDesc} {e : Nat} (h : tdOf P d = .slice e) : d = .slice e := by
  unfold tdOf at h; split at h <;> simp_all
theorem td_struct {P : Program} {d : TypeDesc} {fs : List (Nat × Nat × Bool)} (h : tdOf P d = .struct fs) :
    ∃ fields : Array Field, d = .struct fields ∧ fs = fields.toList.map fun f => (f.offset, szOf P f.type, isRowD (P.underlying f.type)) := by
  unfold tdOf at h; split at h <;> simp_all

def inI (k : IntKind) (x : Int) : Prop :=
  match k with
  | .i64 => -9223372036854775808 ≤ x ∧ x ≤ 9223372036854775807
  | .u8 => 0 ≤ x ∧ x ≤ 255
  | .u32 => 0 ≤ x ∧ x ≤ 4294967295
  | _ => False

theorem inI_wrap {k : IntKind} {x : Int} (h : inI k x) : k.wrap x = x := by
  cases k <;> first | exact IntWalk.i64_in _ h | exact IntWalk.u8_in _ h | exact IntWalk.u32_in _ h | exact h.elim

/-- One number out of two; 'ck': sums must be in range. -/
def arithK (ck : Bool) (op : BinOp) (k : IntKind) (x y : Int) (K : Value → Prop) : Prop :=
  match op with
  | .add => match ck with | true => inI k (x + y) ∧ K (.int k (x + y)) | false => K (.int k (k.wrap (x + y)))
  | .sub => match ck with | true => inI k (x - y) ∧ K (.int k (x - y)) | false => K (.int k (k.wrap (x - y)))
  | .mul => match ck with | true => inI k (x * y) ∧ K (.int k (x * y)) | false => K (.int k (k.wrap (x * y)))
  | .quo => match ck with | true => (0 < y ∧ 0 ≤ x ∧ inI k x) ∧ K (.int k (x / y)) | false => y ≠ 0 ∧ K (.int k (k.wrap (x.tdiv y)))
  | .rem => match ck with | true => (0 < y ∧ 0 ≤ x) ∧ K (.int k (x % y)) | false => y ≠ 0 ∧ K (.int k (x.tmod y))
  | .and => K (.int k (bits .and k x y))
  | .or => K (.int k (bits .or k x y))
  | .xor => K (.int k (bits .xor k x y))
  | .andNot => K (.int k (bits .andNot k x y))
  | .eql => K (.bool (x == y))
  | .neq => K (.bool (x != y))
  | .lss => K (.bool (decide (x < y)))
  | .leq => K (.bool (decide (x ≤ y)))
  | .gtr => K (.bool (decide (y < x)))
  | .geq => K (.bool (decide (y ≤ x)))
  | _ => False

def shiftK (ck : Bool) (op : BinOp) (k : IntKind) (x y : Int) (K : Value → Prop) : Prop :=
  match op with
  | .shl => 0 ≤ y ∧ match ck with
    | true => inI k (x * 2 ^ (min y.toNat k.bits)) ∧ K (.int k (x * 2 ^ (min y.toNat k.bits)))
    | false => K (.int k (k.wrap (x * 2 ^ (min y.toNat k.bits))))
  | .shr => 0 ≤ y ∧ K (.int k (x.fdiv (2 ^ (min y.toNat k.bits))))
  | _ => False

/-- values of the type, two numbers each, are compared number by number -/
def eqTwo (P : Program) (t : TypeId) : Prop := P.eqGuardType P.depth t = false ∧ ∀ (a b c d : Int) w, (Op.equalIn 10000 t (.agg #[.int .i64 a, .int .i64 b]) (.agg #[.int .i64 c, .int .i64 d])).run P w = .ok (a == c && b == d) w

/-- values of the type, five numbers each, are compared number by number -/
def eqFive (P : Program) (t : TypeId) : Prop := P.eqGuardType P.depth t = false ∧ ∀ (a b c d e a' b' c' d' e' : Int) w,
  (Op.equalIn 10000 t (.agg #[.int .i64 a, .int .i64 b, .int .i64 c, .int .i64 d, .int .i64 e]) (.agg #[.int .i64 a', .int .i64 b', .int .i64 c', .int .i64 d', .int .i64 e'])).run P w = .ok (a == a' && b == b' && c == c' && d == d' && e == e') w

def binK (P : Program) (ck : Bool) (op : BinOp) (t : TypeId) (a b : SV) (K : Value → Prop) : Prop :=
  match op, a, b with
  | .shl, .c (.v (.int k x)), .c (.v (.int _ y)) => shiftK ck .shl k x y K
  | .shr, .c (.v (.int k x)), .c (.v (.int _ y)) => shiftK ck .shr k x y K
  | op, .c (.v (.int k x)), .c (.v (.int k' y)) => k = k' ∧ arithK ck op k x y K
  | .eql, .c (.v (.string x)), .c (.v (.string y)) => K (.bool (x.toList == y.toList))
  | .neq, .c (.v (.string x)), .c (.v (.string y)) => K (.bool (!(x.toList == y.toList)))
  | .add, .c (.v (.string x)), .c (.v (.string y)) => x.size + y.size ≤ 1099511627776 ∧ K (.string (x ++ y))
  | .eql, .c (.v (.bool x)), .c (.v (.bool y)) => (∃ ti, tiOf P t = some ti ∧ ti.d = .bool) ∧ K (.bool (x == y))
  | .neq, .c (.v (.bool x)), .c (.v (.bool y)) => (∃ ti, tiOf P t = some ti ∧ ti.d = .bool) ∧ K (.bool (x != y))
  | .eql, .agg [.v (.int .i64 x), .v (.int .i64 y)], .agg [.v (.int .i64 x'), .v (.int .i64 y')] => eqTwo P t ∧ K (.bool (x == x' && y == y'))
  | .neq, .agg [.v (.int .i64 a), .v (.int .i64 b), .v (.int .i64 c), .v (.int .i64 d), .v (.int .i64 e)], .agg [.v (.int .i64 a'), .v (.int .i64 b'), .v (.int .i64 c'), .v (.int .i64 d'), .v (.int .i64 e')] =>
    eqFive P t ∧ K (.bool (!(a == a' && b == b' && c == c' && d == d' && e == e')))
  | .lss, .c (.v (.string x)), .c (.v (.string y)) => K (.bool (Op.bytesLess x.toList y.toList))
  | .geq, .c (.v (.string x)), .c (.v (.string y)) => K (.bool (!(Op.bytesLess x.toList y.toList)))
  | .gtr, .c (.v (.string x)), .c (.v (.string y)) => K (.bool (!(Op.bytesLess x.toList y.toList || x.toList == y.toList)))
  | _, _, _ => False

theorem arithK_ok {P : Program} {ck : Bool} {op : BinOp} {k : IntKind} {x y : Int} {K : Value → Prop} (h : arithK ck op k x y K) (h1 : op ≠ .shl) (h2 : op ≠ .shr) (t : TypeId) :
    ∃ u, u.oneCell' = true ∧ K u ∧ ∀ w, (binOp op t (.int k x) (.int k y)).run P w = .ok u w := by
  cases op <;> simp only [arithK] at h <;> try exact h.elim
  all_goals try exact absurd rfl h1
  all_goals try exact absurd rfl h2
  case add =>
    cases ck with
    | true => exact ⟨_, rfl, h.2, fun w => by simp [binOp, Op.intArith, inI_wrap h.1]⟩
    | false => exact ⟨_, rfl, h, fun w => by simp [binOp, Op.intArith]⟩
  case sub =>
    cases ck with
    | true => exact ⟨_, rfl, h.2, fun w => by simp [binOp, Op.intArith, inI_wrap h.1]⟩
    | false => exact ⟨_, rfl, h, fun w => by simp [binOp, Op.intArith]⟩
  case mul =>
    cases ck with
    | true => exact ⟨_, rfl, h.2, fun w => by simp [binOp, Op.intArith, inI_wrap h.1]⟩
    | false => exact ⟨_, rfl, h, fun w => by simp [binOp, Op.intArith]⟩
  case quo =>
    cases ck with
    | true =>
      obtain ⟨⟨hy, hx, hi⟩, ha⟩ := h
      have hne : y ≠ 0 := by omega
      have e : k.wrap (x.tdiv y) = x / y := by
        rw [Int.tdiv_eq_ediv_of_nonneg hx]
        apply inI_wrap
        have e1 : 0 ≤ x / y := Int.ediv_nonneg hx (by omega)
        have e2 : x / y ≤ x := Int.ediv_le_self _ hx
        cases k <;> simp only [inI] at hi ⊢ <;> omega
      exact ⟨_, rfl, ha, fun w => by simp [binOp, Op.intDiv, hne, e]⟩
    | false => exact ⟨_, rfl, h.2, fun w => by simp [binOp, Op.intDiv, h.1]⟩
  case rem =>
    cases ck with
    | true =>
      obtain ⟨⟨hy, hx⟩, ha⟩ := h
      have hne : y ≠ 0 := by omega
      exact ⟨_, rfl, ha, fun w => by simp [binOp, Op.intDiv, hne, Int.tmod_eq_emod_of_nonneg hx]⟩
    | false => exact ⟨_, rfl, h.2, fun w => by simp [binOp, Op.intDiv, h.1]⟩
  all_goals
    refine ⟨_, rfl, h, fun w => ?_⟩
    first
      | rfl
      | (simp [binOp, Op.intCmp]; done)
      | (simp [binOp]; rfl)

theorem eqGuard_int {P : Program} (op : BinOp) (t : TypeId) (ox oy : Operand) (k k' : IntKind) (x y : Int) (w : World) : (eqGuard op t ox oy (.int k x) (.int k' y)).run P w = .ok () w := by
  unfold eqGuard; split <;> simp

theorem eqGuard_bool {P : Program} (op : BinOp) (t : TypeId) (ox oy : Operand) (x y : Bool) (w : World) : (eqGuard op t ox oy (.bool x) (.bool y)).run P w = .ok () w := by
  unfold eqGuard; split <;> simp

theorem binK_ok {P : Program} {ck : Bool} {op : BinOp} {t : TypeId} {a b : SV} {K : Value → Prop} (h : binK P ck op t a b K) :
    ∃ u, u.oneCell' = true ∧ K u ∧ ∀ (V : Nat → Prop) (ρ : Nat → At) x y, SVr V ρ a x → SVr V ρ b y → ∀ (ox oy : Operand) w, (do eqGuard op t ox oy x y; binOp op t x y : Sem Value).run P w = .ok u w := by
  unfold binK at h
  split at h
  · rename_i k x k' y
    simp only [shiftK] at h
    obtain ⟨hy, h⟩ := h
    cases ck with
    | true => exact ⟨_, rfl, h.2, fun V ρ x' y' hx' hy' ox oy w => by
        rw [hx'.1, hy'.1]; simp [eqGuard, binOp, Op.shift, show ¬ y < 0 by omega, inI_wrap h.1]⟩
    | false => exact ⟨_, rfl, h, fun V ρ x' y' hx' hy' ox oy w => by
        rw [hx'.1, hy'.1]; simp [eqGuard, binOp, Op.shift, show ¬ y < 0 by omega]⟩
  · rename_i k x k' y
    simp only [shiftK] at h
    exact ⟨_, rfl, h.2, fun V ρ x' y' hx' hy' ox oy w => by
      rw [hx'.1, hy'.1]; simp [eqGuard, binOp, Op.shift, show ¬ y < 0 by omega]⟩
  · rename_i op k x k' y n1 n2
    obtain ⟨rfl, h⟩ := h
    obtain ⟨u, h1, h2, h3⟩ := arithK_ok (P := P) h (by rintro rfl; exact n1 rfl) (by rintro rfl; exact n2 rfl) t
    exact ⟨u, h1, h2, fun V ρ x' y' hx' hy' ox oy w => by
      rw [hx'.1, hy'.1]
      rw [Sem.run_bind, eqGuard_int]; exact h3 w⟩
  · rename_i x y
    exact ⟨_, rfl, h, fun V ρ x' y' hx' hy' ox oy w => by rw [hx'.1, hy'.1]; simp [eqGuard, binOp, Op.stringOp]⟩
  · rename_i x y
    exact ⟨_, rfl, h, fun V ρ x' y' hx' hy' ox oy w => by rw [hx'.1, hy'.1]; simp [eqGuard, binOp, Op.stringOp]⟩
  · rename_i x y
    exact ⟨_, rfl, h.2, fun V ρ x' y' hx' hy' ox oy w => by
      have h0 := h.1
      rw [hx'.1, hy'.1]; simp [eqGuard, binOp, Op.stringOp, IntKind.max, IntKind.signed, IntKind.bits]; omega⟩
  · rename_i x y
    obtain ⟨⟨ti, h1, h2⟩, h⟩ := h
    obtain ⟨i, d, z, e1, e2, e3, rfl⟩ := tiOf_inv h1
    have hd := td_bool h2
    subst hd
    exact ⟨_, rfl, h, fun V ρ x' y' hx' hy' ox oy w => by
      rw [hx'.1, hy'.1, Sem.run_bind, eqGuard_bool]; exact run_eql_bool w t x y e2⟩
  · rename_i x y
    obtain ⟨⟨ti, h1, h2⟩, h⟩ := h
    obtain ⟨i, d, z, e1, e2, e3, rfl⟩ := tiOf_inv h1
    have hd := td_bool h2
    subst hd
    exact ⟨_, rfl, h, fun V ρ x' y' hx' hy' ox oy w => by
      rw [hx'.1, hy'.1, Sem.run_bind, eqGuard_bool]; exact run_neq_bool w t x y e2⟩
  · rename_i x y x' y'
    obtain ⟨⟨h1, h2⟩, h⟩ := h
    exact ⟨_, rfl, h, fun V ρ u v hu hv ox oy w => by
      obtain ⟨us, rfl, hu⟩ := hu
      obtain ⟨vs, rfl, hv⟩ := hv
      have two : ∀ {ws : List Value} {p q : Int}, All2 (CVr V ρ) [.v (.int .i64 p), .v (.int .i64 q)] ws → ws = [.int .i64 p, .int .i64 q] := fun {ws p q} hw => by
        match ws, hw with
        | [a, b], hw =>
          have ha : CVr V ρ (.v (.int .i64 p)) a := hw.1
          have hb : CVr V ρ (.v (.int .i64 q)) b := hw.2.1
          rw [ha.1, hb.1]
      rw [two hu, two hv]
      have hg : (eqGuard .eql t ox oy (.agg #[.int .i64 x, .int .i64 y]) (.agg #[.int .i64 x', .int .i64 y'])).run P w = .ok () w := by
        unfold eqGuard
        simp [h1]
      rw [Sem.run_bind, hg]
      show (binOp .eql t _ _).run P w = _
      rw [run_eql_struct, h2]
      rfl⟩
  · rename_i a b c d e a' b' c' d' e'
    obtain ⟨⟨h1, h2⟩, h⟩ := h
    exact ⟨_, rfl, h, fun V ρ u v hu hv ox oy w => by
      obtain ⟨us, rfl, hu⟩ := hu
      obtain ⟨vs, rfl, hv⟩ := hv
      have five : ∀ {ws : List Value} {p q r s t : Int}, All2 (CVr V ρ) [.v (.int .i64 p), .v (.int .i64 q), .v (.int .i64 r), .v (.int .i64 s), .v (.int .i64 t)] ws → ws = [.int .i64 p, .int .i64 q, .int .i64 r, .int .i64 s, .int .i64 t] := fun {ws p q r s t} hw => by
        match ws, hw with
        | [a, b, c, d, e], hw =>
          have ha : CVr V ρ (.v (.int .i64 p)) a := hw.1
          have hb : CVr V ρ (.v (.int .i64 q)) b := hw.2.1
          have hc : CVr V ρ (.v (.int .i64 r)) c := hw.2.2.1
          have hd : CVr V ρ (.v (.int .i64 s)) d := hw.2.2.2.1
          have he : CVr V ρ (.v (.int .i64 t)) e := hw.2.2.2.2.1
          rw [ha.1, hb.1, hc.1, hd.1, he.1]
      rw [five hu, five hv]
      have hg : (eqGuard .neq t ox oy (.agg #[.int .i64 a, .int .i64 b, .int .i64 c, .int .i64 d, .int .i64 e]) (.agg #[.int .i64 a', .int .i64 b', .int .i64 c', .int .i64 d', .int .i64 e'])).run P w = .ok () w := by
        unfold eqGuard
        simp [h1]
      rw [Sem.run_bind, hg]
      show (binOp .neq t _ _).run P w = _
      rw [run_neq_struct, h2]
      rfl⟩
  · rename_i x y
    exact ⟨_, rfl, h, fun V ρ x' y' hx' hy' ox oy w => by rw [hx'.1, hy'.1]; simp [eqGuard, binOp, Op.stringOp]⟩
  · rename_i x y
    exact ⟨_, rfl, h, fun V ρ x' y' hx' hy' ox oy w => by rw [hx'.1, hy'.1]; simp [eqGuard, binOp, Op.stringOp]⟩
  · rename_i x y
    exact ⟨_, rfl, h, fun V ρ x' y' hx' hy' ox oy w => by rw [hx'.1, hy'.1]; simp [eqGuard, binOp, Op.stringOp]⟩
  · exact h.elim

def cellsOf : SV → Option (List CV)
  | .c x => some [x]
  | .agg l => some l
  | _ => none

theorem cellsOf_r {V : Nat → Prop} {ρ : Nat → At} {x : SV} {l : List CV} {u : Value} (h : cellsOf x = some l) (hr : SVr V ρ x u) : All2 (CVr V ρ) l u.cells.toList := by
  cases x with
  | any => cases h
  | tup l => cases h
  | c x =>
    cases h
    have h1 : CVr V ρ x u := hr
    have h2 := h1.one
    have : u.cells = #[u] := by cases u <;> first | rfl | (exfalso; simp [Value.oneCell'] at h2)
    rw [this]; exact ⟨h1, trivial⟩
  | agg l =>
    cases h
    obtain ⟨vs, rfl, h2⟩ := hr
    exact h2

/-- a value of a type of 'n' cells out of a row of cells -/
def partS (n : Nat) (row : Bool) (cs : List CV) (c : Nat) : Option SV :=
  if row then (if c + n ≤ cs.length then some (.agg ((cs.drop c).take n)) else none) else (cs[c]?).map .c

def splice (cs : List CV) (c : Nat) (l : List CV) : List CV := cs.take c ++ l ++ cs.drop (c + l.length)

def fillS (place : Nat → Option (Nat × Nat)) (cs : List CV) : List (Nat × List CV) → Option (List CV)
  | [] => some cs
  | (i, l) :: rest => match place i with
    | none => none
    | some (off, n) => if l.length = n ∧ off + n ≤ cs.length then fillS place (splice cs off l) rest else none

def partsOf (ev : Operand → SV) : List (Nat × Operand) → Option (List (Nat × List CV))
  | [] => some []
  | (i, x) :: rest => match cellsOf (ev x), partsOf ev rest with
    | some l, some r => some ((i, l) :: r)
    | _, _ => none

/-- Operations that touch no memory. -/
def pureK (P : Program) (ck : Bool) (o : Oper) (ev : Operand → SV) (K : SV → Prop) : Prop :=
  match o.op with
  | .move x => K (ev x)
  | .assign x => K (ev x)
  | .pick c a b => match ev c with
    | .c (.v (.bool t)) => (t = true → K (ev a)) ∧ (t = false → K (ev b))
    | _ => False
  | .binOp op t x y _ => binK P ck op t (ev x) (ev y) fun u => K (.c (.v u))
  | .unOp op _ x => match op, ev x with
    | .not, .c (.v (.bool b)) => K (.c (.v (.bool !b)))
    | .neg, .c (.v (.int k n)) => inI k (0 - n) ∧ K (.c (.v (.int k (0 - n))))
    | .xor, .c (.v (.int k n)) => K (.c (.v (.int k (bits .xor k (if k.signed then -1 else k.max) n))))
    | _, _ => False
  | .convert src dst x => match ev x with
    | .c (.v (.int _ n)) => (∃ ts, tiOf P src = some ts) ∧ ∃ ti k, tiOf P dst = some ti ∧ ti.d = .int k ∧ match ck, k with
      | true, .i64 => inI .i64 n ∧ K (.c (.v (.int .i64 n)))
      | _, k => K (.c (.v (.int k (k.wrap n))))
    | _ => False
  | .fieldAddr s x f => match ev x with
    | .c (.ptr g i c) => ∃ ti fs off n r, tiOf P s = some ti ∧ ti.d = .struct fs ∧ fs[f]? = some (off, n, r) ∧ n ≠ 0 ∧ K (.c (.ptr g i (c + off)))
    | _ => False
  | .field s x f => match ev x with
    | .agg l => ∃ ti fs off n r y, tiOf P s = some ti ∧ ti.d = .struct fs ∧ fs[f]? = some (off, n, r) ∧ n ≠ 0 ∧ partS n r l off = some y ∧ K y
    | _ => False
  | .indexAddr t x ix => match ev x, ev ix with
    | .c (.sl g sz b n), .c (.v (.int _ k)) => ∃ ti e te, tiOf P t = some ti ∧ ti.d = .slice e ∧ tiOf P e = some te ∧ te.size = sz ∧ (0 ≤ k ∧ k < n) ∧ K (.c (.ptr g (b + k.toNat) 0))
    | _, _ => False
  | .index t x ix => match ev x, ev ix with
    | .c (.v (.string s)), .c (.v (.int _ k)) => (∃ ti, tiOf P t = some ti ∧ ti.d = .str) ∧ (0 ≤ k ∧ k < s.size) ∧ K (.c (.v (.int .u8 ((s.data.toList.getD k.toNat 0).toNat : Int))))
    | _, _ => False
  | .slice t x lo hi none => match ev x with
    | .c (.sl g sz b n) => ∃ ti e te l h, tiOf P t = some ti ∧ ti.d = .slice e ∧ tiOf P e = some te ∧ te.size = sz ∧
        (match lo with | none => l = 0 | some y => ∃ k, ev y = .c (.v (.int k (l : Nat)))) ∧ (match hi with | none => h = n | some y => ∃ k, ev y = .c (.v (.int k (h : Nat)))) ∧
        l ≤ h ∧ h ≤ n ∧ K (.c (.sl g sz (b + l) (h - l)))
    | .c .nil => (∃ ti e te, tiOf P t = some ti ∧ ti.d = .slice e ∧ tiOf P e = some te) ∧
        (match lo with | none => True | some y => ∃ k, ev y = .c (.v (.int k 0))) ∧ (match hi with | none => True | some y => ∃ k, ev y = .c (.v (.int k 0))) ∧ K (.c .nil)
    | _ => False
  | .extract t i => match ev t with
    | .tup l => match l[i]? with
      | some (.inl x) => K (.c x)
      | some (.inr l) => K (.agg l)
      | none => False
    | _ => False
  | .nilCheck x => match ev x with
    | .c (.ptr f i c) => K (.c (.ptr f i c))
    | _ => False
  | .build t parts => ∃ ti fs cs, tiOf P t = some ti ∧ ti.d = .struct fs ∧ (fs.all fun p => p.2.1 != 0) = true ∧ ((partsOf ev parts.toList).bind fun l => fillS (fun i => (fs[i]?).map fun p => (p.1, p.2.1)) ti.zero l) = some cs ∧ K (.agg cs)
  | .call c => match c.callee, c.args.toList, c.argTypes.toList with
    | .builtin .len, [x], [t] => match ev x with
      | .c (.sl _ _ _ n) => (∃ ti e, tiOf P t = some ti ∧ ti.d = .slice e) ∧ K (.c (.v (.int .i64 n)))
      | .c .nil => (∃ ti e, tiOf P t = some ti ∧ ti.d = .slice e) ∧ K (.c (.v (.int .i64 0)))
      | .c (.v (.string s)) => (∃ ti, tiOf P t = some ti ∧ ti.d = .str) ∧ K (.c (.v (.int .i64 s.size)))
      | _ => False
    | .builtin .min, [x, y], _ => match ev x, ev y with
      | .c (.v (.int k a)), .c (.v (.int _ b)) => K (.c (.v (.int k (min a b))))
      | _, _ => False
    | .builtin .max, [x, y], _ => match ev x, ev y with
      | .c (.v (.int k a)), .c (.v (.int _ b)) => K (.c (.v (.int k (max a b))))
      | _, _ => False
    | _, _, _ => False
  | _ => False

def PureOK (P : Program) (o : Oper) (ev : Operand → SV) (r : SV) : Prop :=
  ∀ (V : Nat → Prop) (ρ : Nat → At) (a : Act), (∀ x, SVr V ρ (ev x) (a.eval x)) → ∃ u, SVr V ρ r u ∧ ∀ w, (execOp a.eval o).run P w = .ok (.value u) w

theorem PureOK.eff {P : Program} {o : Oper} {ev : Operand → SV} {r : SV} (h : PureOK P o ev r) (H : Heap) (nx : Nat) : EffOK P o ev H nx ⟨r, [], [], nx⟩ := by
  intro V ρ a w K Q hV hev hm hK
  obtain ⟨u, h1, h2⟩ := h V ρ a hev
  unfold Oper.wp
  rw [h2 w]
  refine hK u ρ w ⟨same_of fun _ _ => rfl, h1.mono fun f hf => ⟨.inl hf, rfl⟩, ⟨fun f blk hb => (by cases hb), fun f g blk blk' _ hb => (by cases hb)⟩, fun f blk hb => (by cases hb), rfl, rfl, rfl, Nat.le_refl _, fun _ _ _ => rfl⟩

theorem fit_pure (H : Heap) (nx : Nat) (r : SV) : Fit H nx ⟨r, [], [], nx⟩ := ⟨Nat.le_refl _, fun f h => (by cases h), fun f b h => (by cases h), by simp⟩

end Go.Proofs.Ytfnhchcgieeedaa

namespace Go.Proofs.Ytfnhchcgieeedaa
set_option linter.unusedSimpArgs false
set_option linter.unusedVariables false
set_option linter.defProp false
open Go.RowKit

theorem splice_r {V : Nat → Prop} {ρ : Nat → At} {cs : List CV} {vs : List Value} (h : All2 (CVr V ρ) cs vs) (c : Nat) {l : List CV} {us : List Value} (hl : All2 (CVr V ρ) l us) :
    All2 (CVr V ρ) (splice cs c l) (vs.take c ++ us ++ vs.drop (c + us.length)) := by
  unfold splice
  rw [hl.length]
  exact ((h.take c).append hl).append (h.drop _)

theorem partS_r {P : Program} {V : Nat → Prop} {ρ : Nat → At} {n : Nat} {row : Bool} {cs : List CV} {c : Nat} {y : SV} {vs : List Value} (h : All2 (CVr V ρ) cs vs) (hp : partS n row cs c = some y) (t : TypeId)
    (hi : (P.info? t).map (·.size) = some n) (hr : isRowD (P.underlying t) = row) (hd : ∃ d, P.underlying t = some d) :
    ∃ u, SVr V ρ y u ∧ ∀ w, (part t vs.toArray c).run P w = .ok u w := by
  obtain ⟨d, hd⟩ := hd
  obtain ⟨i, hi1, hi2⟩ : ∃ i, P.info? t = some i ∧ i.size = n := by
    cases h : P.info? t with
    | none => simp [h] at hi
    | some i => exact ⟨i, rfl, by simpa [h] using hi⟩
  unfold partS at hp
  rw [hd] at hr
  have hagg : ∀ w, (isAgg t).run P w = .ok row w := by
    intro w
    unfold isAgg
    rw [Sem.run_bind, run_underlying hd w]
    cases d <;> simp_all [isRowD]
  cases row with
  | true =>
    simp only [if_true] at hp
    split at hp
    · rename_i hlt
      cases hp
      have hl := h.length
      refine ⟨.agg ((vs.drop c).take n).toArray, ⟨_, rfl, (h.drop c).take n⟩, fun w => ?_⟩
      unfold part
      simp only [Sem.run_bind, hagg, Result.andThen_ok, if_true, sizeOf, typeInfo, run_program, hi1, Sem.run_pure, hi2]
      congr 2
      apply Array.ext'
      simp [List.drop_take]
    · cases hp
  | false =>
    simp only [Bool.false_eq_true, if_false] at hp
    obtain ⟨x, hx, rfl⟩ := Option.map_eq_some_iff.1 hp
    obtain ⟨u, hu, hxu⟩ := h.get hx
    refine ⟨u, hxu, fun w => ?_⟩
    unfold part
    simp [Sem.run_bind, hagg, hu]

theorem fold_set (us : List Value) : ∀ (k off : Nat) (arr : Array Value), off + k + us.length ≤ arr.size →
    (us.zipIdx k).foldl (fun cs (p : Value × Nat) => cs.setIfInBounds (off + p.2) p.1) arr = (arr.toList.take (off + k) ++ us ++ arr.toList.drop (off + k + us.length)).toArray := by
  induction us with
  | nil => intro k off arr _; simp
  | cons u us ih =>
    intro k off arr h
    simp only [List.zipIdx_cons, List.foldl_cons]
    rw [ih (k + 1) off _ (by simp at h ⊢; omega)]
    apply Array.ext'
    simp only [Array.toList_setIfInBounds, List.length_cons]
    have e := list_seg_step arr.toList (off + k) u us (by simp at h ⊢; omega)
    simpa [Nat.add_assoc, Nat.add_comm 1, Nat.add_left_comm] using e

theorem fillS_r {V : Nat → Prop} {ρ : Nat → At} {place : Nat → Option (Nat × Nat)} : ∀ (l : List (Nat × List CV)) (ps : List (Nat × Value)) (cs out : List CV) (arr : Array Value),
    All2 (CVr V ρ) cs arr.toList → All2 (fun p q => p.1 = q.1 ∧ All2 (CVr V ρ) p.2 q.2.cells.toList) l ps → fillS place cs l = some out →
    ∃ arr', Instr.fill place arr ps = some arr' ∧ All2 (CVr V ρ) out arr'.toList
  | [], [], cs, out, arr, h, _, hf => by cases hf; exact ⟨arr, rfl, h⟩
  | [], _ :: _, _, _, _, _, h, _ => h.elim
  | _ :: _, [], _, _, _, _, h, _ => h.elim
  | (i, x) :: l, (j, u) :: ps, cs, out, arr, h, hl, hf => by
    obtain ⟨⟨e1, h1⟩, h2⟩ := hl
    simp only at e1 h1
    subst e1
    unfold fillS at hf
    unfold Instr.fill
    split at hf
    · cases hf
    · rename_i off n hp
      split at hf
      · rename_i hc
        have hxl := h1.length
        have hal := h.length
        simp only [Array.length_toList] at hxl hal
        simp only [hp]
        rw [if_neg (by simp; omega)]
        have e := fold_set u.cells.toList 0 off arr (by simp; omega)
        have e2 : u.cells.zipIdx.foldl (fun cs (p : Value × Nat) => cs.setIfInBounds (off + p.2) p.1) arr = (arr.toList.take off ++ u.cells.toList ++ arr.toList.drop (off + u.cells.toList.length)).toArray := by
          rw [← Array.foldl_toList]
          simpa using e
        have h3 := splice_r h off h1
        exact fillS_r l ps _ out _ (by rw [e2]; exact h3) h2 hf
      · cases hf

theorem partsOf_r {V : Nat → Prop} {ρ : Nat → At} {ev : Operand → SV} {ea : Operand → Value} (hev : ∀ x, SVr V ρ (ev x) (ea x)) : ∀ {ps : List (Nat × Operand)} {l : List (Nat × List CV)}, partsOf ev ps = some l →
    All2 (fun p q => p.1 = q.1 ∧ All2 (CVr V ρ) p.2 q.2.cells.toList) l (ps.map fun (i, x) => (i, ea x))
  | [], l, h => by cases h; trivial
  | (i, x) :: ps, l, h => by
    unfold partsOf at h
    split at h
    · rename_i l' r h1 h2
      cases h
      exact ⟨⟨rfl, cellsOf_r h1 (hev x)⟩, partsOf_r hev h2⟩
    · cases h

theorem cvOf_r (V : Nat → Prop) (ρ : Nat → At) {x : Value} (h : x.oneCell' = true) : CVr V ρ (cvOf x) x := by
  unfold cvOf
  split
  · rfl
  · exact ⟨rfl, h⟩

theorem zero_r (V : Nat → Prop) (ρ : Nat → At) : ∀ {l : List Value}, (∀ x ∈ l, x.oneCell' = true) → All2 (CVr V ρ) (l.map cvOf) l
  | [], _ => trivial
  | x :: l, h => ⟨cvOf_r V ρ (h x (by simp)), zero_r V ρ fun y hy => h y (by simp [hy])⟩

end Go.Proofs.Ytfnhchcgieeedaa

namespace Go.Proofs.Ytfnhchcgieeedaa
set_option linter.unusedSimpArgs false
set_option linter.unusedVariables false
set_option linter.defProp false
open Go.RowKit

theorem svv {V : Nat → Prop} {ρ : Nat → At} {x : Value} (h : x.oneCell' = true) : SVr V ρ (.c (.v x)) x := ⟨rfl, h⟩

theorem slice_add {V : Nat → Prop} {ρ : Nat → At} {g sz b n l h : Nat} {u : Value} (hr : SVr V ρ (.c (.sl g sz b n)) u) (hl : l ≤ h) (hh : h ≤ n) :
    ∃ a cp, u = .slice a n cp ∧ h ≤ cp ∧ SVr V ρ (.c (.sl g sz (b + l) (h - l))) (.slice (if cp = l then a else a.map (·.add (l * sz))) (h - l) (cp - l)) := by
  obtain ⟨h1, h2, a, cp, rfl, h3, h4, h5, h6, h7⟩ := hr
  refine ⟨a, cp, rfl, by omega, h1, h2, _, _, rfl, by omega, by omega, ?_, ?_, ?_⟩
  · intro ha
    split at ha
    · have := h5 ha; omega
    · cases a with
      | none => have := h5 rfl; omega
      | some a => cases ha
  · intro h0 hex
    have hl0 : l = 0 := by omega
    have hb0 : b = 0 := by omega
    subst hl0 hb0
    obtain ⟨h8, h9⟩ := h6 rfl hex
    refine ⟨?_, by omega⟩
    rw [← h8]
    split
    · rfl
    · cases a <;> simp [Addr.add]
  · intro hpos
    obtain ⟨b', h8, h9⟩ := h7 (by omega)
    refine ⟨b', h8, ?_⟩
    subst h9
    rw [if_neg (by omega)]
    simp only [Option.map_some, Addr.add_mid]
    congr 2
    rw [Nat.add_mul]; omega

theorem szOf_inv {P : Program} {t : TypeId} (h : szOf P t ≠ 0) : ∃ i d, P.info? t = some i ∧ P.underlying t = some d ∧ szOf P t = i.size := by
  unfold szOf at h ⊢
  cases hd : P.underlying t with
  | none => simp [hd] at h
  | some d =>
    cases hi : P.info? t with
    | none => simp [hd, hi] at h
    | some i => exact ⟨i, d, rfl, rfl, by simp⟩

theorem places_of {P : Program} : ∀ (fs : List Field), ((fs.map fun f => (f.offset, szOf P f.type, isRowD (P.underlying f.type))).all fun p => p.2.1 != 0) = true →
    fs.mapM (fun f => (P.info? f.type).map fun i => (f.offset, i.size)) = some (fs.map fun f => (f.offset, szOf P f.type))
  | [], _ => rfl
  | f :: fs, h => by
    simp only [List.map_cons, List.all_cons, Bool.and_eq_true] at h
    have ih := places_of fs h.2
    obtain ⟨i, d, h1, h2, h3⟩ := szOf_inv (P := P) (t := f.type) (by simpa using h.1)
    simp [List.mapM_cons, h1, h3, ih]

theorem pureK_ok {P : Program} {ck : Bool} {o : Oper} {ev : Operand → SV} {K : SV → Prop} (h : pureK P ck o ev K) : ∃ r, PureOK P o ev r ∧ K r := by
  unfold pureK at h
  split at h
  · rename_i x ho
    exact ⟨_, fun V ρ a hev => ⟨_, hev x, fun w => by simp [execOp, ho]⟩, h⟩
  · rename_i x ho
    exact ⟨_, fun V ρ a hev => ⟨_, hev x, fun w => by simp [execOp, ho]⟩, h⟩
  · rename_i c x y ho
    split at h
    · rename_i t hc
      cases t with
      | true => exact ⟨_, fun V ρ a hev => ⟨_, hev x, fun w => by have := hev c; rw [hc] at this; simp [execOp, ho, this.1, asBool]⟩, h.1 rfl⟩
      | false => exact ⟨_, fun V ρ a hev => ⟨_, hev y, fun w => by have := hev c; rw [hc] at this; simp [execOp, ho, this.1, asBool]⟩, h.2 rfl⟩
    · exact h.elim
  · rename_i op t x y t2 ho
    obtain ⟨u, h1, h2, h3⟩ := binK_ok h
    refine ⟨_, fun V ρ a hev => ⟨u, svv h1, fun w => ?_⟩, h2⟩
    have := h3 V ρ _ _ (hev x) (hev y) x y w
    rw [Sem.run_bind] at this
    simp only [execOp, ho, Sem.run_bind, this, Sem.run_pure, Result.andThen_ok]
  · rename_i op t x ho
    split at h
    · rename_i b hx
      exact ⟨_, fun V ρ a hev => ⟨_, svv rfl, fun w => by have := hev x; rw [hx] at this; simp [execOp, ho, this.1, Op.unary]⟩, h⟩
    · rename_i k n hx
      exact ⟨_, fun V ρ a hev => ⟨_, svv rfl, fun w => by have := hev x; rw [hx] at this; have e := inI_wrap h.1; simp only [Int.zero_sub] at e; simp [execOp, ho, this.1, Op.unary, Op.intArith, e]⟩, h.2⟩
    · rename_i k n hx
      exact ⟨_, fun V ρ a hev => ⟨_, svv rfl, fun w => by have := hev x; rw [hx] at this; simp only [execOp, ho, this.1, Op.unary]; rfl⟩, h⟩
    · exact h.elim
  · rename_i src dst x ho
    split at h
    · rename_i k0 n hx
      obtain ⟨⟨ts, h0⟩, ti, k, h1, h2, h3⟩ := h
      obtain ⟨i0, d0, z0, e4, e5, e6, rfl⟩ := tiOf_inv h0
      obtain ⟨i, d, z, e1, e2, e3, rfl⟩ := tiOf_inv h1
      obtain rfl := td_int h2
      have run : ∀ (V : Nat → Prop) (ρ : Nat → At) (a : Act), (∀ x, SVr V ρ (ev x) (a.eval x)) → ∀ w, (execOp a.eval o).run P w = .ok (.value (.int k (k.wrap n))) w := by
        intro V ρ a hev w
        have hp := hev x
        rw [hx] at hp
        simp only [execOp, ho, hp.1]
        unfold convert
        simp only [Sem.run_bind, run_underlying e5, run_underlying e2, Result.andThen_ok, Conv.intToInt, Sem.run_pure]
      split at h3
      · exact ⟨_, fun V ρ a hev => ⟨_, svv rfl, fun w => by have := run V ρ a hev w; rw [inI_wrap h3.1] at this; exact this⟩, h3.2⟩
      · exact ⟨_, fun V ρ a hev => ⟨_, svv rfl, run V ρ a hev⟩, h3⟩
    · exact h.elim
  · rename_i s x f ho
    split at h
    · rename_i g i c hx
      obtain ⟨ti, fs, off, n, r, h1, h2, h3, h4, h5⟩ := h
      obtain ⟨i', d, z, e1, e2, e3, rfl⟩ := tiOf_inv h1
      obtain ⟨fields, rfl, rfl⟩ := td_struct h2
      refine ⟨_, fun V ρ a hev => ?_, h5⟩
      have hp := hev x
      rw [hx] at hp
      obtain ⟨hv, b, hb, hu⟩ := hp
      simp only [List.getElem?_map] at h3
      obtain ⟨fd, hf, hfe⟩ := Option.map_eq_some_iff.1 h3
      simp only [Array.getElem?_toList] at hf
      simp only [Prod.mk.injEq] at hfe
      obtain ⟨rfl, rfl, rfl⟩ := hfe
      refine ⟨_, ⟨hv, b, hb, rfl⟩, fun w => ?_⟩
      obtain ⟨i2, d2, hq, hq2, hq3⟩ := szOf_inv h4
      rw [hq3] at h4
      · simp [execOp, ho, hu, Instr.fieldAt, run_underlying e2, hf, Instr.sureAddr, fieldPlace, sizeOf, typeInfo, hq, h4, Addr.add_mid, Nat.add_assoc]
    · exact h.elim
  · rename_i s x f ho
    split at h
    · rename_i l hx
      obtain ⟨ti, fs, off, n, r, y, h1, h2, h3, h30, h4, h5⟩ := h
      obtain ⟨i', d, z, e1, e2, e3, rfl⟩ := tiOf_inv h1
      obtain ⟨fields, rfl, rfl⟩ := td_struct h2
      refine ⟨_, fun V ρ a hev => ?_, h5⟩
      have hp := hev x
      rw [hx] at hp
      obtain ⟨vs, hu, hvs⟩ := hp
      simp only [List.getElem?_map] at h3
      obtain ⟨fd, hf, hfe⟩ := Option.map_eq_some_iff.1 h3
      simp only [Array.getElem?_toList] at hf
      simp only [Prod.mk.injEq] at hfe
      obtain ⟨rfl, rfl, rfl⟩ := hfe
      obtain ⟨i2, d2, hq, hq2, hq3⟩ := szOf_inv h30
      obtain ⟨u, hu1, hu2⟩ := partS_r (P := P) hvs h4 fd.type (by simp [hq, hq3]) rfl ⟨d2, hq2⟩
      exact ⟨u, hu1, fun w => by simp [execOp, ho, hu, Instr.field, run_underlying e2, hf, asAgg, hu2]⟩
    · exact h.elim
  · rename_i t x ix ho
    split at h
    · rename_i g sz b n k0 k hx hix
      obtain ⟨ti, e, te, h1, h2, h3, h4, h5, h6⟩ := h
      obtain ⟨i', d, z, e1, e2, e3, rfl⟩ := tiOf_inv h1
      obtain rfl := td_slice h2
      obtain ⟨i2, d2, z2, e4, e5, e6, rfl⟩ := tiOf_inv h3
      refine ⟨_, fun V ρ a hev => ?_, h6⟩
      have hp := hev x
      rw [hx] at hp
      have hq := hev ix
      rw [hix] at hq
      obtain ⟨hv, hsz, ad, cp, hu, _, _, _, _, h7⟩ := hp
      obtain ⟨b', h8, h9⟩ := h7 (by omega)
      subst h9
      simp only at h4
      refine ⟨_, ⟨hv, b', h8, rfl⟩, fun w => ?_⟩
      simp [execOp, ho, hu, hq.1, Instr.indexAt, asIntOf, run_underlying e2, h5.1, h5.2, sizeOf, typeInfo, e4, Addr.add_mid]
      rw [h4, hsz, Nat.add_mul, Nat.add_assoc]
    · exact h.elim
  · rename_i t x ix ho
    split at h
    · rename_i s k0 k hx hix
      obtain ⟨⟨ti, h1, h2⟩, h5, h6⟩ := h
      obtain ⟨i', d, z, e1, e2, e3, rfl⟩ := tiOf_inv h1
      obtain rfl := td_str h2
      refine ⟨_, fun V ρ a hev => ?_, h6⟩
      have hp := hev x
      rw [hx] at hp
      have hq := hev ix
      rw [hix] at hq
      have hn : k.toNat < s.size := by omega
      have hb : s[k.toNat]? = some (s.data.toList.getD k.toNat 0) := by
        have : k.toNat < s.data.size := hn
        rw [getElem?_pos s k.toNat hn, List.getD_eq_getElem?_getD, Array.getElem?_toList, Array.getElem?_eq_getElem this, Option.getD_some]
        rfl
      refine ⟨.int .u8 ((s.data.toList.getD k.toNat 0).toNat : Int), ⟨rfl, rfl⟩, fun w => ?_⟩
      simp only [execOp, ho, hp.1, hq.1, Instr.index, asIntOf, Sem.run_bind, Sem.run_pure, Result.andThen_ok, run_underlying e2, if_pos h5.1, hb]
    · exact h.elim
  · rename_i t x lo hi ho
    split at h
    · rename_i g sz b n hx
      obtain ⟨ti, e, te, l, m, h1, h2, h3, h4, h5, h6, h7, h8, h9⟩ := h
      obtain ⟨i', d, z, e1, e2, e3, rfl⟩ := tiOf_inv h1
      obtain rfl := td_slice h2
      obtain ⟨i2, d2, z2, e4, e5, e6, rfl⟩ := tiOf_inv h3
      simp only at h4
      refine ⟨_, fun V ρ a hev => ?_, h9⟩
      have hp := hev x
      rw [hx] at hp
      obtain ⟨ad, cp, hu, hcp, hr⟩ := slice_add hp h7 h8
      refine ⟨_, hr, fun w => ?_⟩
      have hb : (Instr.sliceBounds true n cp (lo.map a.eval) (hi.map a.eval) none).run P w = .ok (l, m, cp) w := by
        unfold Instr.sliceBounds
        cases hi with
        | none =>
          simp only at h6
          subst h6
          cases lo with
          | none => simp only at h5; subst h5; simp
          | some y =>
            obtain ⟨k, hk⟩ := h5
            have hy := hev y
            rw [hk] at hy
            simp [hy.1, Instr.sliceBound, asIntOf, h7]
        | some y' =>
          obtain ⟨k', hk'⟩ := h6
          have hy' := hev y'
          rw [hk'] at hy'
          cases lo with
          | none => simp only at h5; subst h5; simp [hy'.1, Instr.sliceBound, asIntOf, hcp]
          | some y =>
            obtain ⟨k, hk⟩ := h5
            have hy := hev y
            rw [hk] at hy
            simp [hy.1, hy'.1, Instr.sliceBound, asIntOf, h7, hcp]
      have hs : (Instr.slice t (.slice ad n cp) (lo.map a.eval) (hi.map a.eval) none).run P w = .ok (.slice (if cp = l then ad else ad.map (·.add (l * sz))) (m - l) (cp - l)) w := by
        unfold Instr.slice
        simp only [Sem.run_bind, run_underlying e2, Result.andThen_ok, hb]
        simp [sizeOf, typeInfo, e4, h4]
      simp only [execOp, ho, hu, Instr.sliceAt, Sem.run_bind, run_underlying e2, Result.andThen_ok, Option.map_none, hs, Sem.run_pure]
    · rename_i hx
      obtain ⟨⟨ti, e, te, h1, h2, h3⟩, h5, h6, h9⟩ := h
      obtain ⟨i', d, z, e1, e2, e3, rfl⟩ := tiOf_inv h1
      obtain rfl := td_slice h2
      obtain ⟨i2, d2, z2, e4, e5, e6, rfl⟩ := tiOf_inv h3
      refine ⟨_, fun V ρ a hev => ?_, h9⟩
      have hp := hev x
      rw [hx] at hp
      have hu : a.eval x = .slice none 0 0 := hp
      refine ⟨_, rfl, fun w => ?_⟩
      have hb : (Instr.sliceBounds true 0 0 (lo.map a.eval) (hi.map a.eval) none).run P w = .ok (0, 0, 0) w := by
        unfold Instr.sliceBounds
        cases hi with
        | none =>
          cases lo with
          | none => simp
          | some y =>
            obtain ⟨k, hk⟩ := h5
            have hy := hev y
            rw [hk] at hy
            simp [hy.1, Instr.sliceBound, asIntOf]
        | some y' =>
          obtain ⟨k', hk'⟩ := h6
          have hy' := hev y'
          rw [hk'] at hy'
          cases lo with
          | none => simp [hy'.1, Instr.sliceBound, asIntOf]
          | some y =>
            obtain ⟨k, hk⟩ := h5
            have hy := hev y
            rw [hk] at hy
            simp [hy.1, hy'.1, Instr.sliceBound, asIntOf]
      have hs : (Instr.slice t (.slice none 0 0) (lo.map a.eval) (hi.map a.eval) none).run P w = .ok (.slice none 0 0) w := by
        unfold Instr.slice
        simp only [Sem.run_bind, run_underlying e2, Result.andThen_ok, hb]
        simp [sizeOf, typeInfo, e4]
      simp only [execOp, ho, hu, Instr.sliceAt, Sem.run_bind, run_underlying e2, Result.andThen_ok, Option.map_none, hs, Sem.run_pure]
    · exact h.elim
  · rename_i t i ho
    split at h
    · rename_i l hx
      split at h
      · rename_i y hy
        refine ⟨_, fun V ρ a hev => ?_, h⟩
        have hp := hev t
        rw [hx] at hp
        obtain ⟨vs, hu, hvs⟩ := hp
        obtain ⟨u, hu1, hu2⟩ := hvs.get hy
        exact ⟨u, hu2, fun w => by simp [execOp, ho, hu, Instr.extract, hu1]⟩
      · rename_i y hy
        refine ⟨_, fun V ρ a hev => ?_, h⟩
        have hp := hev t
        rw [hx] at hp
        obtain ⟨vs, hu, hvs⟩ := hp
        obtain ⟨u, hu1, hu2⟩ := hvs.get hy
        exact ⟨u, hu2, fun w => by simp [execOp, ho, hu, Instr.extract, hu1]⟩
      · exact h.elim
    · exact h.elim
  · rename_i x ho
    split at h
    · rename_i f i c hx
      refine ⟨_, fun V ρ a hev => ?_, h⟩
      have hp := hev x
      rw [hx] at hp
      obtain ⟨hv, b, hb, hu⟩ := hp
      exact ⟨_, ⟨hv, b, hb, rfl⟩, fun w => by simp [execOp, ho, hu]⟩
    · exact h.elim
  · rename_i t parts ho
    obtain ⟨ti, fs, cs, h1, h2, h30, h3, h4⟩ := h
    obtain ⟨i', d, z, e1, e2, ⟨e3, e4, e5⟩, rfl⟩ := tiOf_inv h1
    obtain ⟨fields, rfl, rfl⟩ := td_struct h2
    refine ⟨_, fun V ρ a hev => ?_, h4⟩
    obtain ⟨l, h5, h6⟩ := Option.bind_eq_some_iff.1 h3
    have hps := partsOf_r hev h5
    have hpl := places_of (P := P) fields.toList h30
    obtain ⟨arr, h7, h8⟩ := fillS_r l _ _ cs z.cells (zero_r V ρ e4) hps h6
    refine ⟨.agg arr, ⟨arr.toList, by simp, h8⟩, fun w => ?_⟩
    have hb : P.built t (parts.map fun (i, x) => (i, a.eval x)).toList = some arr := by
      unfold Program.built
      simp only [e1, e2, e3, hpl]
      rw [← h7]
      congr 1
      · funext i; simp; rfl
      · simp
    simp only [execOp, ho, Sem.run_bind, run_build w t _ arr hb, Result.andThen_ok, Sem.run_pure]
  · rename_i c ho
    have hc : ∀ (l : List Operand) (ts : List TypeId) (b : Builtin), c.callee = .builtin b → c.args.toList = l → c.argTypes.toList = ts → c = { callee := .builtin b, args := l.toArray, argTypes := ts.toArray } := by
      intro l ts b h1 h2 h3
      cases c; simp only at h1 h2 h3; subst h1 h2 h3; simp
    split at h
    · rename_i x t g1 g2 g3
      rw [hc _ _ _ g1 g2 g3] at ho
      split at h
      · rename_i g sz b n hx
        obtain ⟨⟨ti, e, h1, h2⟩, h3⟩ := h
        obtain ⟨i', d, z, e1, e2, e3, rfl⟩ := tiOf_inv h1
        obtain rfl := td_slice h2
        refine ⟨_, fun V ρ a hev => ?_, h3⟩
        have hp := hev x
        rw [hx] at hp
        obtain ⟨hv, hsz, ad, cp, hu, _⟩ := hp
        exact ⟨_, svv rfl, fun w => by simp [execOp, ho, resolve, invoke, builtin, Builtin.len_, hu, run_underlying e2, goInt]⟩
      · rename_i hx
        obtain ⟨⟨ti, e, h1, h2⟩, h3⟩ := h
        obtain ⟨i', d, z, e1, e2, e3, rfl⟩ := tiOf_inv h1
        obtain rfl := td_slice h2
        refine ⟨_, fun V ρ a hev => ?_, h3⟩
        have hp := hev x
        rw [hx] at hp
        have hu : a.eval x = .slice none 0 0 := hp
        exact ⟨_, svv rfl, fun w => by simp [execOp, ho, resolve, invoke, builtin, Builtin.len_, hu, run_underlying e2, goInt]⟩
      · rename_i s hx
        obtain ⟨⟨ti, h1, h2⟩, h3⟩ := h
        obtain ⟨i', d, z, e1, e2, e3, rfl⟩ := tiOf_inv h1
        obtain rfl := td_str h2
        refine ⟨_, fun V ρ a hev => ?_, h3⟩
        have hp := hev x
        rw [hx] at hp
        exact ⟨_, svv rfl, fun w => by simp [execOp, ho, resolve, invoke, builtin, Builtin.len_, hp.1, run_underlying e2, goInt]⟩
      · exact h.elim
    · rename_i ts x y g1 g2
      rw [hc _ _ _ g1 g2 rfl] at ho
      split at h
      · rename_i k m k' n hx hy
        refine ⟨_, fun V ρ a hev => ?_, h⟩
        have hp := hev x
        have hq := hev y
        rw [hx] at hp
        rw [hy] at hq
        refine ⟨_, svv rfl, fun w => ?_⟩
        simp [execOp, ho, resolve, invoke, builtin, Builtin.min_, Builtin.min2, hp.1, hq.1]
        omega
      · exact h.elim
    · rename_i ts x y g1 g2
      rw [hc _ _ _ g1 g2 rfl] at ho
      split at h
      · rename_i k m k' n hx hy
        refine ⟨_, fun V ρ a hev => ?_, h⟩
        have hp := hev x
        have hq := hev y
        rw [hx] at hp
        rw [hy] at hq
        refine ⟨_, svv rfl, fun w => ?_⟩
        simp [execOp, ho, resolve, invoke, builtin, Builtin.max_, Builtin.max2, hp.1, hq.1]
        omega
      · exact h.elim
    · exact h.elim
  · exact h.elim

end Go.Proofs.Ytfnhchcgieeedaa

namespace Go.Proofs.Ytfnhchcgieeedaa
set_option linter.unusedSimpArgs false
set_option linter.unusedVariables false
set_option linter.defProp false
open Go.RowKit

def cvD : DC → CV
  | .v x => .v x
  | .sl _ _ _ => .any

def dcOf : CV → Option DC
  | .v x => some (.v x)
  | _ => none

def dcsOf : List CV → Option (List DC)
  | [] => some []
  | c :: l => match dcOf c, dcsOf l with
    | some d, some r => some (d :: r)
    | _, _ => none

/-- Cells of read data: slices in them become blocks that are only read. -/
def impC : List DC → Nat → List CV × Heap × Nat
  | [], nx => ([], [], nx)
  | .v x :: l, nx => let r := impC l nx; (.v x :: r.1, r.2.1, r.2.2)
  | .sl _ sz es :: l, nx => let r := impC l (nx + 1); (.sl nx sz 0 es.length :: r.1, (nx, some (.ro es)) :: r.2.1, r.2.2)

def chunk (sz : Nat) : Nat → List CV → List (List CV)
  | 0, _ => []
  | n + 1, cs => cs.take sz :: chunk sz n (cs.drop sz)

def chunkD (sz : Nat) : Nat → List DC → List (List DC)
  | 0, _ => []
  | n + 1, cs => cs.take sz :: chunkD sz n (cs.drop sz)

def dcssOf : List (List CV) → Option (List (List DC))
  | [] => some []
  | c :: l => match dcsOf c, dcssOf l with
    | some d, some r => some (d :: r)
    | _, _ => none

/-- New cells of a row with rows in it: what they hold, and the rows that are taken in. -/
def absL (H : Heap) : List DC → List CV → Option (List DC × List Nat)
  | [], [] => some ([], [])
  | .v _ :: o, .v x :: l => match absL H o l with
    | some r => some (.v x :: r.1, r.2)
    | none => none
  | .sl T sz _ :: o, .nil :: l => match absL H o l with
    | some r => some (.sl T sz [] :: r.1, r.2)
    | none => none
  | .sl T sz _ :: o, .sl g _ _ _ :: l => match hget H g with
    | some (.row _ d) => match absL H o l with
      | some r => some (.sl T sz d :: r.1, g :: r.2)
      | none => none
    | _ => none
  | _, _ => none

def absP (H : Heap) : List DC → List CV → Prop
  | .v _ :: o, _ :: l => absP H o l
  | .sl _ _ _ :: o, .nil :: l => absP H o l
  | .sl T sz _ :: o, .sl g sz' b n :: l => (match hget H g with
    | some (.row T' d) => T' = T ∧ sz' = sz ∧ b = 0 ∧ n = d.length
    | _ => False) ∧ absP H o l
  | _, _ => True

/-- New cells of a row that leans on memory that is only read: what they hold, and the blocks that they lean on. -/
def mixL (H : Heap) : List DC → List CV → Option (List DC × List Nat)
  | [], [] => some ([], [])
  | .v _ :: o, .v x :: l => match mixL H o l with
    | some r => some (.v x :: r.1, r.2)
    | none => none
  | .sl T sz _ :: o, .nil :: l => match mixL H o l with
    | some r => some (.sl T sz [] :: r.1, r.2)
    | none => none
  | .sl T sz _ :: o, .sl g _ b n :: l => match hget H g with
    | some (.ro d) => match mixL H o l with
      | some r => some (.sl T sz ((d.drop b).take n) :: r.1, g :: r.2)
      | none => none
    | _ => none
  | _, _ => none

def mixP (H : Heap) : List DC → List CV → Prop
  | .v _ :: o, _ :: l => mixP H o l
  | .sl _ _ _ :: o, .nil :: l => mixP H o l
  | .sl _ sz _ :: o, .sl g sz' b n :: l => (match hget H g with
    | some (.ro d) => sz' = sz ∧ b + n ≤ d.length
    | _ => False) ∧ mixP H o l
  | _, _ => True

def noneB (ks : List Nat) : List (Nat × Option Blk) := ks.map fun g => (g, none)

def distB : List Nat → Bool
  | [] => true
  | k :: l => !l.contains k && distB l

def isNilC : CV → Bool
  | .nil => true
  | _ => false

/-- The lent cell is among those that are written. -/
def holeIn (h : Option (Nat × Nat × CV)) (i c n : Nat) : Prop :=
  match h with
  | none => True
  | some (i', c', _) => i' = i ∧ c ≤ c' ∧ c' < c + n

/-- A cell of a row with rows in it is looked at: a row in it is lent. -/
def loadN (f T : Nat) (es : List (List DC)) (nx i c : Nat) (hh : Option (Nat × Nat × CV)) (x : Option DC) (K : Eff → Prop) : Prop :=
  match x, hh with
  | some (.v x), none => K ⟨.c (.v x), [f], [], nx⟩
  | some (.v x), some (_, c', _) => c ≠ c' ∧ K ⟨.c (.v x), [f], [], nx⟩
  | some (.sl T' sz d), none => K ⟨.c (.sl nx sz 0 d.length), [f], [(nx, some (.row T' d)), (f, some (.nst T es (some (i, c, .sl nx sz 0 d.length))))], nx + 1⟩
  | some (.sl _ _ _), some (i', c', y) => (i = i' ∧ c = c') ∧ K ⟨.c y, [f], [], nx⟩
  | none, _ => False

def memK (P : Program) (o : Oper) (ev : Operand → SV) (H : Heap) (nx : Nat) (K : Eff → Prop) : Prop :=
  match o.op with
  | .alloc e => ∃ ti, tiOf P e = some ti ∧ K ⟨.c (.ptr nx 0 0), [], [(nx, some (.box e ti.zero))], nx + 1⟩
  | .box e x => ∃ cs, cellsOf (ev x) = some cs ∧ K ⟨.c (.ptr nx 0 0), [], [(nx, some (.box e cs))], nx + 1⟩
  | .load t x => match ev x with
    | .c (.ptr f i c) => match hget H f with
      | some (.box _ cs) => i = 0 ∧ ∃ ti y, tiOf P t = some ti ∧ partS ti.size ti.row cs c = some y ∧ K ⟨y, [f], [], nx⟩
      | some (.row _ es) => ∃ ti, tiOf P t = some ti ∧ ∃ h : i < es.length, ∃ y, partS ti.size ti.row (es[i].map cvD) c = some y ∧ K ⟨y, [f], [], nx⟩
      | some (.ro es) => ∃ ti, tiOf P t = some ti ∧ ∃ h : i < es.length, match ti.row with
        | true => c + ti.size ≤ es[i].length ∧ K ⟨.agg (impC ((es[i].drop c).take ti.size) nx).1, [f], (impC ((es[i].drop c).take ti.size) nx).2.1, (impC ((es[i].drop c).take ti.size) nx).2.2⟩
        | false => ∃ h : c < es[i].length, match (impC [es[i][c]] nx).1 with
          | [y] => K ⟨.c y, [f], (impC [es[i][c]] nx).2.1, (impC [es[i][c]] nx).2.2⟩
          | _ => False
      | some (.nst T es hh) => ∃ ti, tiOf P t = some ti ∧ ti.row = false ∧ ∃ h : i < es.length, loadN f T es nx i c hh es[i][c]? K
      | some (.mix _ es) => ∃ ti, tiOf P t = some ti ∧ ∃ h : i < es.length, match ti.row with
        | true => c + ti.size ≤ es[i].length ∧ K ⟨.agg (impC ((es[i].drop c).take ti.size) nx).1, [f], (impC ((es[i].drop c).take ti.size) nx).2.1, (impC ((es[i].drop c).take ti.size) nx).2.2⟩
        | false => ∃ h : c < es[i].length, match (impC [es[i][c]] nx).1 with
          | [y] => K ⟨.c y, [f], (impC [es[i][c]] nx).2.1, (impC [es[i][c]] nx).2.2⟩
          | _ => False
      | some (.gh _ _) => False
      | some (.gx _ _) => False
      | none => False
    | _ => False
  | .store t x y => match ev x with
    | .c (.ptr f i c) => match hget H f with
      | some (.box T cs) => i = 0 ∧ ∃ ti l, tiOf P t = some ti ∧ cellsOf (ev y) = some l ∧ l.length = ti.size ∧ c + l.length ≤ cs.length ∧ K ⟨.any, [f], [(f, some (.box T (splice cs c l)))], nx⟩
      | some (.row T es) => ∃ ti l d, tiOf P t = some ti ∧ cellsOf (ev y) = some l ∧ l.length = ti.size ∧ dcsOf l = some d ∧ ∃ h : i < es.length, c + d.length ≤ es[i].length ∧
          K ⟨.any, [f], [(f, some (.row T (es.set i (es[i].take c ++ d ++ es[i].drop (c + d.length)))))], nx⟩
      | some (.nst T es hh) => ∃ ti l nz, tiOf P t = some ti ∧ cellsOf (ev y) = some l ∧ l.length = ti.size ∧ nzT P T = some nz ∧ match absL H ((nz.drop c).take l.length) l with
        | some r => absP H ((nz.drop c).take l.length) l ∧ distB (f :: r.2) = true ∧ holeIn hh i c l.length ∧ ∃ h : i < es.length, c + r.1.length ≤ es[i].length ∧
          K ⟨.any, f :: r.2, (f, some (.nst T (es.set i (es[i].take c ++ r.1 ++ es[i].drop (c + r.1.length))) none)) :: noneB r.2, nx⟩
        | none => False
      | _ => False
    | _ => False
  | .buildSlice t len parts => ∃ ti e te cs, tiOf P t = some ti ∧ ti.d = .slice e ∧ tiOf P e = some te ∧ 0 < te.size ∧ len * te.size ≤ 1000000 ∧
      ((partsOf ev parts.toList).bind fun l => fillS (fun i => some (i * te.size, te.size)) (List.replicate len te.zero).flatten l) = some cs ∧ match te.zero.any isNilC with
      | false => ∃ es, dcssOf (chunk te.size len cs) = some es ∧ K ⟨.c (.sl nx te.size 0 len), [], [(nx, some (.row e es))], nx + 1⟩
      | true => ∃ nz, nzT P e = some nz ∧ match absL H (List.replicate len nz).flatten cs with
        | some r => absP H (List.replicate len nz).flatten cs ∧ distB r.2 = true ∧ K ⟨.c (.sl nx te.size 0 len), r.2, (nx, some (.nst e (chunkD te.size len r.1) none)) :: noneB r.2, nx + 1⟩
        | none => match mixL H (List.replicate len nz).flatten cs with
          | some r => mixP H (List.replicate len nz).flatten cs ∧ K ⟨.c (.sl nx te.size 0 len), r.2, [(nx, some (.mix e (chunkD te.size len r.1)))], nx + 1⟩
          | none => False
  | .makeSlice t l c => match ev l, ev c with
    | .c (.v (.int _ n)), .c (.v (.int _ m)) => ∃ ti e te, tiOf P t = some ti ∧ ti.d = .slice e ∧ tiOf P e = some te ∧ 0 < te.size ∧ n = m ∧ (0 ≤ n ∧ te.bytes * n ≤ 140737488355328 ∧ n ≤ 1099511627776) ∧ match te.zero.any isNilC with
        | false => ∃ z, dcsOf te.zero = some z ∧ K ⟨.c (.sl nx te.size 0 n.toNat), [], [(nx, some (.row e (List.replicate n.toNat z)))], nx + 1⟩
        | true => ∃ nz, nzT P e = some nz ∧ K ⟨.c (.sl nx te.size 0 n.toNat), [], [(nx, some (.nst e (List.replicate n.toNat nz) none))], nx + 1⟩
    | _, _ => False
  | _ => False

theorem looked_get {H : Heap} {rd : List Nat} {f : Nat} {b : Blk} (hf : f ∈ rd) (h : hget H f = some b) : looked H rd f = some b := by
  unfold looked; rw [if_pos hf]; exact h

theorem run_loadAt_part {P : Program} {V : Nat → Prop} {ρ : Nat → At} {w : World} {b base : Nat} {vs : List Value} {cs : List CV} {c : Nat} {y : SV} {t : TypeId} {ti : TI} (h : All2 (CVr V ρ) cs vs)
    (hc : ∀ j u, vs[j]? = some u → w.cell? ⟨b, base + j, none⟩ = some u) (ht : tiOf P t = some ti) (hp : partS ti.size ti.row cs c = some y) :
    ∃ u, SVr V ρ y u ∧ (Instr.loadAt t (.pointer (some ⟨b, base + c, none⟩))).run P w = .ok u w := by
  obtain ⟨i, d, z, e1, e2, e3, rfl⟩ := tiOf_inv ht
  unfold partS at hp
  simp only at hp
  have hagg : (isAgg t).run P w = .ok (isRowD (some d)) w := by
    unfold isAgg
    rw [Sem.run_bind, run_underlying e2 w]
    cases d <;> simp_all [isRowD]
  cases hr : isRowD (some d) with
  | true =>
    rw [hr] at hp hagg
    simp only [if_true] at hp
    split at hp
    · rename_i hlt
      cases hp
      have hl := h.length
      refine ⟨.agg ((vs.drop c).take i.size).toArray, ⟨_, rfl, (h.drop c).take _⟩, ?_⟩
      have hlen : ((vs.drop c).take i.size).length = i.size := by simp; omega
      have := run_loadCells_list (P := P) w ⟨b, base + c, none⟩ ((vs.drop c).take i.size) (fun j v hv => by
        rw [Addr.add_mid]
        rw [List.getElem?_take] at hv
        split at hv
        · rw [List.getElem?_drop] at hv
          have := hc _ _ hv
          rwa [← Nat.add_assoc] at this
        · cases hv)
      rw [hlen] at this
      simp [Instr.loadAt, Instr.sureAddr, loadVar, hagg, sizeOf, typeInfo, e1, this]
    · cases hp
  | false =>
    rw [hr] at hp hagg
    simp only [Bool.false_eq_true, if_false] at hp
    obtain ⟨x, hx, rfl⟩ := Option.map_eq_some_iff.1 hp
    obtain ⟨u, hu, hxu⟩ := h.get hx
    refine ⟨u, hxu, ?_⟩
    simp [Instr.loadAt, Instr.sureAddr, loadVar, hagg, hc c u hu]

theorem EffOK.of_read {P : Program} {o : Oper} {ev : Operand → SV} {H : Heap} {nx : Nat} {y : SV} {rd : List Nat}
    (h : ∀ (V : Nat → Prop) (ρ : Nat → At) (a : Act) (w : World), (∀ x, SVr V ρ (ev x) (a.eval x)) → Mem V ρ (looked H rd) w → ∃ u, SVr V ρ y u ∧ (execOp a.eval o).run P w = .ok (.value u) w) :
    EffOK P o ev H nx ⟨y, rd, [], nx⟩ := by
  intro V ρ a w K Q hV hev hm hK
  obtain ⟨u, h1, h2⟩ := h V ρ a w hev hm
  unfold Oper.wp
  rw [h2]
  refine hK u ρ w ⟨same_of fun _ _ => rfl, h1.mono fun f hf => ⟨.inl hf, rfl⟩, ⟨fun f blk hb => (by cases hb), fun f g blk blk' _ hb => (by cases hb)⟩, fun f blk hb => (by cases hb), rfl, rfl, rfl, Nat.le_refl _, fun _ _ _ => rfl⟩

theorem fit_read {H : Heap} {nx : Nat} {y : SV} {f : Nat} {b : Blk} (h : hget H f = some b) : Fit H nx ⟨y, [f], [], nx⟩ :=
  ⟨Nat.le_refl _, fun g hg => by simp at hg; subst hg; exact ⟨b, h⟩, fun f b h => (by cases h), by simp⟩

theorem flat_cv {V : Nat → Prop} {ρ : Nat → At} : ∀ {e : List DC}, (∀ c ∈ e, DC.flat c) → All2 (CVr V ρ) (e.map cvD) (e.map DC.val)
  | [], _ => trivial
  | c :: e, h => by
    obtain ⟨x, rfl, h1⟩ := h c (by simp)
    exact ⟨⟨rfl, h1⟩, flat_cv fun d hd => h d (by simp [hd])⟩

theorem flatE_get : ∀ {es : List (List DC)} {sz : Nat}, (∀ e ∈ es, e.length = sz) → ∀ (i : Nat) (e : List DC) (j : Nat) (c : DC), es[i]? = some e → e[j]? = some c → (flatE es)[i * sz + j]? = some c.val
  | [], _, _, i, e, j, c, h, _ => by simp at h
  | x :: es, sz, hs, 0, e, j, c, h, hc => by
    simp at h; subst h
    have hj : j < x.length := (List.getElem?_eq_some_iff.1 hc).1
    unfold flatE
    rw [List.flatMap_cons, Nat.zero_mul, Nat.zero_add, List.getElem?_append_left (by simpa using hj), List.getElem?_map, hc]; rfl
  | x :: es, sz, hs, i + 1, e, j, c, h, hc => by
    have hx := hs x (by simp)
    unfold flatE
    rw [List.flatMap_cons, List.getElem?_append_right (by simp [hx, Nat.add_mul]; omega)]
    have := flatE_get (es := es) (sz := sz) (fun e he => hs e (by simp [he])) i e j c (by simpa using h) hc
    unfold flatE at this
    rw [← this]
    congr 1
    simp [hx, Nat.add_mul]; omega

theorem flatE_len : ∀ {es : List (List DC)} {sz : Nat}, (∀ e ∈ es, e.length = sz) → (flatE es).length = es.length * sz
  | [], _, _ => by simp [flatE]
  | x :: es, sz, hs => by
    have := flatE_len (es := es) (sz := sz) fun e he => hs e (by simp [he])
    unfold flatE at this ⊢
    rw [List.flatMap_cons, List.length_append, this]
    simp [hs x (by simp), Nat.add_mul]; omega

/-- the cells of a row's element -/
theorem row_cells {w : World} {p : At} {T : Nat} {es : List (List DC)} {b : Nat} {cur : Array Value} (hg : w.heap[b]? = some (.cells cur T (0, 0))) (ht : cur.toList.take (es.length * p.sz) = flatE es)
    (hs : ∀ e ∈ es, e.length = p.sz) {i : Nat} (hi : i < es.length) : ∀ j u, (es[i].map DC.val)[j]? = some u → w.cell? ⟨b, i * p.sz + j, none⟩ = some u := by
  intro j u hu
  rw [List.getElem?_map] at hu
  obtain ⟨c, hc, rfl⟩ := Option.map_eq_some_iff.1 hu
  have h1 := flatE_get hs i es[i] j c (List.getElem?_eq_getElem hi) hc
  rw [← ht, List.getElem?_take] at h1
  split at h1
  · have : cur[i * p.sz + j]? = some c.val := by simpa using h1
    simp [World.cell?, hg, this]
  · cases h1

theorem impC_le : ∀ (l : List DC) (nx : Nat), nx ≤ (impC l nx).2.2
  | [], nx => Nat.le_refl _
  | .v x :: l, nx => impC_le l nx
  | .sl _ _ _ :: l, nx => Nat.le_trans (Nat.le_succ nx) (impC_le l (nx + 1))

theorem impC_key : ∀ (l : List DC) (nx f : Nat) (b : Option Blk), (f, b) ∈ (impC l nx).2.1 → nx ≤ f ∧ f < (impC l nx).2.2
  | [], nx, f, b, h => by simp [impC] at h
  | .v x :: l, nx, f, b, h => impC_key l nx f b h
  | .sl T sz es :: l, nx, f, b, h => by
    simp only [impC, List.mem_cons, Prod.mk.injEq] at h ⊢
    rcases h with ⟨rfl, _⟩ | h
    · exact ⟨Nat.le_refl _, impC_le l (f + 1)⟩
    · have := impC_key l (nx + 1) f b h
      omega

theorem impC_nodup : ∀ (l : List DC) (nx : Nat), ((impC l nx).2.1.map (·.1)).Nodup
  | [], nx => by simp [impC]
  | .v x :: l, nx => impC_nodup l nx
  | .sl T sz es :: l, nx => by
    simp only [impC, List.map_cons, List.nodup_cons]
    refine ⟨fun h => ?_, impC_nodup l (nx + 1)⟩
    obtain ⟨⟨f, b⟩, h1, h2⟩ := List.mem_map.1 h
    have := impC_key l (nx + 1) f b h1
    simp only at h2
    omega

def updA (ρ : Nat → At) (f : Nat) (p : At) (g : Nat) : At := if g = f then p else ρ g

theorem newV_mono {V : Nat → Prop} {a b c d : Nat} (h1 : c ≤ a) (h2 : b ≤ d) {f : Nat} (h : newV V a b f) : newV V c d f := by
  rcases h with h | h
  · exact .inl h
  · exact .inr (by omega)

theorem impC_ok {w : World} {F : Nat → Prop} (hF : ∀ b, F b → b < w.heap.size) : ∀ (l : List DC) (us : List Value) (nx : Nat) (ρ : Nat → At) (V : Nat → Prop), All2 (Rd w F) l us →
    (∀ f, nx ≤ f → f < (impC l nx).2.2 → ¬ V f) →
    ∃ ρ', (∀ f, f < nx ∨ (impC l nx).2.2 ≤ f → ρ' f = ρ f) ∧ All2 (CVr (newV V nx (impC l nx).2.2) ρ') (impC l nx).1 us ∧ Mem (newV V nx (impC l nx).2.2) ρ' (hget (impC l nx).2.1) w ∧
      ∀ f blk, hget (impC l nx).2.1 f = some blk → blk.own = false ∧ ∀ b, (ρ' f).F b → F b
  | [], [], nx, ρ, V, _, hV => ⟨ρ, fun _ _ => rfl, trivial, ⟨fun f blk h => (by cases h), fun f g blk blk' _ h => (by cases h)⟩, fun f blk h => (by cases h)⟩
  | [], _ :: _, _, _, _, h, _ => h.elim
  | _ :: _, [], _, _, _, h, _ => h.elim
  | .v x :: l, u :: us, nx, ρ, V, h, hV => by
    obtain ⟨ρ', h1, h2, h3, h4⟩ := impC_ok hF l us nx ρ V h.2 hV
    refine ⟨ρ', h1, ⟨?_, h2⟩, h3, h4⟩
    cases h.1 with
    | v hx => exact ⟨rfl, hx⟩
  | .sl T sz es :: l, u :: us, nx, ρ, V, h, hV => by
    have hle := impC_le l (nx + 1)
    have hk := impC_key l (nx + 1)
    obtain ⟨a, cap, g, rfl, le, lt, nil, wf, ad, r⟩ : ∃ a cap, ∃ g : Nat → Nat → Value, u = .slice a es.length cap ∧ es.length ≤ cap ∧ cap ≤ maxLen ∧ (a = none → cap = 0) ∧ (∀ e ∈ es, e.length = sz) ∧
        (es ≠ [] → ∃ b off, a = some ⟨b, off, none⟩ ∧ F b ∧ ∀ i j, i < es.length → j < sz → w.cell? ⟨b, off + i * sz + j, none⟩ = some (g i j)) ∧
        (∀ i e j c, es[i]? = some e → e[j]? = some c → Rd w F c (g i j)) := by
      cases h.1 with
      | sl g le lt nil wf ad r => exact ⟨_, _, g, rfl, le, lt, nil, wf, ad, r⟩
    obtain ⟨p, hp1, hp2, hp3, hp4, hp5, hp6⟩ : ∃ p : At, p.sz = sz ∧ p.cap = cap ∧ ¬ p.ex ∧ (p.F = F) ∧ (es = [] → p.adr = none) ∧ (es ≠ [] → ∃ b, p.adr = some b ∧ F b ∧ a = some ⟨b, p.off, none⟩ ∧ ∀ i j, i < es.length → j < sz → w.cell? ⟨b, p.off + i * sz + j, none⟩ = some (g i j)) := by
      by_cases hn : es = []
      · exact ⟨⟨none, 0, sz, cap, False, F⟩, rfl, rfl, id, rfl, fun _ => rfl, fun h => absurd hn h⟩
      · obtain ⟨b, off, h1, h2, h3⟩ := ad hn
        exact ⟨⟨some b, off, sz, cap, False, F⟩, rfl, rfl, id, rfl, fun h => absurd h hn, fun _ => ⟨b, rfl, h2, h1, h3⟩⟩
    have hVn : ∀ f, nx + 1 ≤ f → f < (impC l (nx + 1)).2.2 → ¬ newV V nx (nx + 1) f := by
      intro f h1 h2 h3
      rcases h3 with h3 | h3
      · exact hV f (by omega) h2 h3
      · omega
    obtain ⟨ρ', h1, h2, h3, h4⟩ := impC_ok hF l us (nx + 1) (updA ρ nx p) (newV V nx (nx + 1)) h.2 hVn
    have hnv : ∀ f, newV (newV V nx (nx + 1)) (nx + 1) (impC l (nx + 1)).2.2 f → newV V nx (impC l (nx + 1)).2.2 f := by
      intro f hf
      rcases hf with (hf | hf) | hf
      · exact .inl hf
      · exact .inr (by omega)
      · exact .inr (by omega)
    have hpn : ρ' nx = p := by rw [h1 nx (.inl (by omega))]; simp [updA]
    have hold : Holds (newV V nx (impC l (nx + 1)).2.2) ρ' w p (.ro es) := by
      refine ⟨hp3, by rw [hp2]; exact lt, by rw [hp2]; exact le, by rw [hp1]; exact wf, fun hn => ?_, fun i e j c b hi hj hb => ?_⟩
      · obtain ⟨b, q1, q2, _⟩ := hp6 hn
        exact ⟨b, q1, by rw [hp4]; exact q2⟩
      · have hn : es ≠ [] := by rintro rfl; simp at hi
        obtain ⟨b', q1, q2, _, q3⟩ := hp6 hn
        rw [hb] at q1; cases q1
        have hil := (List.getElem?_eq_some_iff.1 hi).1
        have hjl : j < sz := by rw [← wf e (List.mem_of_getElem? hi)]; exact (List.getElem?_eq_some_iff.1 hj).1
        refine ⟨g i j, by rw [hp1]; exact q3 i j hil hjl, by rw [hp4]; exact r i e j c hi hj⟩
    refine ⟨ρ', fun f hf => ?_, ⟨⟨.inr ⟨Nat.le_refl _, by simp only [impC]; omega⟩, by rw [hpn]; exact hp1, a, cap, rfl, le, lt, nil, fun _ hex => ?_, fun hpos => ?_⟩, h2.mono fun x y hxy => hxy.mono fun f hf => ⟨hnv f hf, rfl⟩⟩, ?_, ?_⟩
    · simp only [impC] at hf
      rw [h1 f (by omega)]
      unfold updA; rw [if_neg (by omega)]
    · rw [hpn] at hex; exact absurd hex hp3
    · obtain ⟨b, q1, _, q2, _⟩ := hp6 (by rintro rfl; simp at hpos)
      rw [hpn]
      exact ⟨b, q1, by rw [q2]; simp⟩
    · constructor
      · intro f blk hb
        simp only [impC, hget] at hb
        split at hb
        · rename_i e; subst e; cases hb
          rw [hpn]
          exact ⟨.inr ⟨Nat.le_refl _, by simp only [impC]; omega⟩, hold, fun b hb => hF b (by rw [hp4] at hb; exact hb)⟩
        · obtain ⟨q1, q2, q3⟩ := h3.dom f blk hb
          exact ⟨hnv f q1, q2.keep (fun f hf => ⟨hnv f hf, rfl⟩) (fun _ _ => rfl), q3⟩
      · intro f g' blk blk' hne hb hb' b hx
        simp only [impC, hget] at hb
        split at hb
        · cases hb; exact hx.elim
        · exact absurd hx (exc_ro (h4 f blk hb).1)
    · intro f blk hb
      simp only [impC, hget] at hb
      split at hb
      · rename_i e; subst e; cases hb
        rw [hpn, hp4]
        exact ⟨rfl, fun b hb => hb⟩
      · exact h4 f blk hb

end Go.Proofs.Ytfnhchcgieeedaa

namespace Go.Proofs.Ytfnhchcgieeedaa
set_option linter.unusedSimpArgs false
set_option linter.unusedVariables false
set_option linter.defProp false
open Go.RowKit

theorem updA_same (ρ : Nat → At) (nx : Nat) (p : At) {f : Nat} (h : f < nx ∨ nx + 1 ≤ f) : updA ρ nx p f = ρ f := by
  unfold updA; rw [if_neg (by omega)]

theorem updA_new (ρ : Nat → At) (nx : Nat) (p : At) : updA ρ nx p nx = p := by simp [updA]

theorem Done.new {V : Nat → Prop} {ρ : Nat → At} {H : Heap} {nx : Nat} {w w' : World} {r : SV} {rd : List Nat} {u : Value} (p : At) (blk : Blk)
    (hold : Holds (newV V nx (nx + 1)) (updA ρ nx p) w' p blk) (hF : ∀ b, p.F b → w.heap.size ≤ b ∧ b < w'.heap.size) (hr : SVr (newV V nx (nx + 1)) (updA ρ nx p) r u) (hb : Below w.heap.size w w') :
    Done V ρ H nx w ⟨r, rd, [(nx, some blk)], nx + 1⟩ u (updA ρ nx p) w' := by
  refine ⟨same_of fun f hf => updA_same ρ nx p hf, hr, ⟨fun f blk' h => ?_, fun f g blk1 blk2 hne h h' => ?_⟩, fun f blk' h b hb' => ?_, hb.os, hb.tape, hb.output, hb.size, fun k hk _ => hb.block k hk⟩
  · simp only [hget] at h
    split at h
    · rename_i e; subst e; cases h
      rw [updA_new]
      exact ⟨.inr ⟨Nat.le_refl _, Nat.lt_succ_self _⟩, hold, fun b hb' => (hF b hb').2⟩
    · cases h
  · simp only [hget] at h h'
    split at h
    · split at h'
      · omega
      · cases h'
    · cases h
  · simp only [hget] at h
    split at h
    · rename_i e; subst e; cases h
      rw [updA_new] at hb'
      exact .inl (hF b hb').1
    · cases h

theorem fit_new {H : Heap} {nx : Nat} {r : SV} {rd : List Nat} {b : Option Blk} (h : ∀ f ∈ rd, ∃ blk, hget H f = some blk) : Fit H nx ⟨r, rd, [(nx, b)], nx + 1⟩ :=
  ⟨Nat.le_succ _, h, fun f b hb => by simp at hb; obtain ⟨rfl, _⟩ := hb; exact ⟨Nat.lt_succ_self _, fun h => absurd h (Nat.lt_irrefl _)⟩, by simp⟩

theorem EffOK.of_new {P : Program} {o : Oper} {ev : Operand → SV} {H : Heap} {nx : Nat} {r : SV} {rd : List Nat} {blk : Blk}
    (h : ∀ (V : Nat → Prop) (ρ : Nat → At) (a : Act) (w : World), (∀ x, SVr V ρ (ev x) (a.eval x)) → Mem V ρ (looked H rd) w → (∀ f, nx ≤ f → f < nx + 1 → ¬ V f) →
      ∃ u w' p, (execOp a.eval o).run P w = .ok (.value u) w' ∧ Holds (newV V nx (nx + 1)) (updA ρ nx p) w' p blk ∧ (∀ b, p.F b → w.heap.size ≤ b ∧ b < w'.heap.size) ∧ SVr (newV V nx (nx + 1)) (updA ρ nx p) r u ∧ Below w.heap.size w w') :
    EffOK P o ev H nx ⟨r, rd, [(nx, some blk)], nx + 1⟩ := by
  intro V ρ a w K Q hV hev hm hK
  obtain ⟨u, w', p, h1, h2, h3, h4, h5⟩ := h V ρ a w hev hm hV
  unfold Oper.wp
  rw [h1]
  exact hK u _ w' (Done.new p blk h2 h3 h4 h5)

/-- A row's slice value. -/
theorem row_val {V : Nat → Prop} {ρ : Nat → At} {nx : Nat} {p : At} {n sz : Nat} (hsz : p.sz = sz) (hle : n ≤ p.cap) (hlt : p.cap ≤ maxLen) (hn : p.adr = none → p.cap = 0) (ho : p.off = 0) :
    SVr (newV V nx (nx + 1)) (updA ρ nx p) (.c (.sl nx sz 0 n)) (.slice (p.adr.map (⟨·, 0, none⟩)) n p.cap) := by
  refine ⟨.inr ⟨Nat.le_refl _, Nat.lt_succ_self _⟩, by rw [updA_new]; exact hsz, _, _, rfl, hle, hlt, fun h => hn (by cases hp : p.adr with | none => rfl | some b => rw [hp] at h; cases h), fun _ _ => by rw [updA_new, ho]; exact ⟨rfl, rfl⟩, fun hpos => ?_⟩
  cases hp : p.adr with
  | none => have := hn hp; omega
  | some b => exact ⟨b, by rw [updA_new]; exact hp, by rw [updA_new, ho]; simp⟩

/-- A block of the library's kind 'ownsRow' as a row of a state. -/
theorem row_of_owns {V : Nat → Prop} {ρ : Nat → At} {w' : World} {nx T sz n : Nat} {v : Value} {es : List (List DC)} {base : Nat} (h : w'.ownsRow base T sz v n (flatE es)) (hn : es.length = n) (hs : ∀ e ∈ es, e.length = sz) (hf : ∀ e ∈ es, ∀ c ∈ e, DC.flat c) :
    ∃ p : At, Holds (newV V nx (nx + 1)) (updA ρ nx p) w' p (.row T es) ∧ SVr (newV V nx (nx + 1)) (updA ρ nx p) (.c (.sl nx sz 0 n)) v ∧ p.F = (fun b => v.ownBlock = some b) := by
  obtain ⟨_, h2⟩ := h
  rcases h2 with ⟨rfl, h3⟩ | ⟨g, cap, cur, rfl, hb, hg, hle, hm, hsz, ht⟩
  · subst h3
    have : es = [] := List.eq_nil_of_length_eq_zero hn
    subst this
    refine ⟨⟨none, 0, sz, 0, True, _⟩, ⟨⟨rfl, trivial⟩, Nat.zero_le _, by simp, hs, hf, fun _ => rfl, fun b hb => (by cases hb)⟩, ?_, rfl⟩
    exact row_val (p := ⟨none, 0, sz, 0, True, _⟩) rfl (Nat.le_refl _) (Nat.zero_le _) (fun _ => rfl) rfl
  · refine ⟨⟨some g, 0, sz, cap, True, _⟩, ⟨⟨rfl, trivial⟩, hm, by simp only; omega, hs, hf, fun h => (by cases h), fun b hb => ?_⟩, ?_, rfl⟩
    · cases hb
      exact ⟨rfl, cur, hg, hsz, by rw [hn]; exact ht⟩
    · exact row_val (p := ⟨some g, 0, sz, cap, True, _⟩) rfl hle hm (fun h => (by cases h)) rfl

theorem dcsOf_r {V : Nat → Prop} {ρ : Nat → At} : ∀ {l : List CV} {d : List DC} {us : List Value}, dcsOf l = some d → All2 (CVr V ρ) l us → us = d.map DC.val ∧ (∀ c ∈ d, DC.flat c) ∧ d.length = l.length
  | [], d, us, h, hr => by
    cases h
    cases us with
    | nil => exact ⟨rfl, fun c hc => (by cases hc), rfl⟩
    | cons => exact hr.elim
  | c :: l, d, us, h, hr => by
    unfold dcsOf at h
    split at h
    · rename_i d1 r h1 h2
      cases h
      cases us with
      | nil => exact hr.elim
      | cons u us =>
        obtain ⟨q1, q2, q3⟩ := dcsOf_r h2 hr.2
        cases c <;> simp only [dcOf] at h1 <;> try (cases h1; done)
        rename_i x
        cases h1
        obtain ⟨rfl, hx⟩ := hr.1
        refine ⟨by rw [q1]; rfl, fun c hc => ?_, by simp [q3]⟩
        rcases List.mem_cons.1 hc with rfl | hc
        · exact ⟨_, rfl, hx⟩
        · exact q2 c hc
    · cases h

theorem chunk_r {V : Nat → Prop} {ρ : Nat → At} {sz : Nat} : ∀ (n : Nat) {cs : List CV} {us : List Value} {es : List (List DC)}, cs.length = n * sz → dcssOf (chunk sz n cs) = some es → All2 (CVr V ρ) cs us →
    us = flatE es ∧ es.length = n ∧ (∀ e ∈ es, e.length = sz) ∧ ∀ e ∈ es, ∀ c ∈ e, DC.flat c
  | 0, cs, us, es, hl, h, hr => by
    cases h
    have : cs = [] := List.eq_nil_of_length_eq_zero (by simpa using hl)
    subst this
    cases us with
    | nil => exact ⟨rfl, rfl, fun e he => (by cases he), fun e he => (by cases he)⟩
    | cons => exact hr.elim
  | n + 1, cs, us, es, hl, h, hr => by
    unfold chunk dcssOf at h
    split at h
    · rename_i d r h1 h2
      cases h
      rw [Nat.add_mul] at hl
      obtain ⟨q1, q2, q3, q4⟩ := chunk_r (V := V) (ρ := ρ) n (by simp; omega) h2 (hr.drop sz)
      obtain ⟨p1, p2, p3⟩ := dcsOf_r h1 (hr.take sz)
      refine ⟨?_, by simp [q2], fun e he => ?_, fun e he => ?_⟩
      · unfold flatE
        rw [List.flatMap_cons, ← p1]
        unfold flatE at q1
        rw [← q1, List.take_append_drop]
      · rcases List.mem_cons.1 he with rfl | he
        · rw [p3]; simp; omega
        · exact q3 e he
      · rcases List.mem_cons.1 he with rfl | he
        · exact p2
        · exact q4 e he
    · cases h

theorem take_mid {α : Type} (l us : List α) (k N : Nat) (h : k + us.length ≤ N) (hN : N ≤ l.length) : (l.take k ++ us ++ l.drop (k + us.length)).take N = (l.take N).take k ++ us ++ (l.take N).drop (k + us.length) := by
  apply List.ext_getElem?
  intro i
  simp only [List.getElem?_take, List.getElem?_append, List.length_append, List.length_take, List.getElem?_drop]
  by_cases h1 : i < N
  · by_cases h2 : i < k
    · simp [h1, show i < min k l.length + us.length by omega, show i < min k l.length by omega, show i < min k (min N l.length) + us.length by omega, show i < min k (min N l.length) by omega, h2]
    · by_cases h3 : i < k + us.length
      · simp [h1, show i < min k l.length + us.length by omega, show ¬ i < min k l.length by omega, show i < min k (min N l.length) + us.length by omega, show ¬ i < min k (min N l.length) by omega, h2]
        congr 1; omega
      · have e : k + us.length + (i - (min k l.length + us.length)) = i := by omega
        have e' : k + us.length + (i - (min k (min N l.length) + us.length)) = i := by omega
        simp [h1, show ¬ i < min k l.length + us.length by omega, show ¬ i < min k (min N l.length) + us.length by omega, e, e']
  · have e' : ¬ k + us.length + (i - (min k (min N l.length) + us.length)) < N := by omega
    simp [h1, show ¬ i < min k (min N l.length) + us.length by omega, e']

theorem flatE_set : ∀ {es : List (List DC)} {sz : Nat}, (∀ e ∈ es, e.length = sz) → ∀ (i : Nat) (hi : i < es.length) (c : Nat) (d : List DC), c + d.length ≤ sz →
    flatE (es.set i (es[i].take c ++ d ++ es[i].drop (c + d.length))) = (flatE es).take (i * sz + c) ++ d.map DC.val ++ (flatE es).drop (i * sz + c + (d.map DC.val).length)
  | x :: es, sz, hs, 0, _, c, d, h => by
    have hx := hs x (by simp)
    unfold flatE
    simp only [List.set_cons_zero, List.flatMap_cons, List.getElem_cons_zero, Nat.zero_mul, Nat.zero_add, List.map_append, List.map_take, List.map_drop, List.length_map]
    rw [List.take_append_of_le_length (by simp; omega), List.drop_append_of_le_length (by simp; omega)]
    simp [List.append_assoc]
  | x :: es, sz, hs, i + 1, hi, c, d, h => by
    have hx := hs x (by simp)
    have ih := flatE_set (es := es) (sz := sz) (fun e he => hs e (by simp [he])) i (by simpa using hi) c d h
    unfold flatE at ih ⊢
    simp only [List.set_cons_succ, List.flatMap_cons, List.getElem_cons_succ]
    rw [ih]
    have hxl : (x.map DC.val).length = sz := by simp [hx]
    have t1 : (x.map DC.val).take ((i + 1) * sz + c) = x.map DC.val := List.take_of_length_le (by rw [hxl, Nat.add_mul]; omega)
    have t2 : (x.map DC.val).drop ((i + 1) * sz + c + (d.map DC.val).length) = [] := List.drop_eq_nil_of_le (by rw [hxl, Nat.add_mul]; omega)
    rw [List.take_append, List.drop_append, t1, t2, hxl, show (i + 1) * sz + c - sz = i * sz + c by rw [Nat.add_mul]; omega, show (i + 1) * sz + c + (d.map DC.val).length - sz = i * sz + c + (d.map DC.val).length by rw [Nat.add_mul]; omega]
    simp [List.append_assoc]

theorem run_storeAt_gen {P : Program} {w : World} {b o T t : Nat} {cur : Array Value} {u : Value} {us : List Value} (hg : w.heap[b]? = some (.cells cur T (0, 0))) (hu : u.cells.toList = us) (h1 : ∀ v ∈ us, v.oneCell' = true)
    (hl : o + us.length ≤ cur.size) (hi : (P.info? t).map (·.size) = some us.length) :
    (Instr.storeAt t (.pointer (some ⟨b, o, none⟩)) u).run P w = .ok () (w.setRow b (cur.toList.take o ++ us ++ cur.toList.drop (o + us.length)).toArray) := by
  have := run_storeCells_at P b o T us 0 cur w hg (by simpa using hl) h1
  simp only [Nat.add_zero] at this
  cases hq : P.info? t with
  | none => simp [hq] at hi
  | some i =>
    have hs : i.size = us.length := by simpa [hq] using hi
    have hus : u.cells.size = us.length := by rw [← hu]; simp
    simp [Instr.storeAt, Instr.sureAddr, storeVar, sizeOf, typeInfo, hq, hs, hus, hu, this]

theorem setRow_size (w : World) (g : Nat) (cs : Array Value) : (w.setRow g cs).heap.size = w.heap.size := by simp [World.setRow]

theorem Done.set {V : Nat → Prop} {ρ : Nat → At} {H : Heap} {nx : Nat} {w : World} {f b : Nat} {cs : Array Value} {blk : Blk} (hV : V f) (hf : f < nx) {b0 : Blk} (hH : hget H f = some b0) (hx : ∀ b, (ρ f).F b → b0.exc (ρ f) b) (hold : Holds V ρ (w.setRow b cs) (ρ f) blk) (hb : (ρ f).F b) (hF : ∀ b, (ρ f).F b → b < w.heap.size) :
    Done V ρ H nx w ⟨.any, [f], [(f, some blk)], nx⟩ undef ρ (w.setRow b cs) := by
  refine ⟨same_of fun _ _ => rfl, trivial, ⟨fun g blk' h => ?_, fun g k blk1 blk2 hne h h' => ?_⟩, fun g blk' h b' hb' => ?_, rfl, rfl, rfl, by rw [setRow_size]; exact Nat.le_refl _, fun k hk hn => ?_⟩
  · simp only [hget] at h
    split at h
    · rename_i e; subst e; cases h
      exact ⟨.inl hV, hold.keep (fun f hf => ⟨.inl hf, rfl⟩) (fun _ _ => rfl), fun b' hb' => by rw [setRow_size]; exact hF b' hb'⟩
    · cases h
  · simp only [hget] at h h'
    split at h
    · split at h'
      · omega
      · cases h'
    · cases h
  · simp only [hget] at h
    split at h
    · rename_i e; subst e
      exact .inr (.inl ⟨g, _, List.mem_cons_self, hf, _, hH, hx b' hb'⟩)
    · cases h
  · refine setRow_other w b k cs ?_
    rintro rfl
    exact hn f _ List.mem_cons_self hf ⟨_, hH, hx _ hb⟩

theorem EffOK.of_set {P : Program} {o : Oper} {ev : Operand → SV} {H : Heap} {nx f : Nat} {b0 blk : Blk} (hf : f < nx) (hH : hget H f = some b0) (hx : ∀ p b, At.F p b → b0.exc p b)
    (h : ∀ (V : Nat → Prop) (ρ : Nat → At) (a : Act) (w : World), (∀ x, SVr V ρ (ev x) (a.eval x)) → V f → Holds V ρ w (ρ f) b0 →
      ∃ b cs, (execOp a.eval o).run P w = .ok .skip (w.setRow b cs) ∧ (ρ f).F b ∧ Holds V ρ (w.setRow b cs) (ρ f) blk) : EffOK P o ev H nx ⟨.any, [f], [(f, some blk)], nx⟩ := by
  intro V ρ a w K Q hV hev hm hK
  obtain ⟨h1, h2, h3⟩ := hm.dom f b0 (looked_get (by simp) hH)
  obtain ⟨b, cs, q1, q2, q3⟩ := h V ρ a w hev h1 h2
  unfold Oper.wp
  rw [q1]
  exact hK undef ρ _ (Done.set h1 hf hH (hx _) q3 q2 h3)

theorem fit_set {H : Heap} {nx f : Nat} {b0 : Blk} {b : Option Blk} (hf : f < nx) (hH : hget H f = some b0) (ho : b0.own = true) : Fit H nx ⟨.any, [f], [(f, b)], nx⟩ :=
  ⟨Nat.le_refl _, fun g hg => by simp at hg; subst hg; exact ⟨_, hH⟩, fun g b hb => by simp at hb; obtain ⟨rfl, _⟩ := hb; exact ⟨hf, fun _ => ⟨by simp, b0, hH, ho⟩⟩, by simp⟩

/-- All numbers of blocks of a heap are taken. -/
def Bnd (H : Heap) (nx : Nat) : Prop := ∀ f blk, hget H f = some blk → f < nx

end Go.Proofs.Ytfnhchcgieeedaa

namespace Go.Proofs.Ytfnhchcgieeedaa
set_option linter.unusedSimpArgs false
set_option linter.unusedVariables false
set_option linter.defProp false
open Go.RowKit

theorem RowAt.rd {w : World} {q : At} {T sz : Nat} {d : List (List DC)} {F : Nat → Prop} (h : RowAt w q T d) (hs : q.sz = sz) (hF : ∀ b, q.F b → F b) : Rd w F (.sl T sz d) (.slice (q.adr.map (⟨·, 0, none⟩)) d.length q.cap) := by
  obtain ⟨⟨hoff, hex⟩, hcm, hle, hss, hflat, hn, hrow⟩ := h
  refine .sl (fun i j => (((d[i]?).bind (·[j]?)).map DC.val).getD undef) hle hcm (fun ha => ?_) (fun e he => (hss e he).trans hs) (fun hne => ?_) fun i e j c hi hj => ?_
  · cases hq : q.adr with
    | none => exact hn hq
    | some b => rw [hq] at ha; cases ha
  · cases hq : q.adr with
    | none => have := hn hq; exact absurd (List.eq_nil_of_length_eq_zero (by omega)) hne
    | some b =>
      obtain ⟨h1, cur, h2, h3, h4⟩ := hrow b hq
      refine ⟨b, 0, rfl, hF b h1, fun i j hi hj => ?_⟩
      have hj' : j < (d[i]).length := by rw [hss _ (List.getElem_mem hi), hs]; exact hj
      have := row_cells (p := q) h2 h4 hss hi j (d[i][j]).val (by simp [hj'])
      rw [hs] at this
      rw [Nat.zero_add, this]
      simp [hi, hj']
  · obtain ⟨x, rfl, hx⟩ := hflat e (List.mem_of_getElem? hi) c (List.mem_of_getElem? hj)
    simp only [hi, hj, Option.bind_some, Option.map_some, Option.getD_some, DC.val]
    exact .v hx

section
variable {V : Nat → Prop} {ρ : Nat → At} {w : World} {p : At} {T : Nat} {es : List (List DC)} {h : Option (Nat × Nat × CV)} {q : Nat → Nat → At}

theorem Nest.cell (n : Nest V ρ w p T es h q) {b i c : Nat} {d : DC} (hb : p.adr = some b) (hi : i < es.length) (hd : es[i][c]? = some d) :
    ∃ u, w.cell? ⟨b, i * p.sz + c, none⟩ = some u ∧ CelH V ρ w (q i c) (holeAt h i c) d u := by
  obtain ⟨h1, cur, h2, h3, h4⟩ := n.cells b hb
  obtain ⟨u, h5, h6⟩ := h4 i es[i] c d (List.getElem?_eq_getElem hi) hd
  exact ⟨u, by simp [World.cell?, h2, h5], h6⟩

theorem Nest.rd (n : Nest V ρ w p T es none q) : ∀ i e j c b, es[i]? = some e → e[j]? = some c → p.adr = some b → ∃ u, w.cell? ⟨b, p.off + i * p.sz + j, none⟩ = some u ∧ Rd w p.F c u := by
  intro i e j c b hi hj hb
  obtain ⟨h1, cur, h2, h3, h4⟩ := n.cells b hb
  obtain ⟨u, h5, h6⟩ := h4 i e j c hi hj
  refine ⟨u, by rw [n.off.1, Nat.zero_add]; simp [World.cell?, h2, h5], ?_⟩
  have h6 : Cel w (q i j) c u := h6
  cases c with
  | v x => obtain ⟨rfl, hx⟩ := h6; exact .v hx
  | sl T' sz d => obtain ⟨g1, g2, rfl⟩ := h6; exact g2.rd g1 fun b hb => (n.sub i j b hb).1

theorem Nest.hole {V' : Nat → Prop} {ρ' : Nat → At} {h' : Option (Nat × Nat × CV)} (n : Nest V ρ w p T es h q) (hh : ∀ i j u, (holeAt h i j = none → holeAt h' i j = none) ∧ ∀ x, holeAt h i j = some x → ∃ x', holeAt h' i j = some x' ∧ (CVr V ρ x u → CVr V' ρ' x' u)) : Nest V' ρ' w p T es h' q := by
  refine ⟨n.off, n.cap, n.le, n.sz, n.nil, n.sub, n.apart, fun b hb => ?_⟩
  obtain ⟨h1, cur, h2, h3, h4⟩ := n.cells b hb
  refine ⟨h1, cur, h2, h3, fun i e j c hi hj => ?_⟩
  obtain ⟨u, h5, h6⟩ := h4 i e j c hi hj
  refine ⟨u, h5, ?_⟩
  obtain ⟨q1, q2⟩ := hh i j u
  unfold CelH at h6 ⊢
  cases hx : holeAt h i j with
  | none => rw [hx] at h6; rw [q1 hx]; exact h6
  | some x =>
    obtain ⟨x', q3, q4⟩ := q2 x hx
    rw [hx] at h6; rw [q3]; exact q4 h6
end

theorem splice_get {α : Type} (l us : List α) {o : Nat} (h : o ≤ l.length) (k : Nat) : (l.take o ++ us ++ l.drop (o + us.length))[k]? = if k < o then l[k]? else if k < o + us.length then us[k - o]? else l[k]? := by
  have hm : min o l.length = o := Nat.min_eq_left h
  simp only [List.getElem?_append, List.length_append, List.length_take, List.getElem?_take, List.getElem?_drop, hm]
  by_cases h1 : k < o
  · simp [h1, show k < o + us.length by omega]
  · by_cases h2 : k < o + us.length
    · simp [h1, h2]
    · simp only [h1, h2, if_false]
      congr 1; omega

def At.none0 (sz : Nat) : At := ⟨none, 0, sz, 0, True, fun _ => False⟩

theorem cel_none (w : World) (T sz : Nat) : Cel w (At.none0 sz) (.sl T sz []) (.slice none 0 0) :=
  ⟨rfl, ⟨⟨rfl, trivial⟩, Nat.zero_le _, Nat.le_refl _, fun e he => (by cases he), fun e he => (by cases he), fun _ => rfl, fun b hb => (by cases hb)⟩, rfl⟩

theorem distB_nodup : ∀ {l : List Nat}, distB l = true → l.Nodup
  | [], _ => List.nodup_nil
  | k :: l, h => by
    simp only [distB, Bool.and_eq_true, Bool.not_eq_true', List.contains_eq_mem, decide_eq_false_iff_not] at h
    exact List.nodup_cons.2 ⟨h.1, distB_nodup h.2⟩

theorem noneB_nil : noneB [] = [] := rfl
theorem noneB_cons (k : Nat) (l : List Nat) : noneB (k :: l) = (k, none) :: noneB l := rfl
theorem absP_nil (H : Heap) (l : List CV) : absP H [] l = True := by unfold absP; rfl
theorem mixP_nil (H : Heap) (l : List CV) : mixP H [] l = True := by unfold mixP; rfl
theorem hget_noneB : ∀ (l : List Nat) (f : Nat), hget (noneB l) f = none
  | [], _ => rfl
  | k :: l, f => by
    show (if f = k then none else hget (noneB l) f) = none
    split
    · rfl
    · exact hget_noneB l f

theorem mem_noneB {l : List Nat} {f : Nat} {b : Option Blk} (h : (f, b) ∈ noneB l) : f ∈ l ∧ b = none := by
  obtain ⟨g, h1, h2⟩ := List.mem_map.1 h
  cases h2
  exact ⟨h1, rfl⟩

/-- The new cells' places. -/
theorem absL_r {V : Nat → Prop} {ρ : Nat → At} {H : Heap} {w : World} {rd : List Nat} (hm : Mem V ρ (looked H rd) w) : ∀ {o : List DC} {l : List CV} {r : List DC × List Nat} {us : List Value}, absL H o l = some r → absP H o l → All2 (CVr V ρ) l us →
    (∀ g ∈ r.2, g ∈ rd) → distB r.2 = true →
    r.1.length = l.length ∧ (∀ g ∈ r.2, ∃ T d, hget H g = some (.row T d)) ∧ ∃ pl : Nat → At, (∀ m c u, r.1[m]? = some c → us[m]? = some u → Cel w (pl m) c u) ∧ (∀ m b, (pl m).F b → ∃ g ∈ r.2, (ρ g).F b) ∧ (∀ m m' b, (pl m).F b → (pl m').F b → m = m')
  | [], [], r, us, h, _, _, _, _ => by
    cases h
    exact ⟨rfl, fun g hg => (by cases hg), fun _ => At.none0 0, fun m c u hc => (by simp at hc), fun m b hb => hb.elim, fun m m' b hb => hb.elim⟩
  | [], _ :: _, r, us, h, _, _, _, _ => by simp [absL] at h
  | .v _ :: _, [], r, us, h, _, _, _, _ => by simp [absL] at h
  | .sl _ _ _ :: _, [], r, us, h, _, _, _, _ => by simp [absL] at h
  | .v y :: o, x :: l, r, us, h, hP, hr, hg, hd => by
    cases x with
    | v x =>
      simp only [absL] at h
      split at h
      · rename_i r' hr'
        cases h
        cases us with
        | nil => exact hr.elim
        | cons u us =>
          obtain ⟨h1, h2, pl, h3, h4, h5⟩ := absL_r hm hr' hP hr.2 hg hd
          refine ⟨by simp [h1], h2, fun m => match m with | 0 => At.none0 0 | m + 1 => pl m, fun m c u' hc hu => ?_, fun m b hb => ?_, fun m m' b hb hb' => ?_⟩
          · cases m with
            | zero => simp at hc hu; subst hc hu; exact hr.1
            | succ m => exact h3 m c u' (by simpa using hc) (by simpa using hu)
          · cases m with
            | zero => exact hb.elim
            | succ m => exact h4 m b hb
          · cases m with
            | zero => exact hb.elim
            | succ m => cases m' with
              | zero => exact hb'.elim
              | succ m' => rw [h5 m m' b hb hb']
      · cases h
    | any => simp [absL] at h
    | nil => simp [absL] at h
    | ptr _ _ _ => simp [absL] at h
    | sl _ _ _ _ => simp [absL] at h
  | .sl T sz y :: o, x :: l, r, us, h, hP, hr, hg, hd => by
    cases x with
    | v x => simp [absL] at h
    | any => simp [absL] at h
    | ptr _ _ _ => simp [absL] at h
    | nil =>
      simp only [absL] at h
      split at h
      · rename_i r' hr'
        cases h
        cases us with
        | nil => exact hr.elim
        | cons u us =>
          obtain ⟨h1, h2, pl, h3, h4, h5⟩ := absL_r hm hr' hP hr.2 hg hd
          refine ⟨by simp [h1], h2, fun m => match m with | 0 => At.none0 sz | m + 1 => pl m, fun m c u' hc hu => ?_, fun m b hb => ?_, fun m m' b hb hb' => ?_⟩
          · cases m with
            | zero =>
              simp at hc hu; subst hc hu
              have : u = .slice none 0 0 := hr.1
              subst this
              exact cel_none w T sz
            | succ m => exact h3 m c u' (by simpa using hc) (by simpa using hu)
          · cases m with
            | zero => exact hb.elim
            | succ m => exact h4 m b hb
          · cases m with
            | zero => exact hb.elim
            | succ m => cases m' with
              | zero => exact hb'.elim
              | succ m' => rw [h5 m m' b hb hb']
      · cases h
    | sl g sz' b n =>
      simp only [absL] at h
      split at h
      · rename_i T' d hH
        split at h
        · rename_i r' hr'
          cases h
          cases us with
          | nil => exact hr.elim
          | cons u us =>
            simp only [absP, hH] at hP
            obtain ⟨⟨rfl, rfl, rfl, rfl⟩, hP⟩ := hP
            simp only [distB, Bool.and_eq_true, Bool.not_eq_true', List.contains_eq_mem, decide_eq_false_iff_not] at hd
            obtain ⟨h1, h2, pl, h3, h4, h5⟩ := absL_r hm hr' hP hr.2 (fun k hk => hg k (by simp [hk])) hd.2
            obtain ⟨q1, q2, q3⟩ := hm.dom g _ (looked_get (hg g (by simp)) hH)
            have q2 : RowAt w (ρ g) T' d := q2
            have cel : Cel w (ρ g) (.sl T' sz' d) u := by
              obtain ⟨_, s1, a, cp, rfl, s2, s3, s4, s5, s6⟩ := hr.1
              obtain ⟨s7, s8⟩ := s5 rfl q2.1.2
              refine ⟨s1, q2, ?_⟩
              rw [s7, s8, q2.1.1]
            have ap : ∀ m b, (ρ g).F b → (pl m).F b → False := fun m b hb hb' => by
              obtain ⟨g', e1, e2⟩ := h4 m b hb'
              obtain ⟨T2, d2, e3⟩ := h2 g' e1
              exact hm.sep g g' _ _ (fun e => hd.1 (by rw [e]; exact e1)) (looked_get (hg g (by simp)) hH) (looked_get (hg g' (by simp [e1])) e3) b hb e2
            refine ⟨by simp [h1], fun k hk => ?_, fun m => match m with | 0 => ρ g | m + 1 => pl m, fun m c u' hc hu => ?_, fun m b hb => ?_, fun m m' b hb hb' => ?_⟩
            · rcases List.mem_cons.1 hk with rfl | hk
              · exact ⟨_, _, hH⟩
              · exact h2 k hk
            · cases m with
              | zero => simp at hc hu; subst hc hu; exact cel
              | succ m => exact h3 m c u' (by simpa using hc) (by simpa using hu)
            · cases m with
              | zero => exact ⟨g, by simp, hb⟩
              | succ m => obtain ⟨g', e1, e2⟩ := h4 m b hb; exact ⟨g', by simp [e1], e2⟩
            · cases m with
              | zero => cases m' with
                | zero => rfl
                | succ m' => exact (ap m' b hb hb').elim
              | succ m => cases m' with
                | zero => exact (ap m b hb' hb).elim
                | succ m' => rw [h5 m m' b hb hb']
        · cases h
      · cases h

theorem holeAt_in {h : Option (Nat × Nat × CV)} {i c n i' j' : Nat} (hh : holeIn h i c n) (ho : ¬ (i' = i ∧ c ≤ j' ∧ j' < c + n)) : holeAt h i' j' = none := by
  unfold holeAt
  unfold holeIn at hh
  split
  · obtain ⟨h1, h2, h3⟩ := hh
    rw [if_neg]
    rintro ⟨rfl, rfl⟩
    exact ho ⟨h1, h2, h3⟩
  · rfl

/-- Cells that are written. -/
theorem Nest.put {V : Nat → Prop} {ρ : Nat → At} {w : World} {p : At} {T : Nat} {es : List (List DC)} {h : Option (Nat × Nat × CV)} {q : Nat → Nat → At} (n : Nest V ρ w p T es h q) {b i c : Nat} {d : List DC} {us : List Value} {pl : Nat → At} {R : Nat → Prop} {cur : Array Value}
    (hb : p.adr = some b) (hg : w.heap[b]? = some (.cells cur T (0, 0))) (hi : i < es.length) (hl : d.length = us.length) (hc : c + d.length ≤ es[i].length) (hh : holeIn h i c d.length)
    (hp : ∀ m x u, d[m]? = some x → us[m]? = some u → Cel w (pl m) x u) (hR : ∀ m b, (pl m).F b → R b) (hpa : ∀ m m' b, (pl m).F b → (pl m').F b → m = m') (hd : ∀ b, R b → ¬ p.F b) (V' : Nat → Prop) (ρ' : Nat → At) :
    Nest V' ρ' (w.setRow b (cur.toList.take (i * p.sz + c) ++ us ++ cur.toList.drop (i * p.sz + c + us.length)).toArray) { p with F := fun b => p.F b ∨ R b } T (es.set i (es[i].take c ++ d ++ es[i].drop (c + d.length))) none
      (fun i' j' => if i' = i ∧ c ≤ j' ∧ j' < c + d.length then pl (j' - c) else q i' j') := by
  obtain ⟨hF, cur', g1, g2, g3⟩ := n.cells b hb
  rw [hg] at g1
  cases g1
  have hei : es[i].length = p.sz := n.sz _ (List.getElem_mem hi)
  have hrow : es.length * p.sz ≤ cur.size := by rw [g2]; exact Nat.mul_le_mul_right _ n.le
  have hi1 : (i + 1) * p.sz ≤ es.length * p.sz := Nat.mul_le_mul_right _ hi
  rw [Nat.add_mul, Nat.one_mul] at hi1
  have hlen : (es[i].take c ++ d ++ es[i].drop (c + d.length)).length = p.sz := by simp; omega
  have other : ∀ k, p.F k ∨ R k → k ≠ b → (w.setRow b (cur.toList.take (i * p.sz + c) ++ us ++ cur.toList.drop (i * p.sz + c + us.length)).toArray).heap[k]? = w.heap[k]? := fun k _ hk => setRow_other w b k _ hk
  refine ⟨n.off, n.cap, by simpa using n.le, fun e he => ?_, n.nil, fun i' j' b' hb' => ?_, fun i1' j1 i2 j2 b' h1 h2 => ?_, fun b' hb' => ?_⟩
  · rcases List.mem_or_eq_of_mem_set he with he | rfl
    · exact n.sz e he
    · exact hlen
  · split at hb'
    · have := hR _ _ hb'
      exact ⟨.inr this, fun e => hd b' this (by rw [hb] at e; cases e; exact hF)⟩
    · obtain ⟨e1, e2⟩ := n.sub i' j' b' hb'
      exact ⟨.inl e1, e2⟩
  · split at h1
    · rename_i k1
      split at h2
      · rename_i k2
        have := hpa _ _ _ h1 h2
        omega
      · exact absurd (n.sub _ _ _ h2).1 (hd b' (hR _ _ h1))
    · split at h2
      · exact absurd (n.sub _ _ _ h1).1 (hd b' (hR _ _ h2))
      · exact n.apart _ _ _ _ _ h1 h2
  · have hb' : p.adr = some b' := hb'
    rw [hb] at hb'; cases hb'
    refine ⟨.inl hF, _, setRow_heap w b _ _ T _ hg, ?_, fun i' e j' x hi' hj' => ?_⟩
    · show _ = p.cap * p.sz
      rw [← g2]
      simp only [List.size_toArray, List.length_append, List.length_take, List.length_drop, Array.length_toList]
      omega
    · show ∃ u, _[i' * p.sz + j']? = some u ∧ _
      have hget : ∀ k, (cur.toList.take (i * p.sz + c) ++ us ++ cur.toList.drop (i * p.sz + c + us.length)).toArray[k]? = if k < i * p.sz + c then cur[k]? else if k < i * p.sz + c + us.length then us[k - (i * p.sz + c)]? else cur[k]? := by
        intro k
        have := splice_get cur.toList us (o := i * p.sz + c) (by simp; omega) k
        simpa using this
      rw [hget]
      have hnone : holeAt none i' j' = none := rfl
      rw [hnone]
      by_cases hii : i' = i
      · subst hii
        rw [List.getElem?_set_self (by omega)] at hi'
        cases hi'
        rw [splice_get _ _ (by omega)] at hj'
        by_cases k1 : j' < c
        · rw [if_pos k1] at hj'
          obtain ⟨u, e1, e2⟩ := g3 i' es[i'] j' x (List.getElem?_eq_getElem hi) hj'
          rw [holeAt_in hh (by omega)] at e2
          rw [if_pos (by omega), if_neg (by omega)]
          exact ⟨u, e1, Cel.keep (fun k hk => other k (.inl (n.sub _ _ _ hk).1) fun e => (n.sub _ _ _ hk).2 (by rw [hb, e])) e2⟩
        · rw [if_neg k1] at hj'
          by_cases k2 : j' < c + d.length
          · rw [if_pos k2] at hj'
            rw [if_neg (by omega), if_pos (by omega), if_pos ⟨rfl, by omega, k2⟩]
            have e : i' * p.sz + j' - (i' * p.sz + c) = j' - c := by omega
            rw [e]
            obtain ⟨u, hu⟩ : ∃ u, us[j' - c]? = some u := ⟨_, List.getElem?_eq_getElem (by omega)⟩
            exact ⟨u, hu, Cel.keep (fun k hk => other k (.inr (hR _ _ hk)) fun e => hd k (hR _ _ hk) (by rw [e]; exact hF)) (hp _ _ _ hj' hu)⟩
          · rw [if_neg k2] at hj'
            obtain ⟨u, e1, e2⟩ := g3 i' es[i'] j' x (List.getElem?_eq_getElem hi) hj'
            rw [holeAt_in hh (by omega)] at e2
            rw [if_neg (by omega), if_neg (by omega), if_neg (by omega)]
            exact ⟨u, e1, Cel.keep (fun k hk => other k (.inl (n.sub _ _ _ hk).1) fun e => (n.sub _ _ _ hk).2 (by rw [hb, e])) e2⟩
      · rw [List.getElem?_set_ne (fun e => hii e.symm)] at hi'
        obtain ⟨u, e1, e2⟩ := g3 i' e j' x hi' hj'
        have hel : e.length = p.sz := n.sz e (List.mem_of_getElem? hi')
        have hjl : j' < p.sz := by rw [← hel]; exact (List.getElem?_eq_some_iff.1 hj').1
        rw [holeAt_in hh (by omega)] at e2
        have hk : i' * p.sz + j' < i * p.sz + c ∨ i * p.sz + c + us.length ≤ i' * p.sz + j' := by
          rcases Nat.lt_or_gt_of_ne hii with k | k
          · left
            have := Nat.mul_le_mul_right p.sz (show i' + 1 ≤ i from k)
            rw [Nat.add_mul, Nat.one_mul] at this
            omega
          · right
            have := Nat.mul_le_mul_right p.sz (show i + 1 ≤ i' from k)
            rw [Nat.add_mul, Nat.one_mul] at this
            omega
        refine ⟨u, ?_, ?_⟩
        · rcases hk with k | k
          · rw [if_pos k]; exact e1
          · rw [if_neg (by omega), if_neg (by omega)]; exact e1
        · rw [if_neg (by omega)]
          exact Cel.keep (fun k hk => other k (.inl (n.sub _ _ _ hk).1) fun e => (n.sub _ _ _ hk).2 (by rw [hb, e])) e2

/-- A block of the library's kind 'ownsRow' as a row with rows in it. -/
theorem nst_of_owns {V : Nat → Prop} {ρ : Nat → At} {w' : World} {nx T sz n base : Nat} {v : Value} {us : List Value} {es : List (List DC)} (h : w'.ownsRow base T sz v n us) (hn : es.length = n) (hs : ∀ e ∈ es, e.length = sz) (q : Nat → Nat → At)
    (hq1 : ∀ i j b, (q i j).F b → v.ownBlock ≠ some b) (hq2 : ∀ i j i' j' b, (q i j).F b → (q i' j').F b → i = i' ∧ j = j')
    (hc : ∀ i e j c, es[i]? = some e → e[j]? = some c → ∃ u, us[i * sz + j]? = some u ∧ Cel w' (q i j) c u) :
    ∃ p : At, Holds (newV V nx (nx + 1)) (updA ρ nx p) w' p (.nst T es none) ∧ SVr (newV V nx (nx + 1)) (updA ρ nx p) (.c (.sl nx sz 0 n)) v ∧ p.F = (fun b => v.ownBlock = some b ∨ ∃ i j, (q i j).F b) := by
  obtain ⟨_, h2⟩ := h
  rcases h2 with ⟨rfl, h3⟩ | ⟨g, cap, cur, rfl, hb, hg, hle, hm, hsz, ht⟩
  · subst h3
    have : es = [] := List.eq_nil_of_length_eq_zero hn
    subst this
    refine ⟨⟨none, 0, sz, 0, True, _⟩, ⟨q, ⟨rfl, trivial⟩, Nat.zero_le _, by simp, hs, fun _ => rfl, fun i j b hb => ⟨.inr ⟨i, j, hb⟩, fun e => (by cases e)⟩, hq2, fun b hb => (by cases hb)⟩, ?_, rfl⟩
    exact row_val (p := ⟨none, 0, sz, 0, True, _⟩) rfl (Nat.le_refl _) (Nat.zero_le _) (fun _ => rfl) rfl
  · refine ⟨⟨some g, 0, sz, cap, True, _⟩, ⟨q, ⟨rfl, trivial⟩, hm, by simp only; omega, hs, fun h => (by cases h), fun i j b hb => ⟨.inr ⟨i, j, hb⟩, fun e => ?_⟩, hq2, fun b hb => ?_⟩, ?_, rfl⟩
    · cases e
      exact hq1 i j _ hb rfl
    · cases hb
      refine ⟨.inl rfl, cur, hg, hsz, fun i e j c hi hj => ?_⟩
      obtain ⟨u, e1, e2⟩ := hc i e j c hi hj
      refine ⟨u, ?_, e2⟩
      rw [← ht, List.getElem?_take] at e1
      split at e1
      · simpa using e1
      · cases e1
    · exact row_val (p := ⟨some g, 0, sz, cap, True, _⟩) rfl hle hm (fun h => (by cases h)) rfl

theorem mix_of_owns {V : Nat → Prop} {ρ : Nat → At} {w' : World} {nx T sz n base : Nat} {v : Value} {us : List Value} {es : List (List DC)} (h : w'.ownsRow base T sz v n us) (hn : es.length = n) (hs : ∀ e ∈ es, e.length = sz) (R : Nat → Prop)
    (hR : ∀ b, R b → v.ownBlock ≠ some b) (hc : ∀ i e j c, es[i]? = some e → e[j]? = some c → ∃ u, us[i * sz + j]? = some u ∧ Rd w' R c u) :
    ∃ p : At, Holds (newV V nx (nx + 1)) (updA ρ nx p) w' p (.mix T es) ∧ SVr (newV V nx (nx + 1)) (updA ρ nx p) (.c (.sl nx sz 0 n)) v ∧ p.F = (fun b => v.ownBlock = some b ∨ R b) ∧ ∀ b, p.adr = some b → v.ownBlock = some b := by
  obtain ⟨_, h2⟩ := h
  rcases h2 with ⟨rfl, h3⟩ | ⟨g, cap, cur, rfl, hb, hg, hle, hm, hsz, ht⟩
  · subst h3
    have : es = [] := List.eq_nil_of_length_eq_zero hn
    subst this
    refine ⟨⟨none, 0, sz, 0, True, _⟩, ⟨⟨rfl, trivial⟩, Nat.zero_le _, by simp, hs, fun _ => rfl, fun b hb => (by cases hb)⟩, ?_, rfl, fun b hb => (by cases hb)⟩
    exact row_val (p := ⟨none, 0, sz, 0, True, _⟩) rfl (Nat.le_refl _) (Nat.zero_le _) (fun _ => rfl) rfl
  · refine ⟨⟨some g, 0, sz, cap, True, _⟩, ⟨⟨rfl, trivial⟩, hm, by simp only; omega, hs, fun h => (by cases h), fun b hb => ?_⟩, ?_, rfl, fun b hb => hb⟩
    · cases hb
      refine ⟨.inl rfl, cur, hg, hsz, fun i e j c hi hj => ?_⟩
      obtain ⟨u, e1, e2⟩ := hc i e j c hi hj
      refine ⟨u, ?_, e2.keep fun k hk => ⟨⟨.inr hk, fun e => hR k hk (by cases e; rfl)⟩, rfl⟩⟩
      rw [← ht, List.getElem?_take] at e1
      split at e1
      · simpa using e1
      · cases e1
    · exact row_val (p := ⟨some g, 0, sz, cap, True, _⟩) rfl hle hm (fun h => (by cases h)) rfl

theorem Done.mix {V : Nat → Prop} {ρ : Nat → At} {H : Heap} {nx : Nat} {w w' : World} {r : SV} {u : Value} {rd ks : List Nat} {p : At} {T : Nat} {es : List (List DC)} (hold : Holds (newV V nx (nx + 1)) (updA ρ nx p) w' p (.mix T es))
    (hF : ∀ b, p.F b → (w.heap.size ≤ b ∨ (∃ g ∈ ks, excH (hget H) ρ g b) ∨ (p.adr ≠ some b ∧ ∃ g ∈ rd, ∃ blk', hget H g = some blk' ∧ (ρ g).F b ∧ ¬ blk'.exc (ρ g) b)) ∧ b < w'.heap.size) (hks : ∀ g ∈ ks, g < nx) (hr : SVr (newV V nx (nx + 1)) (updA ρ nx p) r u)
    (os : w'.os = w.os) (tape : w'.tape = w.tape) (output : w'.output = w.output) (size : w.heap.size ≤ w'.heap.size)
    (block : ∀ k, k < w.heap.size → (∀ g ∈ ks, ¬ excH (hget H) ρ g k) → w'.heap[k]? = w.heap[k]?) :
    Done V ρ H nx w ⟨r, rd, (nx, some (.mix T es)) :: noneB ks, nx + 1⟩ u (updA ρ nx p) w' := by
  refine ⟨same_of fun f hf => updA_same ρ nx p hf, hr, ⟨fun f blk' h => ?_, fun f g blk1 blk2 hne h h' => ?_⟩, fun f blk' h b hb' => ?_, os, tape, output, size, fun k hk hn => block k hk fun g hg => hn g none (List.mem_cons_of_mem _ (List.mem_map.2 ⟨g, hg, rfl⟩)) (hks g hg)⟩
  · simp only [hget] at h
    split at h
    · rename_i e; subst e; cases h
      rw [updA_new]
      exact ⟨.inr ⟨Nat.le_refl _, Nat.lt_succ_self _⟩, hold, fun b hb' => (hF b hb').2⟩
    · rw [hget_noneB] at h; cases h
  · simp only [hget] at h h'
    split at h
    · split at h'
      · omega
      · rw [hget_noneB] at h'; cases h'
    · rw [hget_noneB] at h; cases h
  · simp only [hget] at h
    split at h
    · rename_i e; subst e; cases h
      rw [updA_new] at hb'
      rcases (hF b hb').1 with h1 | ⟨g, h1, h2⟩ | ⟨h1, h2⟩
      · exact .inl h1
      · exact .inr (.inl ⟨g, none, List.mem_cons_of_mem _ (List.mem_map.2 ⟨g, h1, rfl⟩), hks g h1, h2⟩)
      · exact .inr (.inr ⟨by rw [updA_new]; exact h1, h2⟩)
    · rw [hget_noneB] at h; cases h

/-- A slice of a row that is only read, as data. -/
theorem ro_rd {V : Nat → Prop} {ρ : Nat → At} {w : World} {g sz b n T : Nat} {d : List (List DC)} {u : Value} (h : Holds V ρ w (ρ g) (.ro d)) (hu : CVr V ρ (.sl g sz b n) u) (hl : b + n ≤ d.length) : Rd w (ρ g).F (.sl T sz ((d.drop b).take n)) u := by
  obtain ⟨hV, hsz, a, cp, rfl, h3, h4, h5, h6, h7⟩ := hu
  obtain ⟨_, _, _, hs, hne, hcell⟩ := h
  have hlen : ((d.drop b).take n).length = n := by simp; omega
  have hes : ∀ e ∈ (d.drop b).take n, e.length = sz := fun e he => by rw [← hsz]; exact hs e (List.mem_of_mem_drop (List.mem_of_mem_take he))
  have : Rd w (ρ g).F (.sl T sz ((d.drop b).take n)) (.slice a ((d.drop b).take n).length cp) := by
    refine .sl (fun i j => (match (ρ g).adr with | some bb => (w.cell? ⟨bb, (ρ g).off + (b + i) * sz + j, none⟩).getD undef | none => undef)) (by omega) h4 h5 hes (fun hn => ?_) fun i e j c hi hj => ?_
    · have hpos : 0 < n := by rw [← hlen]; exact List.length_pos_iff.2 hn
      obtain ⟨bb, q1, q2⟩ := h7 hpos
      have hFb : (ρ g).F bb := by
        obtain ⟨b2, r1, r2⟩ := hne (by rintro rfl; simp at hl; omega)
        rw [q1] at r1; cases r1; exact r2
      refine ⟨bb, _, q2, hFb, fun i j hi hj => ?_⟩
      rw [hlen] at hi
      have hbi : b + i < d.length := by omega
      have hj' : j < (d[b + i]).length := by rw [hs _ (List.getElem_mem hbi), hsz]; exact hj
      obtain ⟨x, r1, _⟩ := hcell (b + i) _ j _ bb (List.getElem?_eq_getElem hbi) (List.getElem?_eq_getElem hj') q1
      rw [hsz] at r1
      simp only [q1, r1, Option.getD_some]
      rw [← r1]; congr 2
      rw [Nat.add_mul]; omega
    · have hi' : d[b + i]? = some e := by
        have hlt : i < n := by rw [← hlen]; exact (List.getElem?_eq_some_iff.1 hi).1
        rw [List.getElem?_take, if_pos hlt, List.getElem?_drop] at hi
        exact hi
      have hne' : d ≠ [] := by rintro rfl; simp at hi'
      obtain ⟨bb, q1, _⟩ := hne hne'
      obtain ⟨x, r1, r2⟩ := hcell (b + i) e j c bb hi' hj q1
      rw [hsz] at r1
      simp only [q1, r1, Option.getD_some]
      exact r2
  rw [hlen] at this
  exact this

theorem mixL_r {V : Nat → Prop} {ρ : Nat → At} {H : Heap} {w : World} {rd : List Nat} (hm : Mem V ρ (looked H rd) w) : ∀ {o : List DC} {l : List CV} {r : List DC × List Nat} {us : List Value}, mixL H o l = some r → mixP H o l → All2 (CVr V ρ) l us → (∀ g ∈ r.2, g ∈ rd) →
    r.1.length = l.length ∧ ∀ (m : Nat) c u, r.1[m]? = some c → us[m]? = some u → Rd w (fun b => ∃ g ∈ r.2, (ρ g).F b) c u
  | [], [], r, us, h, _, _, _ => by
    cases h
    exact ⟨rfl, fun m c u hc => (by simp at hc)⟩
  | [], _ :: _, r, us, h, _, _, _ => by simp [mixL] at h
  | .v _ :: _, [], r, us, h, _, _, _ => by simp [mixL] at h
  | .sl _ _ _ :: _, [], r, us, h, _, _, _ => by simp [mixL] at h
  | .v y :: o, x :: l, r, us, h, hP, hr, hg => by
    cases x with
    | v x =>
      simp only [mixL] at h
      split at h
      · rename_i r' hr'
        cases h
        cases us with
        | nil => exact hr.elim
        | cons u us =>
          obtain ⟨h1, h3⟩ := mixL_r hm hr' hP hr.2 hg
          refine ⟨by simp [h1], fun m c u' hc hu => ?_⟩
          cases m with
          | zero => simp at hc hu; subst hc hu; obtain ⟨rfl, hx⟩ := hr.1; exact .v hx
          | succ m => exact h3 m c u' (by simpa using hc) (by simpa using hu)
      · cases h
    | any => simp [mixL] at h
    | nil => simp [mixL] at h
    | ptr _ _ _ => simp [mixL] at h
    | sl _ _ _ _ => simp [mixL] at h
  | .sl T sz y :: o, x :: l, r, us, h, hP, hr, hg => by
    cases x with
    | v x => simp [mixL] at h
    | any => simp [mixL] at h
    | ptr _ _ _ => simp [mixL] at h
    | nil =>
      simp only [mixL] at h
      split at h
      · rename_i r' hr'
        cases h
        cases us with
        | nil => exact hr.elim
        | cons u us =>
          obtain ⟨h1, h3⟩ := mixL_r hm hr' hP hr.2 hg
          refine ⟨by simp [h1], fun m c u' hc hu => ?_⟩
          cases m with
          | zero =>
            simp at hc hu; subst hc hu
            have : u = .slice none 0 0 := hr.1
            subst this
            exact .sl (fun _ _ => undef) (Nat.le_refl _) (Nat.zero_le _) (fun _ => rfl) (fun e he => (by cases he)) (fun h => absurd rfl h) fun i e j c hi => (by simp at hi)
          | succ m => exact h3 m c u' (by simpa using hc) (by simpa using hu)
      · cases h
    | sl g sz' b n =>
      simp only [mixL] at h
      split at h
      · rename_i d hH
        split at h
        · rename_i r' hr'
          cases h
          cases us with
          | nil => exact hr.elim
          | cons u us =>
            simp only [mixP, hH] at hP
            obtain ⟨⟨rfl, hbn⟩, hP⟩ := hP
            obtain ⟨h1, h3⟩ := mixL_r hm hr' hP hr.2 (fun k hk => hg k (by simp [hk]))
            obtain ⟨q1, q2, q3⟩ := hm.dom g _ (looked_get (hg g (by simp)) hH)
            refine ⟨by simp [h1], fun m c u' hc hu => ?_⟩
            cases m with
            | zero =>
              simp at hc hu; subst hc hu
              exact (ro_rd q2 hr.1 hbn).keep fun k hk => ⟨⟨g, by simp, hk⟩, rfl⟩
            | succ m =>
              exact (h3 m c u' (by simpa using hc) (by simpa using hu)).keep fun k ⟨g', q4, q5⟩ => ⟨⟨g', by simp [q4], q5⟩, rfl⟩
        · cases h
      · cases h

theorem mixL_ro {H : Heap} : ∀ {o : List DC} {l : List CV} {r : List DC × List Nat}, mixL H o l = some r → ∀ g ∈ r.2, ∃ d, hget H g = some (.ro d)
  | [], [], r, h, g, hg => by cases h; cases hg
  | [], _ :: _, r, h, g, hg => by simp [mixL] at h
  | .v _ :: _, [], r, h, g, hg => by simp [mixL] at h
  | .sl _ _ _ :: _, [], r, h, g, hg => by simp [mixL] at h
  | .v y :: o, x :: l, r, h, g, hg => by
    cases x <;> simp only [mixL] at h <;> try (cases h; done)
    split at h
    · rename_i r' hr'; cases h; exact mixL_ro hr' g hg
    · cases h
  | .sl T sz y :: o, x :: l, r, h, g, hg => by
    cases x <;> simp only [mixL] at h <;> try (cases h; done)
    · split at h
      · rename_i r' hr'; cases h; exact mixL_ro hr' g hg
      · cases h
    · split at h
      · rename_i d hH
        split at h
        · rename_i r' hr'
          cases h
          rcases List.mem_cons.1 hg with rfl | hg
          · exact ⟨_, hH⟩
          · exact mixL_ro hr' g hg
        · cases h
      · cases h

theorem Done.nst {V : Nat → Prop} {ρ : Nat → At} {H : Heap} {nx : Nat} {w w' : World} {r : SV} {u : Value} {rd ks : List Nat} {p : At} {T : Nat} {es : List (List DC)} (hold : Holds (newV V nx (nx + 1)) (updA ρ nx p) w' p (.nst T es none))
    (hF : ∀ b, p.F b → (w.heap.size ≤ b ∨ ∃ g ∈ ks, excH (hget H) ρ g b) ∧ b < w'.heap.size) (hks : ∀ g ∈ ks, g < nx) (hr : SVr (newV V nx (nx + 1)) (updA ρ nx p) r u) (os : w'.os = w.os) (tape : w'.tape = w.tape) (output : w'.output = w.output) (size : w.heap.size ≤ w'.heap.size)
    (block : ∀ k, k < w.heap.size → (∀ g ∈ ks, ¬ excH (hget H) ρ g k) → w'.heap[k]? = w.heap[k]?) :
    Done V ρ H nx w ⟨r, rd, (nx, some (.nst T es none)) :: noneB ks, nx + 1⟩ u (updA ρ nx p) w' := by
  refine ⟨same_of fun f hf => updA_same ρ nx p hf, hr, ⟨fun f blk' h => ?_, fun f g blk1 blk2 hne h h' => ?_⟩, fun f blk' h b hb' => ?_, os, tape, output, size, fun k hk hn => block k hk fun g hg => hn g none (List.mem_cons_of_mem _ (List.mem_map.2 ⟨g, hg, rfl⟩)) (hks g hg)⟩
  · simp only [hget] at h
    split at h
    · rename_i e; subst e; cases h
      rw [updA_new]
      exact ⟨.inr ⟨Nat.le_refl _, Nat.lt_succ_self _⟩, hold, fun b hb' => (hF b hb').2⟩
    · rw [hget_noneB] at h; cases h
  · simp only [hget] at h h'
    split at h
    · split at h'
      · omega
      · rw [hget_noneB] at h'; cases h'
    · rw [hget_noneB] at h; cases h
  · simp only [hget] at h
    split at h
    · rename_i e; subst e; cases h
      rw [updA_new] at hb'
      rcases (hF b hb').1 with h1 | ⟨g, h1, h2⟩
      · exact .inl h1
      · exact .inr (.inl ⟨g, none, List.mem_cons_of_mem _ (List.mem_map.2 ⟨g, h1, rfl⟩), hks g h1, h2⟩)
    · rw [hget_noneB] at h; cases h

theorem fit_nst {H : Heap} {nx : Nat} {r : SV} {rd ks : List Nat} {b : Option Blk} (hrd : ∀ f ∈ rd, ∃ blk, hget H f = some blk) (hks : ∀ g ∈ ks, g < nx ∧ g ∈ rd ∧ ∃ blk, hget H g = some blk ∧ blk.own = true) (hd : distB ks = true) : Fit H nx ⟨r, rd, (nx, b) :: noneB ks, nx + 1⟩ := by
  refine ⟨Nat.le_succ _, hrd, fun f x hx => ?_, ?_⟩
  · rcases List.mem_cons.1 hx with h | h
    · cases h
      exact ⟨Nat.lt_succ_self _, fun h => absurd h (Nat.lt_irrefl _)⟩
    · obtain ⟨h1, _⟩ := mem_noneB h
      obtain ⟨h2, h3, h4⟩ := hks f h1
      exact ⟨Nat.lt_succ_of_lt h2, fun _ => ⟨h3, h4⟩⟩
  · have e : (noneB ks).map (·.1) = ks := by simp [noneB, Function.comp_def]
    simp only [List.map_cons, e]
    exact List.nodup_cons.2 ⟨fun h => absurd (hks nx h).1 (Nat.lt_irrefl _), distB_nodup hd⟩

end Go.Proofs.Ytfnhchcgieeedaa

namespace Go.Proofs.Ytfnhchcgieeedaa
set_option linter.unusedSimpArgs false
set_option linter.unusedVariables false
set_option linter.defProp false
open Go.RowKit

theorem one_of {V : Nat → Prop} {ρ : Nat → At} : ∀ {l : List CV} {us : List Value}, All2 (CVr V ρ) l us → ∀ v ∈ us, v.oneCell' = true
  | [], [], _, v, hv => (by cases hv)
  | _ :: l, u :: us, h, v, hv => by
    rcases List.mem_cons.1 hv with rfl | hv
    · exact h.1.one
    · exact one_of (l := l) h.2 v hv

theorem store_nst {P : Program} {o : Oper} {ev : Operand → SV} {H : Heap} {nx : Nat} {K : Eff → Prop} {t : TypeId} {x y : Operand} {f i c T : Nat} {es : List (List DC)} {hh : Option (Nat × Nat × CV)} {ti : TI} {l : List CV} {old : List DC} {r : List DC × List Nat}
    (ho : o.op = .store t x y) (hx : ev x = .c (.ptr f i c)) (hH : hget H f = some (.nst T es hh)) (hB : Bnd H nx) (h1 : tiOf P t = some ti) (h2 : cellsOf (ev y) = some l) (h3 : l.length = ti.size)
    (hr : absL H old l = some r) (h6 : absP H old l) (h7 : distB (f :: r.2) = true) (h8 : holeIn hh i c l.length) (hi : i < es.length) (h9 : c + r.1.length ≤ es[i].length)
    (h10 : K ⟨.any, f :: r.2, (f, some (.nst T (es.set i (es[i].take c ++ r.1 ++ es[i].drop (c + r.1.length))) none)) :: noneB r.2, nx⟩) :
    ∃ e, Fit H nx e ∧ EffOK P o ev H nx e ∧ K e := by
  obtain ⟨i', d, z, e1, e2, e3, rfl⟩ := tiOf_inv h1
  have hdist := distB_nodup h7
  have hd2 : distB r.2 = true := by simp only [distB, Bool.and_eq_true] at h7; exact h7.2
  have hmemH : ∀ g ∈ r.2, ∃ T d, hget H g = some (.row T d) := by
    -- the rows that are taken in are there
    have : ∀ (o : List DC) (l : List CV) (r : List DC × List Nat), absL H o l = some r → ∀ g ∈ r.2, ∃ T d, hget H g = some (.row T d) := by
      intro o
      induction o with
      | nil => intro l r h g hg; cases l <;> simp [absL] at h; subst h; cases hg
      | cons a o ih =>
        intro l r h g hg
        cases l with
        | nil => cases a <;> simp [absL] at h
        | cons x l =>
          cases a <;> cases x <;> simp only [absL] at h <;> try (cases h; done)
          · split at h
            · rename_i r' hr'; cases h; exact ih _ _ hr' g hg
            · cases h
          · split at h
            · rename_i r' hr'; cases h; exact ih _ _ hr' g hg
            · cases h
          · split at h
            · rename_i T' d' hH'
              split at h
              · rename_i r' hr'
                cases h
                rcases List.mem_cons.1 hg with rfl | hg
                · exact ⟨_, _, hH'⟩
                · exact ih _ _ hr' g hg
              · cases h
            · cases h
    exact this _ _ _ hr
  have hlt : ∀ g ∈ r.2, g < nx := fun g hg => by obtain ⟨T', d', h⟩ := hmemH g hg; exact hB g _ h
  have hfn := hB f _ hH
  refine ⟨_, ⟨Nat.le_refl _, fun g hg => ?_, fun g b hb => ?_, ?_⟩, ?_, h10⟩
  · rcases List.mem_cons.1 hg with rfl | hg
    · exact ⟨_, hH⟩
    · obtain ⟨T', d', h⟩ := hmemH g hg; exact ⟨_, h⟩
  · rcases List.mem_cons.1 hb with h | h
    · cases h
      exact ⟨hfn, fun _ => ⟨by simp, _, hH, rfl⟩⟩
    · obtain ⟨q1, _⟩ := mem_noneB h
      obtain ⟨T', d', q2⟩ := hmemH g q1
      exact ⟨hlt g q1, fun _ => ⟨by simp [q1], _, q2, rfl⟩⟩
  · have e : (noneB r.2).map (·.1) = r.2 := by simp [noneB, Function.comp_def]
    simp only [List.map_cons, e]
    exact hdist
  intro V ρ a w K' Q hV hev hm hK
  obtain ⟨hVf, ⟨q, n⟩, hsz⟩ := hm.dom f _ (looked_get (by simp) hH)
  have hp := hev x
  rw [hx] at hp
  obtain ⟨_, b, hb, hu⟩ := hp
  rw [n.off.1, Nat.zero_add] at hu
  obtain ⟨hF, cur, g1, g2, g3⟩ := n.cells b hb
  have hy := cellsOf_r h2 (hev y)
  have hyl := hy.length
  obtain ⟨k1, _, pl, k3, k4, k5⟩ := absL_r hm hr h6 hy (fun g hg => by simp [hg]) hd2
  have hei : es[i].length = (ρ f).sz := n.sz _ (List.getElem_mem hi)
  have hsz' : i * (ρ f).sz + c + r.1.length ≤ es.length * (ρ f).sz := by
    have := Nat.mul_le_mul_right (ρ f).sz (show i + 1 ≤ es.length from hi)
    rw [Nat.add_mul] at this; omega
  have hcs : es.length * (ρ f).sz ≤ cur.size := by rw [g2]; exact Nat.mul_le_mul_right _ n.le
  have hrun := run_storeAt_gen (P := P) (t := t) (o := i * (ρ f).sz + c) g1 (rfl : (a.eval y).cells.toList = _) (one_of hy) (by simp; simp at hyl; omega) (by simp [e1]; simp at hyl h3; omega)
  have hx2 : (execOp a.eval o).run P w = .ok .skip (w.setRow b (cur.toList.take (i * (ρ f).sz + c) ++ (a.eval y).cells.toList ++ cur.toList.drop (i * (ρ f).sz + c + (a.eval y).cells.toList.length)).toArray) := by
    simp only [execOp, ho, hu, Sem.run_bind, hrun]; rfl
  have ap : ∀ k, (∃ g ∈ r.2, (ρ g).F k) → ¬ (ρ f).F k := fun k ⟨g, q1, q2⟩ q3 => by
    obtain ⟨T', d', q4⟩ := hmemH g q1
    exact hm.sep f g _ _ (fun e => by rw [List.nodup_cons] at hdist; exact hdist.1 (by rw [e]; exact q1)) (looked_get (by simp) hH) (looked_get (by simp [q1]) q4) k q3 q2
  let R : Nat → At := fun k => if k = f then { ρ f with F := fun b => (ρ f).F b ∨ ∃ g ∈ r.2, (ρ g).F b } else ρ k
  have n2 := n.put (V' := newV V nx nx) (ρ' := R) hb g1 hi (k1.trans hyl) h9 (by rw [k1]; exact h8) k3 k4 k5 ap
  unfold Oper.wp
  rw [hx2]
  have eF : R f = { ρ f with F := fun b => (ρ f).F b ∨ ∃ g ∈ r.2, (ρ g).F b } := by simp [R]
  have key : ∀ g blk, hget ((f, some (.nst T (es.set i (es[i].take c ++ r.1 ++ es[i].drop (c + r.1.length))) none)) :: noneB r.2) g = some blk → g = f ∧ blk = .nst T (es.set i (es[i].take c ++ r.1 ++ es[i].drop (c + r.1.length))) none := by
    intro g blk h
    simp only [hget] at h
    split at h
    · rename_i e; cases h; exact ⟨e, rfl⟩
    · rw [hget_noneB] at h; cases h
  refine hK undef R _ ⟨fun k hk => ⟨?_, fun hk2 => ?_⟩, trivial, ⟨fun k blk hk => ?_, fun k k' blk blk' hne hk hk' => ?_⟩, fun k blk hk b' hF' => ?_, rfl, rfl, rfl, by rw [setRow_size]; exact Nat.le_refl _, fun k hk hn => ?_⟩
  · simp only [R]
    split
    · rename_i e; subst e; rfl
    · rfl
  · simp only [List.map_cons, List.mem_cons, not_or] at hk2
    simp only [R, if_neg hk2.1]
  · obtain ⟨rfl, rfl⟩ := key k blk hk
    refine ⟨.inl hVf, ?_, fun b' hb' => ?_⟩
    · rw [eF]; exact ⟨_, n2⟩
    · rw [eF] at hb'
      rw [setRow_size]
      rcases hb' with hb' | ⟨g, q1, q2⟩
      · exact hsz b' hb'
      · obtain ⟨T', d', q3⟩ := hmemH g q1
        exact (hm.dom g _ (looked_get (by simp [q1]) q3)).2.2 b' q2
  · obtain ⟨rfl, _⟩ := key k blk hk
    obtain ⟨rfl, _⟩ := key k' blk' hk'
    exact absurd rfl hne
  · obtain ⟨rfl, rfl⟩ := key k blk hk
    rw [eF] at hF'
    rcases hF' with hF' | ⟨g, q1, q2⟩
    · exact .inr (.inl ⟨k, _, List.mem_cons_self, hfn, _, hH, hF'⟩)
    · obtain ⟨T', d', q3⟩ := hmemH g q1
      exact .inr (.inl ⟨g, none, List.mem_cons_of_mem _ (List.mem_map.2 ⟨g, q1, rfl⟩), hlt g q1, _, q3, q2⟩)
  · refine setRow_other w b k _ ?_
    rintro rfl
    exact hn f _ List.mem_cons_self hfn ⟨_, hH, hF⟩

theorem load_nst {P : Program} {o : Oper} {ev : Operand → SV} {H : Heap} {nx : Nat} {K : Eff → Prop} {t : TypeId} {x : Operand} {f i c T : Nat} {es : List (List DC)} {hh : Option (Nat × Nat × CV)} (ho : o.op = .load t x) (hx : ev x = .c (.ptr f i c)) (hH : hget H f = some (.nst T es hh)) (hB : Bnd H nx)
    (hagg : ∀ w, (isAgg t).run P w = .ok false w) (hi : i < es.length)
    (h : loadN f T es nx i c hh es[i][c]? K) :
    ∃ e, Fit H nx e ∧ EffOK P o ev H nx e ∧ K e := by
  have run : ∀ (V : Nat → Prop) (ρ : Nat → At) (a : Act) (w : World) (q : Nat → Nat → At) (d : DC), (∀ x, SVr V ρ (ev x) (a.eval x)) → Nest V ρ w (ρ f) T es hh q → es[i][c]? = some d →
      ∃ u, (execOp a.eval o).run P w = .ok (.value u) w ∧ CelH V ρ w (q i c) (holeAt hh i c) d u := by
    intro V ρ a w q d hev n hd
    have hp := hev x
    rw [hx] at hp
    obtain ⟨_, b, hb, hu⟩ := hp
    rw [n.off.1, Nat.zero_add] at hu
    obtain ⟨u, g1, g2⟩ := n.cell hb hi hd
    exact ⟨u, by simp [execOp, ho, hu, Instr.loadAt, Instr.sureAddr, loadVar, hagg, g1], g2⟩
  suffices fin : ∀ d0, es[i][c]? = some d0 → loadN f T es nx i c hh (some d0) K → ∃ e, Fit H nx e ∧ EffOK P o ev H nx e ∧ K e by
    cases hd : es[i][c]? with
    | none => rw [hd] at h; cases hh <;> exact h.elim
    | some d0 => rw [hd] at h; exact fin d0 hd h
  clear h
  intro d0 hd h
  rcases d0 with y | ⟨T', sz, d⟩ <;> rcases hh with _ | ⟨i', c', y'⟩
  · refine ⟨_, fit_read hH, EffOK.of_read fun V ρ a w hev hm => ?_, h⟩
    obtain ⟨_, ⟨q, n⟩, _⟩ := hm.dom f _ (looked_get (by simp) hH)
    obtain ⟨u, g1, g2⟩ := run V ρ a w q _ hev n hd
    have g2 : u = y ∧ y.oneCell' = true := g2
    exact ⟨u, g2, g1⟩
  · skip
    refine ⟨_, fit_read hH, EffOK.of_read fun V ρ a w hev hm => ?_, h.2⟩
    obtain ⟨_, ⟨q, n⟩, _⟩ := hm.dom f _ (looked_get (by simp) hH)
    obtain ⟨u, g1, g2⟩ := run V ρ a w q _ hev n hd
    have e : holeAt (some (i', c', y')) i c = none := if_neg fun e => h.1 e.2
    rw [e] at g2
    have g2 : u = y ∧ y.oneCell' = true := g2
    exact ⟨u, g2, g1⟩
  · have hfn := hB f _ hH
    refine ⟨_, ⟨Nat.le_succ _, fun g hg => by simp at hg; subst hg; exact ⟨_, hH⟩, fun g b hb => ?_, by simp; omega⟩, ?_, h⟩
    · simp at hb
      rcases hb with ⟨rfl, _⟩ | ⟨rfl, _⟩
      · exact ⟨Nat.lt_succ_self _, fun h => absurd h (Nat.lt_irrefl _)⟩
      · exact ⟨Nat.lt_succ_of_lt hfn, fun _ => ⟨by simp, _, hH, rfl⟩⟩
    intro V ρ a w K' Q hV hev hm hK
    obtain ⟨hVf, ⟨q, n⟩, hsz⟩ := hm.dom f _ (looked_get (by simp) hH)
    obtain ⟨u, g1, g2⟩ := run V ρ a w q _ hev n hd
    obtain ⟨g3, g4, rfl⟩ : Cel w (q i c) (.sl T' sz d) u := g2
    unfold Oper.wp
    rw [g1]
    have hne : f ≠ nx := by omega
    let R : Nat → At := fun k => if k = nx then q i c else if k = f then { ρ f with F := fun b => (ρ f).F b ∧ ¬ (q i c).F b } else ρ k
    have eN : R nx = q i c := by simp [R]
    have eF : R f = { ρ f with F := fun b => (ρ f).F b ∧ ¬ (q i c).F b } := by simp [R, hne]
    have eO : ∀ k, k ≠ nx → (R k).nf = (ρ k).nf := by
      intro k hk
      simp only [R, if_neg hk]
      split
      · rename_i e; subst e; rfl
      · rfl
    have hnew : ∀ k, V k → newV V nx (nx + 1) k ∧ (R k).nf = (ρ k).nf := fun k hk => ⟨.inl hk, eO k fun e => hV nx (Nat.le_refl _) (Nat.lt_succ_self _) (e ▸ hk)⟩
    have hval : CVr (newV V nx (nx + 1)) R (.sl nx sz 0 d.length) (.slice ((q i c).adr.map (⟨·, 0, none⟩)) d.length (q i c).cap) := by
      refine ⟨.inr ⟨Nat.le_refl _, Nat.lt_succ_self _⟩, by rw [eN]; exact g3, _, _, rfl, g4.2.2.1, g4.2.1, fun h => ?_, fun _ _ => by rw [eN, g4.1.1]; exact ⟨rfl, rfl⟩, fun hpos => ?_⟩
      · cases ha : (q i c).adr with
        | none => exact g4.2.2.2.2.2.1 ha
        | some b => rw [ha] at h; cases h
      · cases ha : (q i c).adr with
        | none => have := g4.2.2.2.2.2.1 ha; have := g4.2.2.1; omega
        | some b => exact ⟨b, by rw [eN]; exact ha, by rw [eN, g4.1.1]; simp⟩
    have key : ∀ k blk, hget [(nx, some (.row T' d)), (f, some (.nst T es (some (i, c, .sl nx sz 0 d.length))))] k = some blk → (k = nx ∧ blk = .row T' d) ∨ (k = f ∧ blk = .nst T es (some (i, c, .sl nx sz 0 d.length))) := by
      intro k blk h
      simp only [hget] at h
      split at h
      · rename_i e; cases h; exact .inl ⟨e, rfl⟩
      · split at h
        · rename_i e; cases h; exact .inr ⟨e, rfl⟩
        · cases h
    have n2 : Nest (newV V nx (nx + 1)) R w { ρ f with F := fun b => (ρ f).F b ∧ ¬ (q i c).F b } T es (some (i, c, .sl nx sz 0 d.length)) (fun i' c' => if i' = i ∧ c' = c then At.none0 sz else q i' c') := by
      refine ⟨n.off, n.cap, n.le, n.sz, n.nil, fun i' j' b hb => ?_, fun i1 j1 i2 j2 b h1 h2 => ?_, fun b hb => ?_⟩
      · split at hb
        · exact hb.elim
        · rename_i hij
          obtain ⟨e1, e2⟩ := n.sub i' j' b hb
          exact ⟨⟨e1, fun e3 => hij (n.apart _ _ _ _ b hb e3)⟩, e2⟩
      · split at h1
        · exact h1.elim
        · split at h2
          · exact h2.elim
          · exact n.apart _ _ _ _ b h1 h2
      · obtain ⟨h1, cur, h2, h3, h4⟩ := n.cells b hb
        refine ⟨⟨h1, fun e => (n.sub _ _ _ e).2 hb⟩, cur, h2, h3, fun i' e j' x hi' hj' => ?_⟩
        obtain ⟨u, h5, h6⟩ := h4 i' e j' x hi' hj'
        by_cases hij : i' = i ∧ j' = c
        · obtain ⟨rfl, rfl⟩ := hij
          have he : e = es[i'] := by rw [List.getElem?_eq_getElem hi] at hi'; cases hi'; rfl
          subst he
          rw [hd] at hj'
          cases hj'
          obtain ⟨_, _, rfl⟩ : Cel w (q i' j') (.sl T' sz d) u := h6
          refine ⟨_, h5, ?_⟩
          have e : holeAt (some (i', j', CV.sl nx sz 0 d.length)) i' j' = some (.sl nx sz 0 d.length) := if_pos ⟨rfl, rfl⟩
          rw [e]
          exact hval
        · refine ⟨u, h5, ?_⟩
          have e : holeAt (some (i, c, CV.sl nx sz 0 d.length)) i' j' = none := if_neg hij
          rw [e, if_neg hij]
          exact h6
    refine hK _ R w ⟨fun k hk => ⟨eO k (by simp only at hk; omega), fun hk2 => ?_⟩, hval, ⟨fun k blk hk => ?_, fun k k' blk blk' hne' hk hk' b' hF hF' => ?_⟩, fun k blk hk b' hF => ?_, rfl, rfl, rfl, Nat.le_refl _, fun _ _ _ => rfl⟩
    · simp only [List.map_cons, List.map_nil, List.mem_cons, List.not_mem_nil, or_false, not_or] at hk2
      simp only [R, if_neg hk2.1, if_neg hk2.2]
    · rcases key k blk hk with ⟨rfl, rfl⟩ | ⟨rfl, rfl⟩
      · rw [eN]
        exact ⟨.inr ⟨Nat.le_refl _, Nat.lt_succ_self _⟩, g4, fun b hb => hsz b (n.sub _ _ _ hb).1⟩
      · rw [eF]
        exact ⟨.inl hVf, ⟨_, n2⟩, fun b hb => hsz b hb.1⟩
    · rcases key k blk hk with ⟨rfl, rfl⟩ | ⟨rfl, rfl⟩
      · rcases key k' blk' hk' with ⟨rfl, rfl⟩ | ⟨rfl, rfl⟩
        · exact absurd rfl hne'
        · rw [eN] at hF; rw [eF] at hF'; exact hF'.2 hF
      · rcases key k' blk' hk' with ⟨rfl, rfl⟩ | ⟨rfl, rfl⟩
        · rw [eN] at hF'; rw [eF] at hF; exact hF.2 hF'
        · exact absurd rfl hne'
    · rcases key k blk hk with ⟨rfl, rfl⟩ | ⟨rfl, rfl⟩
      · rw [eN] at hF
        exact .inr (.inl ⟨f, _, List.mem_cons_of_mem _ List.mem_cons_self, hfn, _, hH, (n.sub _ _ _ hF).1⟩)
      · rw [eF] at hF
        exact .inr (.inl ⟨k, _, List.mem_cons_of_mem _ List.mem_cons_self, hfn, _, hH, hF.1⟩)
  · obtain ⟨⟨rfl, rfl⟩, h⟩ := h
    refine ⟨_, fit_read hH, EffOK.of_read fun V ρ a w hev hm => ?_, h⟩
    obtain ⟨_, ⟨q, n⟩, _⟩ := hm.dom f _ (looked_get (by simp) hH)
    obtain ⟨u, g1, g2⟩ := run V ρ a w q _ hev n hd
    have e : holeAt (some (i, c, y')) i c = some y' := if_pos ⟨rfl, rfl⟩
    rw [e] at g2
    exact ⟨u, g2, g1⟩

theorem store_ok {P : Program} {o : Oper} {ev : Operand → SV} {H : Heap} {nx : Nat} {K : Eff → Prop} {t : TypeId} {x y : Operand} (ho : o.op = .store t x y) (hB : Bnd H nx) (h : memK P o ev H nx K) :
    ∃ e, Fit H nx e ∧ EffOK P o ev H nx e ∧ K e := by
  unfold memK at h
  rw [ho] at h
  simp only at h
  split at h
  · rename_i f i c hx
    split at h
    · rename_i T cs hH
      obtain ⟨rfl, ti, l, h1, h2, h3, h4, h5⟩ := h
      obtain ⟨i', d, z, e1, e2, e3, rfl⟩ := tiOf_inv h1
      refine ⟨_, fit_set (hB f _ hH) hH rfl, EffOK.of_set (hB f _ hH) hH (fun _ _ h => h) fun V ρ a w hev hV hold => ?_, h5⟩
      obtain ⟨hoff, b, vs, q1, q2, q3, q4⟩ := hold
      have hp := hev x
      rw [hx] at hp
      obtain ⟨_, b', hb', hu⟩ := hp
      rw [q1] at hb'; cases hb'
      have hy := cellsOf_r h2 (hev y)
      have hyl := hy.length
      have hvl := q4.length
      have hr := run_storeAt_gen (P := P) (t := t) (o := c) q3 (rfl : (a.eval y).cells.toList = _) (one_of hy) (by simp; simp at hyl; omega) (by simp [e1]; simp at hyl h3; omega)
      rw [hoff] at hu
      simp only [Nat.zero_mul, Nat.add_zero, Nat.zero_add] at hu
      refine ⟨b, _, by simp only [execOp, ho, hu, Sem.run_bind, hr]; rfl, q2, hoff, b, _, q1, q2, setRow_heap w b _ _ T _ q3, ?_⟩
      have := splice_r q4 c hy
      simpa using this
    · rename_i T es hH
      obtain ⟨ti, l, d, h1, h2, h3, h4, hi, h5, h6⟩ := h
      obtain ⟨i', dd, z, e1, e2, e3, rfl⟩ := tiOf_inv h1
      refine ⟨_, fit_set (hB f _ hH) hH rfl, EffOK.of_set (hB f _ hH) hH (fun _ _ h => h) fun V ρ a w hev hV hold => ?_, h6⟩
      obtain ⟨⟨hoff, hex⟩, hcm, hle, hs, hfl, hn, hrow⟩ := hold
      have hp := hev x
      rw [hx] at hp
      obtain ⟨_, b, hb, hu⟩ := hp
      obtain ⟨hF, cur, q1, q2, q3⟩ := hrow b hb
      have hy := cellsOf_r h2 (hev y)
      have hyl := hy.length
      obtain ⟨g1, g2, g3⟩ := dcsOf_r h4 hy
      have hei : es[i].length = (ρ f).sz := hs _ (List.getElem_mem hi)
      have hsz : i * (ρ f).sz + c + d.length ≤ es.length * (ρ f).sz := by
        have := Nat.mul_le_mul_right (ρ f).sz (show i + 1 ≤ es.length from hi)
        rw [Nat.add_mul] at this; omega
      have hcs : es.length * (ρ f).sz ≤ cur.size := by rw [q2]; exact Nat.mul_le_mul_right _ hle
      have hr := run_storeAt_gen (P := P) (t := t) (o := i * (ρ f).sz + c) q1 g1 (by rw [← g1]; exact one_of hy) (by simp; omega) (by simp [e1]; simp at hyl h3; omega)
      rw [hoff, Nat.zero_add] at hu
      refine ⟨b, _, by simp only [execOp, ho, hu, Sem.run_bind, hr]; rfl, hF, ⟨hoff, hex⟩, hcm, by simpa using hle, fun e he => ?_, fun e he => ?_, hn, fun b' hb' => ?_⟩
      · rcases List.mem_or_eq_of_mem_set he with he | rfl
        · exact hs e he
        · simp; omega
      · rcases List.mem_or_eq_of_mem_set he with he | rfl
        · exact hfl e he
        · intro c' hc'
          simp only [List.mem_append] at hc'
          rcases hc' with (hc' | hc') | hc'
          · exact hfl _ (List.getElem_mem hi) c' (List.mem_of_mem_take hc')
          · exact g2 c' hc'
          · exact hfl _ (List.getElem_mem hi) c' (List.mem_of_mem_drop hc')
      · rw [hb] at hb'; cases hb'
        refine ⟨hF, _, setRow_heap w b _ _ T _ q1, ?_, ?_⟩
        · simp only [List.size_toArray, List.length_append, List.length_take, List.length_drop, Array.length_toList, List.length_map]
          rw [← q2]; omega
        · rw [flatE_set hs i hi c d (by omega), ← q3, List.length_set]
          have := take_mid cur.toList (d.map DC.val) (i * (ρ f).sz + c) (es.length * (ρ f).sz) (by simp; omega) (by simpa using hcs)
          simpa using this
    · rename_i T es hh hH
      obtain ⟨ti, l, nz, h1, h2, h3, h4, h5⟩ := h
      split at h5
      · rename_i r hr
        obtain ⟨h6, h7, h8, hi, h9, h10⟩ := h5
        exact store_nst ho hx hH hB h1 h2 h3 hr h6 h7 h8 hi h9 h10
      · exact h5.elim
    · exact h.elim
  · exact h.elim

theorem load_rd {P : Program} {o : Oper} {ev : Operand → SV} {H : Heap} {nx : Nat} {K : Eff → Prop} {t : TypeId} {x : Operand} {f i c : Nat} {blk0 : Blk} {es : List (List DC)} {ti : TI} (ho : o.op = .load t x) (hx : ev x = .c (.ptr f i c)) (hH : hget H f = some blk0) (h1 : tiOf P t = some ti) (hi : i < es.length)
    (hro : ∀ (V : Nat → Prop) (ρ : Nat → At) (w : World), Holds V ρ w (ρ f) blk0 → ∃ G : Nat → Prop, (∀ b, G b → (ρ f).F b ∧ ¬ blk0.exc (ρ f) b) ∧ ∀ i e j c b, es[i]? = some e → e[j]? = some c → (ρ f).adr = some b → ∃ u, w.cell? ⟨b, (ρ f).off + i * (ρ f).sz + j, none⟩ = some u ∧ Rd w G c u)
    (h2 : match ti.row with
        | true => c + ti.size ≤ es[i].length ∧ K ⟨.agg (impC ((es[i].drop c).take ti.size) nx).1, [f], (impC ((es[i].drop c).take ti.size) nx).2.1, (impC ((es[i].drop c).take ti.size) nx).2.2⟩
        | false => ∃ h : c < es[i].length, match (impC [es[i][c]] nx).1 with
          | [y] => K ⟨.c y, [f], (impC [es[i][c]] nx).2.1, (impC [es[i][c]] nx).2.2⟩
          | _ => False) :
    ∃ e, Fit H nx e ∧ EffOK P o ev H nx e ∧ K e := by
  obtain ⟨i', d, z, e1, e2, e3, rfl⟩ := tiOf_inv h1
  have hagg : ∀ w, (isAgg t).run P w = .ok (isRowD (some d)) w := by
    intro w
    unfold isAgg
    rw [Sem.run_bind, run_underlying e2 w]
    cases d <;> simp_all [isRowD]
  -- the cells that are loaded
  have key : ∀ (l : List DC) (r : SV) (mk : List Value → Value) (o0 : Nat), (∀ j, l[j]? = if j < l.length then es[i][o0 + j]? else none) →
      (∀ (V : Nat → Prop) (ρ : Nat → At) us, All2 (CVr V ρ) (impC l nx).1 us → SVr V ρ r (mk us)) →
      (∀ (w : World) (b base : Nat) us, us.length = l.length → (∀ j u, us[j]? = some u → w.cell? ⟨b, base + o0 + j, none⟩ = some u) → (Instr.loadAt t (.pointer (some ⟨b, base + o0, none⟩))).run P w = .ok (mk us) w) → c = o0 →
      Fit H nx ⟨r, [f], (impC l nx).2.1, (impC l nx).2.2⟩ ∧ EffOK P o ev H nx ⟨r, [f], (impC l nx).2.1, (impC l nx).2.2⟩ := by
    intro l r mk o0 hl hr hrun hc
    subst hc
    refine ⟨⟨impC_le l nx, fun g hg => by simp at hg; subst hg; exact ⟨_, hH⟩, fun g b hb => ?_, impC_nodup l nx⟩, ?_⟩
    · have := impC_key l nx g b hb
      exact ⟨this.2, fun h => by omega⟩
    intro V ρ a w K' Q hV hev hm hK
    obtain ⟨hVf, hho, hFl⟩ := hm.dom f _ (looked_get (by simp) hH)
    obtain ⟨G, hG, hcell⟩ := hro V ρ w hho
    have hp := hev x
    rw [hx] at hp
    obtain ⟨_, b, hb, hu⟩ := hp
    have ex : ∀ n (l' : List DC) k, (∀ j, l'[j]? = if j < l'.length then es[i][k + j]? else none) → l'.length = n → ∃ us : List Value, All2 (Rd w G) l' us ∧ ∀ j u, us[j]? = some u → w.cell? ⟨b, (ρ f).off + i * (ρ f).sz + k + j, none⟩ = some u := by
      intro n
      induction n with
      | zero =>
        intro l' k _ hl'
        have : l' = [] := List.eq_nil_of_length_eq_zero hl'
        subst this
        exact ⟨[], trivial, fun j u hj => by simp at hj⟩
      | succ n ih =>
        intro l' k hl' hn
        cases l' with
        | nil => simp at hn
        | cons d' l' =>
          have h0 := hl' 0
          simp only [List.getElem?_cons_zero, List.length_cons, Nat.zero_lt_succ, if_true, Nat.add_zero] at h0
          obtain ⟨u, hu1, hu2⟩ := hcell i es[i] k d' b (List.getElem?_eq_getElem hi) h0.symm hb
          obtain ⟨us, g1, g2⟩ := ih l' (k + 1) (fun j => by have := hl' (j + 1); simpa [Nat.add_assoc, Nat.add_comm 1] using this) (by simpa using hn)
          refine ⟨u :: us, ⟨hu2, g1⟩, fun j v hv => ?_⟩
          cases j with
          | zero => simp at hv; subst hv; simpa using hu1
          | succ j =>
            have := g2 j v (by simpa using hv)
            rw [← this]; congr 2; omega
    obtain ⟨us, g1, g2⟩ := ex l.length l c hl rfl
    obtain ⟨ρ', q1, q2, q3, q4⟩ := impC_ok (fun b hb => hFl b (hG b hb).1) l us nx ρ V g1 (fun f h1 h2 => hV f h1 h2)
    have hrn := hrun w b ((ρ f).off + i * (ρ f).sz) us g1.length.symm g2
    unfold Oper.wp
    have : (execOp a.eval o).run P w = .ok (.value (mk us)) w := by
      simp [execOp, ho, hu, hrn]
    rw [this]
    refine hK _ ρ' w ⟨same_of q1, hr _ _ us q2, q3, fun g blk hg b' hb' => ?_, rfl, rfl, rfl, Nat.le_refl _, fun _ _ _ => rfl⟩
    obtain ⟨p1, p2⟩ := q4 g blk hg
    exact .inr (.inr ⟨exc_ro p1, f, by simp, _, hH, hG b' (p2 b' hb')⟩)
  simp only at h2
  split at h2
  · rename_i hrow
    obtain ⟨h3, h4⟩ := h2
    have hl : ((es[i].drop c).take i'.size).length = i'.size := by simp; omega
    obtain ⟨k1, k2⟩ := key ((es[i].drop c).take i'.size) (.agg (impC ((es[i].drop c).take i'.size) nx).1) (fun us => .agg us.toArray) c (fun j => by
        rw [List.getElem?_take, hl, List.getElem?_drop]) (fun V ρ us hus => ⟨us, rfl, hus⟩) (fun w b base us hus hc => by
        have := run_loadCells_list (P := P) w ⟨b, base + c, none⟩ us (fun j v hv => by rw [Addr.add_mid]; exact hc j v hv)
        rw [hus, hl] at this
        simp [Instr.loadAt, Instr.sureAddr, loadVar, hagg, hrow, sizeOf, typeInfo, e1, this]) rfl
    exact ⟨_, k1, k2, h4⟩
  · rename_i hrow
    obtain ⟨h3, h4⟩ := h2
    split at h4
    · rename_i y hy
      obtain ⟨k1, k2⟩ := key [es[i][c]] (.c y) (fun us => us.getD 0 undef) c (fun j => by
          cases j with
          | zero => simp [h3]
          | succ j => simp) (fun V ρ us hus => by
          rw [hy] at hus
          cases us with
          | nil => exact hus.elim
          | cons u us => exact hus.1) (fun w b base us hus hc => by
          cases us with
          | nil => simp at hus
          | cons u us =>
            have := hc 0 u rfl
            simp only [Nat.add_zero] at this
            simp [Instr.loadAt, Instr.sureAddr, loadVar, hagg, hrow, this]) rfl
      exact ⟨_, k1, k2, h4⟩
    · exact h4.elim

theorem load_ok {P : Program} {o : Oper} {ev : Operand → SV} {H : Heap} {nx : Nat} {K : Eff → Prop} {t : TypeId} {x : Operand} (ho : o.op = .load t x) (hB : Bnd H nx) (h : memK P o ev H nx K) :
    ∃ e, Fit H nx e ∧ EffOK P o ev H nx e ∧ K e := by
  unfold memK at h
  rw [ho] at h
  simp only at h
  split at h
  · rename_i f i c hx
    split at h
    · rename_i T cs hH
      obtain ⟨rfl, ti, y, h1, h2, h3⟩ := h
      refine ⟨_, fit_read hH, EffOK.of_read fun V ρ a w hev hm => ?_, h3⟩
      obtain ⟨hV, ⟨hoff, b, vs, q1, q2, q3, q4⟩, _⟩ := hm.dom f _ (looked_get (by simp) hH)
      have hp := hev x
      rw [hx] at hp
      obtain ⟨_, b', hb', hu⟩ := hp
      rw [q1] at hb'; cases hb'
      rw [hoff] at hu
      simp only [Nat.zero_mul, Nat.add_zero, Nat.zero_add] at hu
      obtain ⟨u, g1, g2⟩ := run_loadAt_part (P := P) (w := w) (b := b) (base := 0) q4 (fun j u hj => by simp [World.cell?, q3, hj]) h1 h2
      rw [Nat.zero_add] at g2
      exact ⟨u, g1, by simp [execOp, ho, hu, g2]⟩
    · rename_i T es hH
      obtain ⟨ti, h1, hi, y, h2, h3⟩ := h
      refine ⟨_, fit_read hH, EffOK.of_read fun V ρ a w hev hm => ?_, h3⟩
      obtain ⟨hV, ⟨⟨hoff, hex⟩, hcm, hle, hs, hfl, hn, hrow⟩, _⟩ := hm.dom f _ (looked_get (by simp) hH)
      have hp := hev x
      rw [hx] at hp
      obtain ⟨_, b, hb, hu⟩ := hp
      obtain ⟨hF, cur, q1, q2, q3⟩ := hrow b hb
      rw [hoff, Nat.zero_add] at hu
      obtain ⟨u, g1, g2⟩ := run_loadAt_part (P := P) (w := w) (b := b) (base := i * (ρ f).sz) (flat_cv (V := V) (ρ := ρ) (hfl _ (List.getElem_mem hi))) (row_cells q1 q3 hs hi) h1 h2
      exact ⟨u, g1, by simp [execOp, ho, hu, g2]⟩
    · rename_i es hH
      obtain ⟨ti, h1, hi, h2⟩ := h
      refine load_rd ho hx hH h1 hi (fun V ρ w hh => ⟨(ρ f).F, fun b hb => ⟨hb, id⟩, ?_⟩) h2
      obtain ⟨_, _, _, _, _, hcell⟩ := hh
      exact hcell
    · rename_i T es hh hH
      obtain ⟨ti, h1, h2, hi, h3⟩ := h
      obtain ⟨i', d, z, e1, e2, e3, rfl⟩ := tiOf_inv h1
      have hagg : ∀ w, (isAgg t).run P w = .ok false w := by
        intro w
        unfold isAgg
        rw [Sem.run_bind, run_underlying e2 w]
        simp only at h2
        cases d <;> simp_all [isRowD]
      exact load_nst ho hx hH hB hagg hi h3
    · rename_i T es hH
      obtain ⟨ti, h1, hi, h2⟩ := h
      refine load_rd ho hx hH h1 hi (fun V ρ w hh => ⟨fun k => (ρ f).F k ∧ (ρ f).adr ≠ some k, fun b hb => ⟨hb.1, hb.2⟩, ?_⟩) h2
      obtain ⟨⟨h0, _⟩, _, _, _, _, h6⟩ := hh
      intro i' e j cc b q1 q2 q3
      obtain ⟨_, cur, q4, q5, q6⟩ := h6 b q3
      obtain ⟨u, q7, q8⟩ := q6 i' e j cc q1 q2
      exact ⟨u, by rw [h0, Nat.zero_add]; simp [World.cell?, q4, q7], q8⟩
    · exact h.elim
    · exact h.elim
    · exact h.elim
  · exact h.elim

end Go.Proofs.Ytfnhchcgieeedaa
