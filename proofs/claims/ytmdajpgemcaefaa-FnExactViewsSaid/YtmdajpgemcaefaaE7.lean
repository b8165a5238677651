/-
  The engine, seventh part: the operations on memory do what is told of them. No conditions of its own.
-/
import Derived.Test.YtmdajpgemcaefaaE6
namespace Go.Proofs.Ytmdajpgemcaefaa
set_option linter.unusedSimpArgs false
set_option linter.unusedVariables false
open Go.RowKit

theorem updA_same (ρ : Nat → At) (nx : Nat) (p : At) {f : Nat} (h : f < nx ∨ nx + 1 ≤ f) : updA ρ nx p f = ρ f := by
  unfold updA; rw [if_neg (by omega)]

theorem updA_new (ρ : Nat → At) (nx : Nat) (p : At) : updA ρ nx p nx = p := by simp [updA]

theorem Done.new {V : Nat → Prop} {ρ : Nat → At} {H : Heap} {nx : Nat} {w w' : World} {r : SV} {rd : List Nat} {u : Value} (p : At) (blk : Blk)
    (hold : Holds (newV V nx (nx + 1)) (updA ρ nx p) w' p blk) (hF : ∀ b, p.F b → w.heap.size ≤ b ∧ b < w'.heap.size) (hr : SVr (newV V nx (nx + 1)) (updA ρ nx p) r u) (hb : Below w.heap.size w w') :
    Done V ρ H nx w ⟨r, rd, [(nx, some blk)], nx + 1⟩ u (updA ρ nx p) w' := by
  refine ⟨fun f hf => updA_same ρ nx p hf, hr, ⟨fun f blk' h => ?_, fun f g blk1 blk2 hne h _ h' => ?_⟩, fun f blk' h b hb' => ?_, hb.os, hb.tape, hb.output, hb.size, fun k hk _ => hb.block k hk⟩
  · simp only [hget] at h
    split at h
    · rename_i e; subst e; cases h
      rw [updA_new]
      exact ⟨.inr ⟨Nat.le_refl _, Nat.lt_succ_self _⟩, hold, fun b hb' => (hF b hb').2⟩
    · cases h
  · simp only [hget] at h h'
    split at h
    · split at h'
      · omega
      · cases h'
    · cases h
  · simp only [hget] at h
    split at h
    · rename_i e; subst e; cases h
      rw [updA_new] at hb'
      exact .inl (hF b hb').1
    · cases h

theorem fit_new {H : Heap} {nx : Nat} {r : SV} {rd : List Nat} {b : Option Blk} (h : ∀ f ∈ rd, ∃ blk, hget H f = some blk) : Fit H nx ⟨r, rd, [(nx, b)], nx + 1⟩ :=
  ⟨Nat.le_succ _, h, fun f b hb => by simp at hb; obtain ⟨rfl, _⟩ := hb; exact ⟨Nat.lt_succ_self _, fun h => absurd h (Nat.lt_irrefl _)⟩, by simp⟩

theorem EffOK.of_new {P : Program} {o : Oper} {ev : Operand → SV} {H : Heap} {nx : Nat} {r : SV} {rd : List Nat} {blk : Blk}
    (h : ∀ (V : Nat → Prop) (ρ : Nat → At) (a : Act) (w : World), (∀ x, SVr V ρ (ev x) (a.eval x)) → Mem V ρ (looked H rd) w → (∀ f, nx ≤ f → f < nx + 1 → ¬ V f) →
      ∃ u w' p, (execOp a.eval o).run P w = .ok (.value u) w' ∧ Holds (newV V nx (nx + 1)) (updA ρ nx p) w' p blk ∧ (∀ b, p.F b → w.heap.size ≤ b ∧ b < w'.heap.size) ∧ SVr (newV V nx (nx + 1)) (updA ρ nx p) r u ∧ Below w.heap.size w w') :
    EffOK P o ev H nx ⟨r, rd, [(nx, some blk)], nx + 1⟩ := by
  intro V ρ a w K Q hV hev hm hK
  obtain ⟨u, w', p, h1, h2, h3, h4, h5⟩ := h V ρ a w hev hm hV
  unfold Oper.wp
  rw [h1]
  exact hK u _ w' (Done.new p blk h2 h3 h4 h5)

/-- A row's slice value. -/
theorem row_val {V : Nat → Prop} {ρ : Nat → At} {nx : Nat} {p : At} {n sz : Nat} (hsz : p.sz = sz) (hle : n ≤ p.cap) (hlt : p.cap ≤ maxLen) (hn : p.adr = none → p.cap = 0) (ho : p.off = 0) :
    SVr (newV V nx (nx + 1)) (updA ρ nx p) (.c (.sl nx sz 0 n)) (.slice (p.adr.map (⟨·, 0, none⟩)) n p.cap) := by
  refine ⟨.inr ⟨Nat.le_refl _, Nat.lt_succ_self _⟩, by rw [updA_new]; exact hsz, _, _, rfl, hle, hlt, fun h => hn (by cases hp : p.adr with | none => rfl | some b => rw [hp] at h; cases h), fun _ _ => by rw [updA_new, ho]; exact ⟨rfl, rfl⟩, fun hpos => ?_⟩
  cases hp : p.adr with
  | none => have := hn hp; omega
  | some b => exact ⟨b, by rw [updA_new]; exact hp, by rw [updA_new, ho]; simp⟩

/-- A block of the library's kind 'ownsRow' as a row of a state. -/
theorem row_of_owns {V : Nat → Prop} {ρ : Nat → At} {w' : World} {nx T sz n : Nat} {v : Value} {es : List (List DC)} {base : Nat} (h : w'.ownsRow base T sz v n (flatE es)) (hn : es.length = n) (hs : ∀ e ∈ es, e.length = sz) (hf : ∀ e ∈ es, ∀ c ∈ e, DC.flat c) :
    ∃ p : At, Holds (newV V nx (nx + 1)) (updA ρ nx p) w' p (.row T es) ∧ SVr (newV V nx (nx + 1)) (updA ρ nx p) (.c (.sl nx sz 0 n)) v ∧ p.F = (fun b => v.ownBlock = some b) := by
  obtain ⟨_, h2⟩ := h
  rcases h2 with ⟨rfl, h3⟩ | ⟨g, cap, cur, rfl, hb, hg, hle, hm, hsz, ht⟩
  · subst h3
    have : es = [] := List.eq_nil_of_length_eq_zero hn
    subst this
    refine ⟨⟨none, 0, sz, 0, True, _⟩, ⟨⟨rfl, trivial⟩, Nat.zero_le _, by simp, hs, hf, fun _ => rfl, fun b hb => (by cases hb)⟩, ?_, rfl⟩
    exact row_val (p := ⟨none, 0, sz, 0, True, _⟩) rfl (Nat.le_refl _) (Nat.zero_le _) (fun _ => rfl) rfl
  · refine ⟨⟨some g, 0, sz, cap, True, _⟩, ⟨⟨rfl, trivial⟩, hm, by simp only; omega, hs, hf, fun h => (by cases h), fun b hb => ?_⟩, ?_, rfl⟩
    · cases hb
      exact ⟨rfl, cur, hg, hsz, by rw [hn]; exact ht⟩
    · exact row_val (p := ⟨some g, 0, sz, cap, True, _⟩) rfl hle hm (fun h => (by cases h)) rfl

theorem dcsOf_r {V : Nat → Prop} {ρ : Nat → At} : ∀ {l : List CV} {d : List DC} {us : List Value}, dcsOf l = some d → All2 (CVr V ρ) l us → us = d.map DC.val ∧ (∀ c ∈ d, DC.flat c) ∧ d.length = l.length
  | [], d, us, h, hr => by
    cases h
    cases us with
    | nil => exact ⟨rfl, fun c hc => (by cases hc), rfl⟩
    | cons => exact hr.elim
  | c :: l, d, us, h, hr => by
    unfold dcsOf at h
    split at h
    · rename_i d1 r h1 h2
      cases h
      cases us with
      | nil => exact hr.elim
      | cons u us =>
        obtain ⟨q1, q2, q3⟩ := dcsOf_r h2 hr.2
        cases c <;> simp only [dcOf] at h1 <;> try (cases h1; done)
        rename_i x
        cases h1
        obtain ⟨rfl, hx⟩ := hr.1
        refine ⟨by rw [q1]; rfl, fun c hc => ?_, by simp [q3]⟩
        rcases List.mem_cons.1 hc with rfl | hc
        · exact ⟨_, rfl, hx⟩
        · exact q2 c hc
    · cases h

theorem chunk_r {V : Nat → Prop} {ρ : Nat → At} {sz : Nat} : ∀ (n : Nat) {cs : List CV} {us : List Value} {es : List (List DC)}, cs.length = n * sz → dcssOf (chunk sz n cs) = some es → All2 (CVr V ρ) cs us →
    us = flatE es ∧ es.length = n ∧ (∀ e ∈ es, e.length = sz) ∧ ∀ e ∈ es, ∀ c ∈ e, DC.flat c
  | 0, cs, us, es, hl, h, hr => by
    cases h
    have : cs = [] := List.eq_nil_of_length_eq_zero (by simpa using hl)
    subst this
    cases us with
    | nil => exact ⟨rfl, rfl, fun e he => (by cases he), fun e he => (by cases he)⟩
    | cons => exact hr.elim
  | n + 1, cs, us, es, hl, h, hr => by
    unfold chunk dcssOf at h
    split at h
    · rename_i d r h1 h2
      cases h
      rw [Nat.add_mul] at hl
      obtain ⟨q1, q2, q3, q4⟩ := chunk_r (V := V) (ρ := ρ) n (by simp; omega) h2 (hr.drop sz)
      obtain ⟨p1, p2, p3⟩ := dcsOf_r h1 (hr.take sz)
      refine ⟨?_, by simp [q2], fun e he => ?_, fun e he => ?_⟩
      · unfold flatE
        rw [List.flatMap_cons, ← p1]
        unfold flatE at q1
        rw [← q1, List.take_append_drop]
      · rcases List.mem_cons.1 he with rfl | he
        · rw [p3]; simp; omega
        · exact q3 e he
      · rcases List.mem_cons.1 he with rfl | he
        · exact p2
        · exact q4 e he
    · cases h

theorem take_mid {α : Type} (l us : List α) (k N : Nat) (h : k + us.length ≤ N) (hN : N ≤ l.length) : (l.take k ++ us ++ l.drop (k + us.length)).take N = (l.take N).take k ++ us ++ (l.take N).drop (k + us.length) := by
  apply List.ext_getElem?
  intro i
  simp only [List.getElem?_take, List.getElem?_append, List.length_append, List.length_take, List.getElem?_drop]
  by_cases h1 : i < N
  · by_cases h2 : i < k
    · simp [h1, show i < min k l.length + us.length by omega, show i < min k l.length by omega, show i < min k (min N l.length) + us.length by omega, show i < min k (min N l.length) by omega, h2]
    · by_cases h3 : i < k + us.length
      · simp [h1, show i < min k l.length + us.length by omega, show ¬ i < min k l.length by omega, show i < min k (min N l.length) + us.length by omega, show ¬ i < min k (min N l.length) by omega, h2]
        congr 1; omega
      · have e : k + us.length + (i - (min k l.length + us.length)) = i := by omega
        have e' : k + us.length + (i - (min k (min N l.length) + us.length)) = i := by omega
        simp [h1, show ¬ i < min k l.length + us.length by omega, show ¬ i < min k (min N l.length) + us.length by omega, e, e']
  · have e' : ¬ k + us.length + (i - (min k (min N l.length) + us.length)) < N := by omega
    simp [h1, show ¬ i < min k (min N l.length) + us.length by omega, e']

theorem flatE_set : ∀ {es : List (List DC)} {sz : Nat}, (∀ e ∈ es, e.length = sz) → ∀ (i : Nat) (hi : i < es.length) (c : Nat) (d : List DC), c + d.length ≤ sz →
    flatE (es.set i (es[i].take c ++ d ++ es[i].drop (c + d.length))) = (flatE es).take (i * sz + c) ++ d.map DC.val ++ (flatE es).drop (i * sz + c + (d.map DC.val).length)
  | x :: es, sz, hs, 0, _, c, d, h => by
    have hx := hs x (by simp)
    unfold flatE
    simp only [List.set_cons_zero, List.flatMap_cons, List.getElem_cons_zero, Nat.zero_mul, Nat.zero_add, List.map_append, List.map_take, List.map_drop, List.length_map]
    rw [List.take_append_of_le_length (by simp; omega), List.drop_append_of_le_length (by simp; omega)]
    simp [List.append_assoc]
  | x :: es, sz, hs, i + 1, hi, c, d, h => by
    have hx := hs x (by simp)
    have ih := flatE_set (es := es) (sz := sz) (fun e he => hs e (by simp [he])) i (by simpa using hi) c d h
    unfold flatE at ih ⊢
    simp only [List.set_cons_succ, List.flatMap_cons, List.getElem_cons_succ]
    rw [ih]
    have hxl : (x.map DC.val).length = sz := by simp [hx]
    have t1 : (x.map DC.val).take ((i + 1) * sz + c) = x.map DC.val := List.take_of_length_le (by rw [hxl, Nat.add_mul]; omega)
    have t2 : (x.map DC.val).drop ((i + 1) * sz + c + (d.map DC.val).length) = [] := List.drop_eq_nil_of_le (by rw [hxl, Nat.add_mul]; omega)
    rw [List.take_append, List.drop_append, t1, t2, hxl, show (i + 1) * sz + c - sz = i * sz + c by rw [Nat.add_mul]; omega, show (i + 1) * sz + c + (d.map DC.val).length - sz = i * sz + c + (d.map DC.val).length by rw [Nat.add_mul]; omega]
    simp [List.append_assoc]

theorem run_storeAt_gen {P : Program} {w : World} {b o T t : Nat} {cur : Array Value} {u : Value} {us : List Value} (hg : w.heap[b]? = some (.cells cur T (0, 0))) (hu : u.cells.toList = us) (h1 : ∀ v ∈ us, v.oneCell' = true)
    (hl : o + us.length ≤ cur.size) (hi : (P.info? t).map (·.size) = some us.length) :
    (Instr.storeAt t (.pointer (some ⟨b, o, none⟩)) u).run P w = .ok () (w.setRow b (cur.toList.take o ++ us ++ cur.toList.drop (o + us.length)).toArray) := by
  have := run_storeCells_at P b o T us 0 cur w hg (by simpa using hl) h1
  simp only [Nat.add_zero] at this
  cases hq : P.info? t with
  | none => simp [hq] at hi
  | some i =>
    have hs : i.size = us.length := by simpa [hq] using hi
    have hus : u.cells.size = us.length := by rw [← hu]; simp
    simp [Instr.storeAt, Instr.sureAddr, storeVar, sizeOf, typeInfo, hq, hs, hus, hu, this]

theorem setRow_size (w : World) (g : Nat) (cs : Array Value) : (w.setRow g cs).heap.size = w.heap.size := by simp [World.setRow]

theorem Done.set {V : Nat → Prop} {ρ : Nat → At} {H : Heap} {nx : Nat} {w : World} {f b : Nat} {cs : Array Value} {blk : Blk} (hV : V f) (hf : f < nx) (hold : Holds V ρ (w.setRow b cs) (ρ f) blk) (hb : (ρ f).F b) (hF : ∀ b, (ρ f).F b → b < w.heap.size) :
    Done V ρ H nx w ⟨.any, [f], [(f, some blk)], nx⟩ undef ρ (w.setRow b cs) := by
  refine ⟨fun _ _ => rfl, trivial, ⟨fun g blk' h => ?_, fun g k blk1 blk2 hne h _ h' => ?_⟩, fun g blk' h b' hb' => ?_, rfl, rfl, rfl, by rw [setRow_size]; exact Nat.le_refl _, fun k hk hn => ?_⟩
  · simp only [hget] at h
    split at h
    · rename_i e; subst e; cases h
      exact ⟨.inl hV, hold.keep (fun f hf => ⟨.inl hf, rfl⟩) (fun _ _ => rfl), fun b' hb' => by rw [setRow_size]; exact hF b' hb'⟩
    · cases h
  · simp only [hget] at h h'
    split at h
    · split at h'
      · omega
      · cases h'
    · cases h
  · simp only [hget] at h
    split at h
    · rename_i e; subst e
      exact .inr (.inl ⟨g, _, List.mem_cons_self, hf, hb'⟩)
    · cases h
  · refine setRow_other w b k cs ?_
    rintro rfl
    exact hn f _ List.mem_cons_self hf hb

theorem EffOK.of_set {P : Program} {o : Oper} {ev : Operand → SV} {H : Heap} {nx f : Nat} {b0 blk : Blk} (hf : f < nx) (hH : hget H f = some b0)
    (h : ∀ (V : Nat → Prop) (ρ : Nat → At) (a : Act) (w : World), (∀ x, SVr V ρ (ev x) (a.eval x)) → V f → Holds V ρ w (ρ f) b0 →
      ∃ b cs, (execOp a.eval o).run P w = .ok .skip (w.setRow b cs) ∧ (ρ f).F b ∧ Holds V ρ (w.setRow b cs) (ρ f) blk) : EffOK P o ev H nx ⟨.any, [f], [(f, some blk)], nx⟩ := by
  intro V ρ a w K Q hV hev hm hK
  obtain ⟨h1, h2, h3⟩ := hm.dom f b0 (looked_get (by simp) hH)
  obtain ⟨b, cs, q1, q2, q3⟩ := h V ρ a w hev h1 h2
  unfold Oper.wp
  rw [q1]
  exact hK undef ρ _ (Done.set h1 hf q3 q2 h3)

theorem fit_set {H : Heap} {nx f : Nat} {b0 : Blk} {b : Option Blk} (hf : f < nx) (hH : hget H f = some b0) (ho : b0.own = true) : Fit H nx ⟨.any, [f], [(f, b)], nx⟩ :=
  ⟨Nat.le_refl _, fun g hg => by simp at hg; subst hg; exact ⟨_, hH⟩, fun g b hb => by simp at hb; obtain ⟨rfl, _⟩ := hb; exact ⟨hf, fun _ => ⟨by simp, b0, hH, ho⟩⟩, by simp⟩

/-- All numbers of blocks of a heap are taken. -/
def Bnd (H : Heap) (nx : Nat) : Prop := ∀ f blk, hget H f = some blk → f < nx

end Go.Proofs.Ytmdajpgemcaefaa
