/-
  The engine, ninth part: new blocks, and append. No conditions of its own.
-/
import Derived.Test.YtmdajpgemcaefaaE8
namespace Go.Proofs.Ytmdajpgemcaefaa
set_option linter.unusedSimpArgs false
set_option linter.unusedVariables false
open Go.RowKit

theorem alloc_below (w : World) (o : Obj) : Below w.heap.size w (w.alloc o) := Below.alloc (Below.refl _ _) (Nat.le_refl _) _

theorem run_zeroValue {P : Program} {t : TypeId} {i : TypeInfo} {z : Value} (h1 : P.info? t = some i) (h2 : i.zero = some z) (w : World) : (zeroValue t).run P w = .ok z w := by
  simp [zeroValue, typeInfo, h1, h2]

theorem box_new {V : Nat → Prop} {ρ : Nat → At} {w : World} {nx e : Nat} {cs : List CV} {vs : List Value} (h : All2 (CVr V ρ) cs vs) (hV : ∀ f, nx ≤ f → f < nx + 1 → ¬ V f) :
    ∃ p : At, Holds (newV V nx (nx + 1)) (updA ρ nx p) (w.alloc (.cells vs.toArray e)) p (.box e cs) ∧ (∀ b, p.F b → w.heap.size ≤ b ∧ b < (w.alloc (.cells vs.toArray e)).heap.size) ∧
      SVr (newV V nx (nx + 1)) (updA ρ nx p) (.c (.ptr nx 0 0)) (.pointer (some ⟨w.heap.size, 0, none⟩)) := by
  refine ⟨⟨some w.heap.size, 0, 0, 1, False, (· = w.heap.size)⟩, ⟨rfl, w.heap.size, vs, rfl, rfl, heap_alloc_new w _, h.mono fun x u hx => hx.mono fun f hf => ⟨.inl hf, ?_⟩⟩, fun b hb => ?_, ⟨.inr ⟨Nat.le_refl _, Nat.lt_succ_self _⟩, w.heap.size, by rw [updA_new], by rw [updA_new]; rfl⟩⟩
  · have hb' : b = w.heap.size := hb
    subst hb'
    exact ⟨Nat.le_refl _, by simp⟩
  · refine updA_same ρ nx _ ?_
    by_cases hf' : f < nx
    · exact .inl hf'
    · refine .inr ?_
      by_cases h' : f < nx + 1
      · exact absurd hf (hV f (by omega) h')
      · omega

theorem new_ok {P : Program} {o : Oper} {ev : Operand → SV} {H : Heap} {nx : Nat} {K : Eff → Prop} (ho : (∃ e, o.op = .alloc e) ∨ ∃ e x, o.op = .box e x) (h : memK P o ev H nx K) :
    ∃ e, Fit H nx e ∧ EffOK P o ev H nx e ∧ K e := by
  unfold memK at h
  rcases ho with ⟨e, ho⟩ | ⟨e, x, ho⟩
  · rw [ho] at h
    obtain ⟨ti, h1, h2⟩ := h
    obtain ⟨i, d, z, e1, e2, ⟨e3, e4, e5⟩, rfl⟩ := tiOf_inv h1
    refine ⟨_, fit_new (fun f hf => (by cases hf)), EffOK.of_new fun V ρ a w hev hm hV => ?_, h2⟩
    obtain ⟨p, q1, q2, q3⟩ := box_new (w := w) (e := e) (zero_r V ρ e4) hV
    simp only [Array.toArray_toList] at q1 q2
    refine ⟨_, w.alloc (.cells z.cells e), p, ?_, q1, q2, q3, alloc_below _ _⟩
    simp [execOp, ho, Instr.alloc, run_zeroValue e1 e3, newVar, newRow]
  · rw [ho] at h
    obtain ⟨cs, h1, h2⟩ := h
    refine ⟨_, fit_new (fun f hf => (by cases hf)), EffOK.of_new fun V ρ a w hev hm hV => ?_, h2⟩
    obtain ⟨p, q1, q2, q3⟩ := box_new (w := w) (e := e) (cellsOf_r h1 (hev x)) hV
    simp only [Array.toArray_toList] at q1 q2
    refine ⟨_, w.alloc (.cells (a.eval x).cells e), p, ?_, q1, q2, q3, alloc_below _ _⟩
    simp [execOp, ho, Instr.box, newVar, newRow]

theorem zeros_r {V : Nat → Prop} {ρ : Nat → At} {z : Value} {sz : Nat} (h1 : ∀ x ∈ z.cells.toList, x.oneCell' = true) (h2 : z.cells.size = sz) (h0 : 0 < sz) (n : Nat) :
    All2 (CVr V ρ) (List.replicate n (z.cells.toList.map cvOf)).flatten ((Array.range (n * sz)).map (z.cells[· % z.cells.size]!)).toList := by
  have hl : ∀ n, (List.replicate n (z.cells.toList.map cvOf)).flatten.length = n * sz := by intro n; simp [h2]
  refine All2.of_get (by rw [hl]; simp) fun i a b ha hb => ?_
  have hi : i < n * sz := by rw [← hl]; exact (List.getElem?_eq_some_iff.1 ha).1
  have key : ∀ (n i : Nat), i < n * sz → (List.replicate n (z.cells.toList.map cvOf)).flatten[i]? = (z.cells.toList.map cvOf)[i % sz]? := by
    intro n
    induction n with
    | zero => intro i hi; omega
    | succ n ih =>
      intro i hi
      rw [List.replicate_succ, List.flatten_cons]
      by_cases hs : i < sz
      · rw [List.getElem?_append_left (by simpa [h2] using hs), Nat.mod_eq_of_lt hs]
      · rw [List.getElem?_append_right (by simp [h2]; omega)]
        have : (z.cells.toList.map cvOf).length = sz := by simp [h2]
        rw [this, ih (i - sz) (by rw [Nat.add_mul] at hi; omega)]
        congr 1
        rw [Nat.mod_eq_sub_mod (by omega : i ≥ sz)]
  rw [key n i hi] at ha
  have hm : i % sz < z.cells.size := by rw [h2]; exact Nat.mod_lt _ h0
  simp [hi, h2] at ha hb
  obtain ⟨x, hx, rfl⟩ := ha
  have hx' : z.cells[i % sz]? = some x := by simpa using hx
  subst hb
  have : z.cells[i % sz]! = x := by
    rw [Array.getElem!_eq_getD, Array.getD_eq_getD_getElem?, hx']; rfl
  rw [this]
  exact cvOf_r V ρ (h1 x (by simpa using Array.mem_of_getElem? hx'))

theorem buildSlice_ok {P : Program} {o : Oper} {ev : Operand → SV} {H : Heap} {nx : Nat} {K : Eff → Prop} {t : TypeId} {len : Nat} {parts : Array (Nat × Operand)} (ho : o.op = .buildSlice t len parts) (h : memK P o ev H nx K) :
    ∃ e, Fit H nx e ∧ EffOK P o ev H nx e ∧ K e := by
  unfold memK at h
  rw [ho] at h
  obtain ⟨ti, e, te, cs, es, h1, h2, h3, h4, h5, h6, h7, h8⟩ := h
  obtain ⟨i, d, z, e1, e2, _, rfl⟩ := tiOf_inv h1
  obtain rfl := td_slice h2
  obtain ⟨i', d', z', e1', e2', ⟨e3', e4', e5'⟩, rfl⟩ := tiOf_inv h3
  simp only at h4 h5 h6 h7 h8
  refine ⟨_, fit_new (fun f hf => (by cases hf)), EffOK.of_new fun V ρ a w hev hm hV => ?_, h8⟩
  obtain ⟨l, g1, g2⟩ := Option.bind_eq_some_iff.1 h6
  have hps := partsOf_r hev g1
  obtain ⟨arr, q1, q2⟩ := fillS_r l _ _ cs _ (zeros_r (V := V) (ρ := ρ) e4' e5' h4 len) hps g2
  have hcl : cs.length = len * i'.size := by
    have hfl : ∀ (l : List (Nat × List CV)) (cs out : List CV), fillS (fun i => some (i * i'.size, i'.size)) cs l = some out → out.length = cs.length := by
      intro l
      induction l with
      | nil => intro cs out h; cases h; rfl
      | cons p l ih =>
        intro cs out h
        obtain ⟨k, x⟩ := p
        unfold fillS at h
        simp only at h
        split at h
        · rename_i hc
          rw [ih _ _ h]
          unfold splice
          simp; omega
        · cases h
    rw [hfl l _ _ g2]; simp [e5']
  obtain ⟨r1, r2, r3, r4⟩ := chunk_r len hcl h7 q2
  have hfit : arr.size = len * i'.size := by have := q2.length; simp at this; omega
  have hown : (w.alloc (.cells arr e)).ownsRow 0 e i'.size (.slice (some ⟨w.heap.size, 0, none⟩) len len) len (flatE es) :=
    ⟨by rw [flatE_len r3, r2], .inr ⟨w.heap.size, len, arr, rfl, Nat.zero_le _, heap_alloc_new w _, Nat.le_refl _, by
      have : len ≤ len * i'.size := Nat.le_mul_of_pos_right _ h4
      unfold maxLen; omega, hfit, by rw [← r1]; exact List.take_of_length_le (by simp; omega)⟩⟩
  obtain ⟨p, p1, p2, p3⟩ := row_of_owns (V := V) (ρ := ρ) (nx := nx) hown r2 r3 r4
  refine ⟨_, w.alloc (.cells arr e), p, ?_, p1, fun b hb => ?_, p2, alloc_below _ _⟩
  · have hrun : (Instr.buildSlice t len (parts.map fun (i, x) => (i, a.eval x))).run P w = .ok (.slice (some ⟨w.heap.size, 0, none⟩) len len) (w.alloc (.cells arr e)) := by
      have hf : Instr.fill (fun i => some (i * i'.size, i'.size)) ((Array.range (len * i'.size)).map (z'.cells[· % z'.cells.size]!)) (parts.map fun (i, x) => (i, a.eval x)).toList = some arr := by
        rw [← q1]; congr 1; simp
      by_cases hz : len * i'.size = 0
      · have hf' := hf
        have hr0 : Array.range 0 = #[] := rfl
        rw [hz, hr0] at hf'
        simp only [Array.map_empty] at hf'
        simp only [Instr.buildSlice, Sem.run_bind, run_underlying e2, Result.andThen_ok, sizeOf, typeInfo, run_program, e1', Sem.run_pure, hz, hr0, Array.map_empty, if_true, hf', newRow, run_newObj]
        rfl
      · exact run_buildSlice w t e len _ arr i' z' e2 e1' e3' (by omega) hz hf
    simp only [execOp, ho, Sem.run_bind, hrun]; rfl
  · rw [p3] at hb
    simp [Value.ownBlock] at hb
    subst hb
    exact ⟨Nat.le_refl _, by simp⟩

theorem makeSlice_ok {P : Program} {o : Oper} {ev : Operand → SV} {H : Heap} {nx : Nat} {K : Eff → Prop} {t : TypeId} {l c : Operand} (ho : o.op = .makeSlice t l c) (h : memK P o ev H nx K) :
    ∃ e, Fit H nx e ∧ EffOK P o ev H nx e ∧ K e := by
  unfold memK at h
  rw [ho] at h
  simp only at h
  split at h
  · rename_i k n k' m hl hc
    obtain ⟨ti, e, te, z, h1, h2, h3, h4, h5, rfl, ⟨h6, h7, h8⟩, h9⟩ := h
    obtain ⟨i, d, zz, e1, e2, _, rfl⟩ := tiOf_inv h1
    obtain rfl := td_slice h2
    obtain ⟨i', d', z', e1', e2', ⟨e3', e4', e5'⟩, rfl⟩ := tiOf_inv h3
    simp only at h4 h5 h7 h9
    obtain ⟨n, rfl⟩ := Int.eq_ofNat_of_zero_le h6
    refine ⟨_, fit_new (fun f hf => (by cases hf)), EffOK.of_new fun V ρ a w hev hm hV => ?_, h9⟩
    have hp := hev l
    rw [hl] at hp
    have hq := hev c
    rw [hc] at hq
    have hby : i'.bytes * n ≤ 281474976710656 := by
      have e : ((i'.bytes * n : Nat) : Int) ≤ 140737488355328 := by rw [Int.natCast_mul]; exact h7
      omega
    obtain ⟨w', g1, g2, g3⟩ := run_make_full w 0 t e i' z' i'.size e2 e1' e3' rfl k k' n hby (by unfold maxLen; omega) (Nat.zero_le _)
    obtain ⟨r1, r2, r3⟩ := dcsOf_r (V := V) (ρ := ρ) h5 (zero_r V ρ e4')
    have hz : z.length = i'.size := by rw [r3]; simp [e5']
    have hfl : (madeCells z'.cells (n * i'.size)).toList = flatE (List.replicate n z) := by
      have e := zeros_r (V := V) (ρ := ρ) e4' e5' h4 n
      have hzl : (z'.cells.toList.map cvOf).length = i'.size := by simp [e5']
      have e2 : ∀ n, dcssOf (chunk i'.size n (List.replicate n (z'.cells.toList.map cvOf)).flatten) = some (List.replicate n z) := by
        intro n
        induction n with
        | zero => rfl
        | succ n ih =>
          unfold chunk dcssOf
          rw [List.replicate_succ, List.flatten_cons, List.take_left' hzl, List.drop_left' hzl, h5, ih]
          rfl
      have := (chunk_r n (by simp [e5']) (e2 n) e).1
      rw [← this]
      rfl
    rw [hfl] at g2
    obtain ⟨p, p1, p2, p3⟩ := row_of_owns (V := V) (ρ := ρ) (nx := nx) g2 (by simp) (fun e he => by rw [(List.mem_replicate.1 he).2]; exact hz) (fun e he => by rw [(List.mem_replicate.1 he).2]; exact r2)
    refine ⟨_, w', p, ?_, p1, fun b hb => ?_, by simpa using p2, ⟨g3.os, g3.tape, g3.output, g3.size, fun k hk => g3.block k hk (by simp)⟩⟩
    · have : (Instr.makeSlice t (a.eval l) (a.eval c)).run P w = .ok (.slice (some ⟨w.heap.size, 0, none⟩) n n) w' := by rw [hp.1, hq.1]; exact g1
      simp only [execOp, ho, Sem.run_bind, this]; rfl
    · rw [p3] at hb
      simp [Value.ownBlock] at hb
      subst hb
      refine ⟨Nat.le_refl _, ?_⟩
      rcases g2.2 with ⟨q, _⟩ | ⟨g, cap, cur, q1, _, q2, _⟩
      · simp at q
      · simp at q1
        obtain ⟨q3, _⟩ := q1
        rw [q3]; exact (Array.getElem?_eq_some_iff.1 q2).1
  · exact h.elim

end Go.Proofs.Ytmdajpgemcaefaa
