/-
  The engine, texts E9 E10 E11 E12 E13 ES E14 E15 E16 E17 in one. No conditions of its own.
-/
import Derived.Test.YtfnhchcgieeedaaMA
import Derived.Laws.IdiomStrings
import Derived.Scope
namespace Go.Proofs.Ytfnhchcgieeedaa
set_option linter.unusedSimpArgs false
set_option linter.unusedVariables false
set_option linter.unusedSimpArgs false
set_option linter.unusedVariables false
set_option linter.defProp false
open Go.RowKit

theorem alloc_below (w : World) (o : Obj) : Below w.heap.size w (w.alloc o) := Below.alloc (Below.refl _ _) (Nat.le_refl _) _

theorem run_zeroValue {P : Program} {t : TypeId} {i : TypeInfo} {z : Value} (h1 : P.info? t = some i) (h2 : i.zero = some z) (w : World) : (zeroValue t).run P w = .ok z w := by
  simp [zeroValue, typeInfo, h1, h2]

theorem box_new {V : Nat → Prop} {ρ : Nat → At} {w : World} {nx e : Nat} {cs : List CV} {vs : List Value} (h : All2 (CVr V ρ) cs vs) (hV : ∀ f, nx ≤ f → f < nx + 1 → ¬ V f) :
    ∃ p : At, Holds (newV V nx (nx + 1)) (updA ρ nx p) (w.alloc (.cells vs.toArray e)) p (.box e cs) ∧ (∀ b, p.F b → w.heap.size ≤ b ∧ b < (w.alloc (.cells vs.toArray e)).heap.size) ∧
      SVr (newV V nx (nx + 1)) (updA ρ nx p) (.c (.ptr nx 0 0)) (.pointer (some ⟨w.heap.size, 0, none⟩)) := by
  refine ⟨⟨some w.heap.size, 0, 0, 1, False, (· = w.heap.size)⟩, ⟨rfl, w.heap.size, vs, rfl, rfl, heap_alloc_new w _, h.mono fun x u hx => hx.mono fun f hf => ⟨.inl hf, ?_⟩⟩, fun b hb => ?_, ⟨.inr ⟨Nat.le_refl _, Nat.lt_succ_self _⟩, w.heap.size, by rw [updA_new], by rw [updA_new]; rfl⟩⟩
  · have hb' : b = w.heap.size := hb
    subst hb'
    exact ⟨Nat.le_refl _, by simp⟩
  · refine congrArg At.nf (updA_same ρ nx _ ?_)
    by_cases hf' : f < nx
    · exact .inl hf'
    · refine .inr ?_
      by_cases h' : f < nx + 1
      · exact absurd hf (hV f (by omega) h')
      · omega

theorem new_ok {P : Program} {o : Oper} {ev : Operand → SV} {H : Heap} {nx : Nat} {K : Eff → Prop} (ho : (∃ e, o.op = .alloc e) ∨ ∃ e x, o.op = .box e x) (h : memK P o ev H nx K) :
    ∃ e, Fit H nx e ∧ EffOK P o ev H nx e ∧ K e := by
  unfold memK at h
  rcases ho with ⟨e, ho⟩ | ⟨e, x, ho⟩
  · rw [ho] at h
    obtain ⟨ti, h1, h2⟩ := h
    obtain ⟨i, d, z, e1, e2, ⟨e3, e4, e5⟩, rfl⟩ := tiOf_inv h1
    refine ⟨_, fit_new (fun f hf => (by cases hf)), EffOK.of_new fun V ρ a w hev hm hV => ?_, h2⟩
    obtain ⟨p, q1, q2, q3⟩ := box_new (w := w) (e := e) (zero_r V ρ e4) hV
    simp only [Array.toArray_toList] at q1 q2
    refine ⟨_, w.alloc (.cells z.cells e), p, ?_, q1, q2, q3, alloc_below _ _⟩
    simp [execOp, ho, Instr.alloc, run_zeroValue e1 e3, newVar, newRow]
  · rw [ho] at h
    obtain ⟨cs, h1, h2⟩ := h
    refine ⟨_, fit_new (fun f hf => (by cases hf)), EffOK.of_new fun V ρ a w hev hm hV => ?_, h2⟩
    obtain ⟨p, q1, q2, q3⟩ := box_new (w := w) (e := e) (cellsOf_r h1 (hev x)) hV
    simp only [Array.toArray_toList] at q1 q2
    refine ⟨_, w.alloc (.cells (a.eval x).cells e), p, ?_, q1, q2, q3, alloc_below _ _⟩
    simp [execOp, ho, Instr.box, newVar, newRow]

theorem zeros_r {V : Nat → Prop} {ρ : Nat → At} {z : Value} {sz : Nat} (h1 : ∀ x ∈ z.cells.toList, x.oneCell' = true) (h2 : z.cells.size = sz) (h0 : 0 < sz) (n : Nat) :
    All2 (CVr V ρ) (List.replicate n (z.cells.toList.map cvOf)).flatten ((Array.range (n * sz)).map (z.cells[· % z.cells.size]!)).toList := by
  have hl : ∀ n, (List.replicate n (z.cells.toList.map cvOf)).flatten.length = n * sz := by intro n; simp [h2]
  refine All2.of_get (by rw [hl]; simp) fun i a b ha hb => ?_
  have hi : i < n * sz := by rw [← hl]; exact (List.getElem?_eq_some_iff.1 ha).1
  have key : ∀ (n i : Nat), i < n * sz → (List.replicate n (z.cells.toList.map cvOf)).flatten[i]? = (z.cells.toList.map cvOf)[i % sz]? := by
    intro n
    induction n with
    | zero => intro i hi; omega
    | succ n ih =>
      intro i hi
      rw [List.replicate_succ, List.flatten_cons]
      by_cases hs : i < sz
      · rw [List.getElem?_append_left (by simpa [h2] using hs), Nat.mod_eq_of_lt hs]
      · rw [List.getElem?_append_right (by simp [h2]; omega)]
        have : (z.cells.toList.map cvOf).length = sz := by simp [h2]
        rw [this, ih (i - sz) (by rw [Nat.add_mul] at hi; omega)]
        congr 1
        rw [Nat.mod_eq_sub_mod (by omega : i ≥ sz)]
  rw [key n i hi] at ha
  have hm : i % sz < z.cells.size := by rw [h2]; exact Nat.mod_lt _ h0
  simp [hi, h2] at ha hb
  obtain ⟨x, hx, rfl⟩ := ha
  have hx' : z.cells[i % sz]? = some x := by simpa using hx
  subst hb
  have : z.cells[i % sz]! = x := by
    rw [Array.getElem!_eq_getD, Array.getD_eq_getD_getElem?, hx']; rfl
  rw [this]
  exact cvOf_r V ρ (h1 x (by simpa using Array.mem_of_getElem? hx'))

theorem fillS_len (sz : Nat) : ∀ (l : List (Nat × List CV)) (cs out : List CV), fillS (fun i => some (i * sz, sz)) cs l = some out → out.length = cs.length := by
  intro l
  induction l with
  | nil => intro cs out h; cases h; rfl
  | cons p l ih =>
    intro cs out h
    obtain ⟨k, x⟩ := p
    unfold fillS at h
    simp only at h
    split at h
    · rename_i hc
      rw [ih _ _ h]
      unfold splice
      simp; omega
    · cases h

theorem chunkD_len (sz : Nat) : ∀ (n : Nat) (l : List DC), (chunkD sz n l).length = n
  | 0, _ => rfl
  | n + 1, l => by simp [chunkD, chunkD_len sz n]

theorem chunkD_get (sz : Nat) : ∀ (n : Nat) (l : List DC) (i : Nat), i < n → (chunkD sz n l)[i]? = some ((l.drop (i * sz)).take sz)
  | n + 1, l, 0, _ => by simp [chunkD]
  | n + 1, l, i + 1, h => by
    simp only [chunkD, List.getElem?_cons_succ]
    rw [chunkD_get sz n _ i (by omega), List.drop_drop]
    congr 3
    rw [Nat.add_mul]; omega

theorem absL_rows {H : Heap} : ∀ (o : List DC) (l : List CV) (r : List DC × List Nat), absL H o l = some r → ∀ g ∈ r.2, ∃ T d, hget H g = some (.row T d) := by
  intro o
  induction o with
  | nil => intro l r h g hg; cases l <;> simp [absL] at h; subst h; cases hg
  | cons a o ih =>
    intro l r h g hg
    cases l with
    | nil => cases a <;> simp [absL] at h
    | cons x l =>
      cases a <;> cases x <;> simp only [absL] at h <;> try (cases h; done)
      · split at h
        · rename_i r' hr'; cases h; exact ih _ _ hr' g hg
        · cases h
      · split at h
        · rename_i r' hr'; cases h; exact ih _ _ hr' g hg
        · cases h
      · split at h
        · rename_i T' d' hH'
          split at h
          · rename_i r' hr'
            cases h
            rcases List.mem_cons.1 hg with rfl | hg
            · exact ⟨_, _, hH'⟩
            · exact ih _ _ hr' g hg
          · cases h
        · cases h

theorem build_nst {P : Program} {o : Oper} {ev : Operand → SV} {H : Heap} {nx : Nat} {K : Eff → Prop} {t : TypeId} {len : Nat} {parts : Array (Nat × Operand)} {ti te : TI} {e : Nat} {cs : List CV} {nz : List DC} {r : List DC × List Nat} (ho : o.op = .buildSlice t len parts)
    (h1 : tiOf P t = some ti) (h2 : ti.d = .slice e) (h3 : tiOf P e = some te) (h4 : 0 < te.size) (h5 : len * te.size ≤ 1000000) (h6 : ((partsOf ev parts.toList).bind fun l => fillS (fun i => some (i * te.size, te.size)) (List.replicate len te.zero).flatten l) = some cs)
    (h7 : nzT P e = some nz) (hB : Bnd H nx) (hr : absL H (List.replicate len nz).flatten cs = some r) (h8 : absP H (List.replicate len nz).flatten cs) (h9 : distB r.2 = true)
    (h10 : K ⟨.c (.sl nx te.size 0 len), r.2, (nx, some (.nst e (chunkD te.size len r.1) none)) :: noneB r.2, nx + 1⟩) : ∃ e, Fit H nx e ∧ EffOK P o ev H nx e ∧ K e := by
  obtain ⟨i, d, z, e1, e2, _, rfl⟩ := tiOf_inv h1
  obtain rfl := td_slice h2
  obtain ⟨i', d', z', e1', e2', ⟨e3', e4', e5'⟩, rfl⟩ := tiOf_inv h3
  simp only at h4 h5 h6 h10
  have hrows := absL_rows _ _ _ hr
  have hlt : ∀ g ∈ r.2, g < nx := fun g hg => by obtain ⟨T', d', h⟩ := hrows g hg; exact hB g _ h
  refine ⟨_, fit_nst (fun g hg => ?_) (fun g hg => ⟨hlt g hg, hg, ?_⟩) h9, fun V ρ a w K' Q hV hev hm hK => ?_, h10⟩
  · obtain ⟨T', d', h⟩ := hrows g hg; exact ⟨_, h⟩
  · obtain ⟨T', d', h⟩ := hrows g hg; exact ⟨_, h, rfl⟩
  obtain ⟨l, g1, g2⟩ := Option.bind_eq_some_iff.1 h6
  have hps := partsOf_r hev g1
  obtain ⟨arr, q1, q2⟩ := fillS_r l _ _ cs _ (zeros_r (V := V) (ρ := ρ) e4' e5' h4 len) hps g2
  have hcl : cs.length = len * i'.size := by rw [fillS_len _ _ _ _ g2]; simp [e5']
  have hfit : arr.size = len * i'.size := by have := q2.length; simp at this; omega
  obtain ⟨k1, _, pl, k3, k4, k5⟩ := absL_r hm hr h8 q2 (fun g hg => hg) h9
  have hown : (w.alloc (.cells arr e)).ownsRow 0 e i'.size (.slice (some ⟨w.heap.size, 0, none⟩) len len) len arr.toList :=
    ⟨by simpa using hfit, .inr ⟨w.heap.size, len, arr, rfl, Nat.zero_le _, heap_alloc_new w _, Nat.le_refl _, by
      have : len ≤ len * i'.size := Nat.le_mul_of_pos_right _ h4
      unfold maxLen; omega, hfit, List.take_of_length_le (by simp; omega)⟩⟩
  have hsz : ∀ k, (∃ g ∈ r.2, (ρ g).F k) → k < w.heap.size := fun k ⟨g, q3, q4⟩ => by
    obtain ⟨T', d', q5⟩ := hrows g q3
    exact (hm.dom g _ (looked_get q3 q5)).2.2 k q4
  obtain ⟨p, p1, p2, p3⟩ := nst_of_owns (V := V) (ρ := ρ) (nx := nx) (es := chunkD i'.size len r.1) hown (chunkD_len _ _ _) (fun x hx => by
      obtain ⟨k, hk⟩ := List.mem_iff_getElem?.1 hx
      have hkl : k < len := by have := (List.getElem?_eq_some_iff.1 hk).1; rwa [chunkD_len] at this
      rw [chunkD_get _ _ _ _ hkl] at hk
      cases hk
      have := Nat.mul_le_mul_right i'.size (show k + 1 ≤ len from hkl)
      rw [Nat.add_mul, Nat.one_mul] at this
      simp; omega) (fun k j => if j < i'.size then pl (k * i'.size + j) else At.none0 0)
    (fun k j b hb => by
      split at hb
      · have := hsz b (k4 _ _ hb)
        intro e
        simp [Value.ownBlock] at e
        omega
      · exact hb.elim)
    (fun k j k' j' b hb hb' => by
      split at hb
      · rename_i c1
        split at hb'
        · rename_i c2
          have := k5 _ _ _ hb hb'
          have a1 : (k * i'.size + j) / i'.size = k := by rw [Nat.mul_comm, Nat.mul_add_div h4, Nat.div_eq_of_lt c1]; rfl
          have a2 : (k' * i'.size + j') / i'.size = k' := by rw [Nat.mul_comm, Nat.mul_add_div h4, Nat.div_eq_of_lt c2]; rfl
          have a3 : k = k' := by rw [← a1, ← a2, this]
          subst a3
          exact ⟨rfl, by omega⟩
        · exact hb'.elim
      · exact hb.elim)
    (fun k x j c hk hj => by
      have hkl : k < len := by have := (List.getElem?_eq_some_iff.1 hk).1; rwa [chunkD_len] at this
      rw [chunkD_get _ _ _ _ hkl] at hk
      cases hk
      rw [List.getElem?_take] at hj
      split at hj
      · rename_i hjl
        rw [List.getElem?_drop] at hj
        have := Nat.mul_le_mul_right i'.size (show k + 1 ≤ len from hkl)
        rw [Nat.add_mul, Nat.one_mul] at this
        obtain ⟨u, hu⟩ : ∃ u, arr.toList[k * i'.size + j]? = some u := ⟨_, List.getElem?_eq_getElem (by simp; omega)⟩
        refine ⟨u, hu, ?_⟩
        rw [if_pos hjl]
        exact Cel.keep (fun b hb => Below.heap_alloc _ _ _ (hsz b (k4 _ _ hb))) (k3 _ _ _ hj hu)
      · cases hj)
  have hrun : (Instr.buildSlice t len (parts.map fun (i, x) => (i, a.eval x))).run P w = .ok (.slice (some ⟨w.heap.size, 0, none⟩) len len) (w.alloc (.cells arr e)) := by
    have hf : Instr.fill (fun i => some (i * i'.size, i'.size)) ((Array.range (len * i'.size)).map (z'.cells[· % z'.cells.size]!)) (parts.map fun (i, x) => (i, a.eval x)).toList = some arr := by
      rw [← q1]; congr 1; simp
    by_cases hz : len * i'.size = 0
    · have hf' := hf
      have hr0 : Array.range 0 = #[] := rfl
      rw [hz, hr0] at hf'
      simp only [Array.map_empty] at hf'
      simp only [Instr.buildSlice, Sem.run_bind, run_underlying e2, Result.andThen_ok, sizeOf, typeInfo, run_program, e1', Sem.run_pure, hz, hr0, Array.map_empty, if_true, hf', newRow, run_newObj]
      rfl
    · exact run_buildSlice w t e len _ arr i' z' e2 e1' e3' (by omega) hz hf
  unfold Oper.wp
  have hx : (execOp a.eval o).run P w = .ok (.value (.slice (some ⟨w.heap.size, 0, none⟩) len len)) (w.alloc (.cells arr e)) := by simp only [execOp, ho, Sem.run_bind, hrun]; rfl
  rw [hx]
  have hbl := alloc_below w (.cells arr e)
  refine hK _ _ _ (Done.nst p1 (fun b hb => ?_) hlt p2 hbl.os hbl.tape hbl.output hbl.size fun k hk _ => hbl.block k hk)
  rw [p3] at hb
  rcases hb with hb | ⟨k, j, hb⟩
  · simp [Value.ownBlock] at hb
    subst hb
    exact ⟨.inl (Nat.le_refl _), by simp⟩
  · split at hb
    · obtain ⟨g, q5, q6⟩ := k4 _ _ hb
      obtain ⟨T', d', q7⟩ := hrows g q5
      exact ⟨.inr ⟨g, q5, _, q7, q6⟩, Nat.lt_of_lt_of_le (hsz b (k4 _ _ hb)) hbl.size⟩
    · exact hb.elim

theorem build_mix {P : Program} {o : Oper} {ev : Operand → SV} {H : Heap} {nx : Nat} {K : Eff → Prop} {t : TypeId} {len : Nat} {parts : Array (Nat × Operand)} {ti te : TI} {e : Nat} {cs : List CV} {nz : List DC} {r : List DC × List Nat} (ho : o.op = .buildSlice t len parts)
    (h1 : tiOf P t = some ti) (h2 : ti.d = .slice e) (h3 : tiOf P e = some te) (h4 : 0 < te.size) (h5 : len * te.size ≤ 1000000) (h6 : ((partsOf ev parts.toList).bind fun l => fillS (fun i => some (i * te.size, te.size)) (List.replicate len te.zero).flatten l) = some cs)
    (hr : mixL H (List.replicate len nz).flatten cs = some r) (h8 : mixP H (List.replicate len nz).flatten cs)
    (h10 : K ⟨.c (.sl nx te.size 0 len), r.2, [(nx, some (.mix e (chunkD te.size len r.1)))], nx + 1⟩) : ∃ e, Fit H nx e ∧ EffOK P o ev H nx e ∧ K e := by
  obtain ⟨i, d, z, e1, e2, _, rfl⟩ := tiOf_inv h1
  obtain rfl := td_slice h2
  obtain ⟨i', d', z', e1', e2', ⟨e3', e4', e5'⟩, rfl⟩ := tiOf_inv h3
  simp only at h4 h5 h6 h10
  have hrows := mixL_ro hr
  refine ⟨_, fit_new (fun g hg => ?_), fun V ρ a w K' Q hV hev hm hK => ?_, h10⟩
  · obtain ⟨d', h⟩ := hrows g hg; exact ⟨_, h⟩
  obtain ⟨l, g1, g2⟩ := Option.bind_eq_some_iff.1 h6
  have hps := partsOf_r hev g1
  obtain ⟨arr, q1, q2⟩ := fillS_r l _ _ cs _ (zeros_r (V := V) (ρ := ρ) e4' e5' h4 len) hps g2
  have hcl : cs.length = len * i'.size := by rw [fillS_len _ _ _ _ g2]; simp [e5']
  have hfit : arr.size = len * i'.size := by have := q2.length; simp at this; omega
  obtain ⟨k1, k3⟩ := mixL_r hm hr h8 q2 (fun g hg => hg)
  have hown : (w.alloc (.cells arr e)).ownsRow 0 e i'.size (.slice (some ⟨w.heap.size, 0, none⟩) len len) len arr.toList :=
    ⟨by simpa using hfit, .inr ⟨w.heap.size, len, arr, rfl, Nat.zero_le _, heap_alloc_new w _, Nat.le_refl _, by
      have : len ≤ len * i'.size := Nat.le_mul_of_pos_right _ h4
      unfold maxLen; omega, hfit, List.take_of_length_le (by simp; omega)⟩⟩
  have hsz : ∀ k, (∃ g ∈ r.2, (ρ g).F k) → k < w.heap.size := fun k ⟨g, q3, q4⟩ => by
    obtain ⟨d', q5⟩ := hrows g q3
    exact (hm.dom g _ (looked_get q3 q5)).2.2 k q4
  obtain ⟨p, p1, p2, p3, p4⟩ := mix_of_owns (V := V) (ρ := ρ) (nx := nx) (es := chunkD i'.size len r.1) hown (chunkD_len _ _ _) (fun x hx => by
      obtain ⟨k, hk⟩ := List.mem_iff_getElem?.1 hx
      have hkl : k < len := by have := (List.getElem?_eq_some_iff.1 hk).1; rwa [chunkD_len] at this
      rw [chunkD_get _ _ _ _ hkl] at hk
      cases hk
      have := Nat.mul_le_mul_right i'.size (show k + 1 ≤ len from hkl)
      rw [Nat.add_mul, Nat.one_mul] at this
      simp; omega) (fun b => ∃ g ∈ r.2, (ρ g).F b)
    (fun b hb => by
      have := hsz b hb
      intro e
      simp [Value.ownBlock] at e
      omega)
    (fun k x j c hk hj => by
      have hkl : k < len := by have := (List.getElem?_eq_some_iff.1 hk).1; rwa [chunkD_len] at this
      rw [chunkD_get _ _ _ _ hkl] at hk
      cases hk
      rw [List.getElem?_take] at hj
      split at hj
      · rename_i hjl
        rw [List.getElem?_drop] at hj
        have := Nat.mul_le_mul_right i'.size (show k + 1 ≤ len from hkl)
        rw [Nat.add_mul, Nat.one_mul] at this
        obtain ⟨u, hu⟩ : ∃ u, arr.toList[k * i'.size + j]? = some u := ⟨_, List.getElem?_eq_getElem (by simp; omega)⟩
        exact ⟨u, hu, (k3 _ _ _ hj hu).keep fun b hb => ⟨hb, Below.heap_alloc _ _ _ (hsz b hb)⟩⟩
      · cases hj)
  have hrun : (Instr.buildSlice t len (parts.map fun (i, x) => (i, a.eval x))).run P w = .ok (.slice (some ⟨w.heap.size, 0, none⟩) len len) (w.alloc (.cells arr e)) := by
    have hf : Instr.fill (fun i => some (i * i'.size, i'.size)) ((Array.range (len * i'.size)).map (z'.cells[· % z'.cells.size]!)) (parts.map fun (i, x) => (i, a.eval x)).toList = some arr := by
      rw [← q1]; congr 1; simp
    by_cases hz : len * i'.size = 0
    · have hf' := hf
      have hr0 : Array.range 0 = #[] := rfl
      rw [hz, hr0] at hf'
      simp only [Array.map_empty] at hf'
      simp only [Instr.buildSlice, Sem.run_bind, run_underlying e2, Result.andThen_ok, sizeOf, typeInfo, run_program, e1', Sem.run_pure, hz, hr0, Array.map_empty, if_true, hf', newRow, run_newObj]
      rfl
    · exact run_buildSlice w t e len _ arr i' z' e2 e1' e3' (by omega) hz hf
  unfold Oper.wp
  have hx : (execOp a.eval o).run P w = .ok (.value (.slice (some ⟨w.heap.size, 0, none⟩) len len)) (w.alloc (.cells arr e)) := by simp only [execOp, ho, Sem.run_bind, hrun]; rfl
  rw [hx]
  have hbl := alloc_below w (.cells arr e)
  refine hK _ _ _ (Done.mix (ks := []) p1 (fun b hb => ?_) (fun g hg => (by cases hg)) p2 hbl.os hbl.tape hbl.output hbl.size fun k hk _ => hbl.block k hk)
  rw [p3] at hb
  rcases hb with hb | ⟨g, q5, q6⟩
  · simp [Value.ownBlock] at hb
    subst hb
    exact ⟨.inl (Nat.le_refl _), by simp⟩
  · obtain ⟨d', q7⟩ := hrows g q5
    have hlt := hsz b ⟨g, q5, q6⟩
    refine ⟨.inr (.inr ⟨fun e => ?_, g, q5, _, q7, q6, id⟩), Nat.lt_of_lt_of_le hlt hbl.size⟩
    have := p4 b e
    simp [Value.ownBlock] at this
    omega

theorem make_nst {P : Program} {o : Oper} {ev : Operand → SV} {H : Heap} {nx : Nat} {K : Eff → Prop} {t : TypeId} {l c : Operand} {k k' : IntKind} {n : Int} {ti te : TI} {e : Nat} {nz : List DC} (ho : o.op = .makeSlice t l c) (hl : ev l = .c (.v (.int k n))) (hc : ev c = .c (.v (.int k' n)))
    (h1 : tiOf P t = some ti) (h2 : ti.d = .slice e) (h3 : tiOf P e = some te) (h4 : 0 < te.size) (h6 : 0 ≤ n) (h7 : te.bytes * n ≤ 140737488355328) (h8 : n ≤ 1099511627776) (h5 : nzT P e = some nz)
    (h9 : K ⟨.c (.sl nx te.size 0 n.toNat), [], [(nx, some (.nst e (List.replicate n.toNat nz) none))], nx + 1⟩) : ∃ e, Fit H nx e ∧ EffOK P o ev H nx e ∧ K e := by
  obtain ⟨i, d, zz, e1, e2, _, rfl⟩ := tiOf_inv h1
  obtain rfl := td_slice h2
  obtain ⟨i', d', z', e1', e2', ⟨e3', e4', e5'⟩, rfl⟩ := tiOf_inv h3
  obtain ⟨i2, z2, f1, f2, hnz⟩ := nzT_inv h5
  rw [e1'] at f1; cases f1
  rw [e3'] at f2; cases f2
  simp only at h4 h7 h9
  obtain ⟨n, rfl⟩ := Int.eq_ofNat_of_zero_le h6
  refine ⟨_, fit_new (fun f hf => (by cases hf)), EffOK.of_new fun V ρ a w hev hm hV => ?_, h9⟩
  have hp := hev l
  rw [hl] at hp
  have hq := hev c
  rw [hc] at hq
  have hby : i'.bytes * n ≤ 281474976710656 := by
    have e : ((i'.bytes * n : Nat) : Int) ≤ 140737488355328 := by rw [Int.natCast_mul]; exact h7
    omega
  obtain ⟨w', g1, g2, g3⟩ := run_make_full w 0 t e i' z' i'.size e2 e1' e3' rfl k k' n hby (by unfold maxLen; omega) (Nat.zero_le _)
  have hnzl : nz.length = i'.size := by rw [hnz.length]; simp [e5']
  have hcell : ∀ m j u, m < n → z'.cells.toList[j]? = some u → (madeCells z'.cells (n * i'.size)).toList[m * i'.size + j]? = some u := by
    intro m j u hm hj
    have hjl : j < i'.size := by have := (List.getElem?_eq_some_iff.1 hj).1; simp at this; omega
    have := Nat.mul_le_mul_right i'.size (show m + 1 ≤ n from hm)
    rw [Nat.add_mul, Nat.one_mul] at this
    have hmod : (m * i'.size + j) % z'.cells.size = j := by rw [e5', Nat.mul_comm, Nat.mul_add_mod, Nat.mod_eq_of_lt hjl]
    have hj' : z'.cells[j]? = some u := by simpa using hj
    have hu : z'.cells[j]! = u := by rw [Array.getElem!_eq_getD, Array.getD_eq_getD_getElem?, hj']; rfl
    unfold madeCells
    simp [show m * i'.size + j < n * i'.size by omega, hmod, hu]
  obtain ⟨p, p1, p2, p3⟩ := nst_of_owns (V := V) (ρ := ρ) (nx := nx) (es := List.replicate n nz) g2 (by simp) (fun x hx => by rw [(List.mem_replicate.1 hx).2]; exact hnzl)
    (fun m j => At.none0 (match nz[j]? with | some (.sl _ sz _) => sz | _ => 0)) (fun m j b hb => hb.elim) (fun m j m' j' b hb => hb.elim)
    (fun m x j c hm hj => by
      rw [List.getElem?_replicate] at hm
      split at hm
      · rename_i hml
        cases hm
        obtain ⟨u, hu, hz⟩ := hnz.get hj
        refine ⟨u, hcell m j u hml hu, ?_⟩
        rw [hj]
        cases c with
        | v x =>
          have : u = x := hz
          subst this
          exact ⟨rfl, e4' _ (List.mem_of_getElem? hu)⟩
        | sl T sz es =>
          obtain ⟨rfl, rfl⟩ : es = [] ∧ u = .slice none 0 0 := hz
          exact cel_none _ _ _
      · cases hm)
  refine ⟨_, w', p, ?_, p1, fun b hb => ?_, by simpa using p2, ⟨g3.os, g3.tape, g3.output, g3.size, fun k hk => g3.block k hk (by simp)⟩⟩
  · have : (Instr.makeSlice t (a.eval l) (a.eval c)).run P w = .ok (.slice (some ⟨w.heap.size, 0, none⟩) n n) w' := by rw [hp.1, hq.1]; exact g1
    simp only [execOp, ho, Sem.run_bind, this]; rfl
  · rw [p3] at hb
    rcases hb with hb | ⟨m, j, hb⟩
    · simp [Value.ownBlock] at hb
      subst hb
      refine ⟨Nat.le_refl _, ?_⟩
      rcases g2.2 with ⟨q, _⟩ | ⟨g, cap, cur, q1, _, q2, _⟩
      · simp at q
      · simp at q1
        obtain ⟨q3, _⟩ := q1
        rw [q3]; exact (Array.getElem?_eq_some_iff.1 q2).1
    · exact hb.elim

theorem buildSlice_ok {P : Program} {o : Oper} {ev : Operand → SV} {H : Heap} {nx : Nat} {K : Eff → Prop} {t : TypeId} {len : Nat} {parts : Array (Nat × Operand)} (ho : o.op = .buildSlice t len parts) (hB : Bnd H nx) (h : memK P o ev H nx K) :
    ∃ e, Fit H nx e ∧ EffOK P o ev H nx e ∧ K e := by
  unfold memK at h
  rw [ho] at h
  obtain ⟨ti, e, te, cs, h1, h2, h3, h4, h5, h6, h⟩ := h
  split at h
  case h_2 =>
    obtain ⟨nz, h7, h⟩ := h
    split at h
    · rename_i r hr
      obtain ⟨h8, h9, h10⟩ := h
      exact build_nst ho h1 h2 h3 h4 h5 h6 h7 hB hr h8 h9 h10
    · split at h
      · rename_i r hr
        exact build_mix ho h1 h2 h3 h4 h5 h6 hr h.1 h.2
      · exact h.elim
  obtain ⟨es, h7, h8⟩ := h
  obtain ⟨i, d, z, e1, e2, _, rfl⟩ := tiOf_inv h1
  obtain rfl := td_slice h2
  obtain ⟨i', d', z', e1', e2', ⟨e3', e4', e5'⟩, rfl⟩ := tiOf_inv h3
  simp only at h4 h5 h6 h7 h8
  refine ⟨_, fit_new (fun f hf => (by cases hf)), EffOK.of_new fun V ρ a w hev hm hV => ?_, h8⟩
  obtain ⟨l, g1, g2⟩ := Option.bind_eq_some_iff.1 h6
  have hps := partsOf_r hev g1
  obtain ⟨arr, q1, q2⟩ := fillS_r l _ _ cs _ (zeros_r (V := V) (ρ := ρ) e4' e5' h4 len) hps g2
  have hcl : cs.length = len * i'.size := by
    have hfl : ∀ (l : List (Nat × List CV)) (cs out : List CV), fillS (fun i => some (i * i'.size, i'.size)) cs l = some out → out.length = cs.length := by
      intro l
      induction l with
      | nil => intro cs out h; cases h; rfl
      | cons p l ih =>
        intro cs out h
        obtain ⟨k, x⟩ := p
        unfold fillS at h
        simp only at h
        split at h
        · rename_i hc
          rw [ih _ _ h]
          unfold splice
          simp; omega
        · cases h
    rw [hfl l _ _ g2]; simp [e5']
  obtain ⟨r1, r2, r3, r4⟩ := chunk_r len hcl h7 q2
  have hfit : arr.size = len * i'.size := by have := q2.length; simp at this; omega
  have hown : (w.alloc (.cells arr e)).ownsRow 0 e i'.size (.slice (some ⟨w.heap.size, 0, none⟩) len len) len (flatE es) :=
    ⟨by rw [flatE_len r3, r2], .inr ⟨w.heap.size, len, arr, rfl, Nat.zero_le _, heap_alloc_new w _, Nat.le_refl _, by
      have : len ≤ len * i'.size := Nat.le_mul_of_pos_right _ h4
      unfold maxLen; omega, hfit, by rw [← r1]; exact List.take_of_length_le (by simp; omega)⟩⟩
  obtain ⟨p, p1, p2, p3⟩ := row_of_owns (V := V) (ρ := ρ) (nx := nx) hown r2 r3 r4
  refine ⟨_, w.alloc (.cells arr e), p, ?_, p1, fun b hb => ?_, p2, alloc_below _ _⟩
  · have hrun : (Instr.buildSlice t len (parts.map fun (i, x) => (i, a.eval x))).run P w = .ok (.slice (some ⟨w.heap.size, 0, none⟩) len len) (w.alloc (.cells arr e)) := by
      have hf : Instr.fill (fun i => some (i * i'.size, i'.size)) ((Array.range (len * i'.size)).map (z'.cells[· % z'.cells.size]!)) (parts.map fun (i, x) => (i, a.eval x)).toList = some arr := by
        rw [← q1]; congr 1; simp
      by_cases hz : len * i'.size = 0
      · have hf' := hf
        have hr0 : Array.range 0 = #[] := rfl
        rw [hz, hr0] at hf'
        simp only [Array.map_empty] at hf'
        simp only [Instr.buildSlice, Sem.run_bind, run_underlying e2, Result.andThen_ok, sizeOf, typeInfo, run_program, e1', Sem.run_pure, hz, hr0, Array.map_empty, if_true, hf', newRow, run_newObj]
        rfl
      · exact run_buildSlice w t e len _ arr i' z' e2 e1' e3' (by omega) hz hf
    simp only [execOp, ho, Sem.run_bind, hrun]; rfl
  · rw [p3] at hb
    simp [Value.ownBlock] at hb
    subst hb
    exact ⟨Nat.le_refl _, by simp⟩

theorem makeSlice_ok {P : Program} {o : Oper} {ev : Operand → SV} {H : Heap} {nx : Nat} {K : Eff → Prop} {t : TypeId} {l c : Operand} (ho : o.op = .makeSlice t l c) (h : memK P o ev H nx K) :
    ∃ e, Fit H nx e ∧ EffOK P o ev H nx e ∧ K e := by
  unfold memK at h
  rw [ho] at h
  simp only at h
  split at h
  · rename_i k n k' m hl hc
    obtain ⟨ti, e, te, h1, h2, h3, h4, rfl, ⟨h6, h7, h8⟩, h⟩ := h
    split at h
    case h_2 =>
      obtain ⟨nz, h5, h9⟩ := h
      exact make_nst ho hl hc h1 h2 h3 h4 h6 h7 h8 h5 h9
    obtain ⟨z, h5, h9⟩ := h
    obtain ⟨i, d, zz, e1, e2, _, rfl⟩ := tiOf_inv h1
    obtain rfl := td_slice h2
    obtain ⟨i', d', z', e1', e2', ⟨e3', e4', e5'⟩, rfl⟩ := tiOf_inv h3
    simp only at h4 h5 h7 h9
    obtain ⟨n, rfl⟩ := Int.eq_ofNat_of_zero_le h6
    refine ⟨_, fit_new (fun f hf => (by cases hf)), EffOK.of_new fun V ρ a w hev hm hV => ?_, h9⟩
    have hp := hev l
    rw [hl] at hp
    have hq := hev c
    rw [hc] at hq
    have hby : i'.bytes * n ≤ 281474976710656 := by
      have e : ((i'.bytes * n : Nat) : Int) ≤ 140737488355328 := by rw [Int.natCast_mul]; exact h7
      omega
    obtain ⟨w', g1, g2, g3⟩ := run_make_full w 0 t e i' z' i'.size e2 e1' e3' rfl k k' n hby (by unfold maxLen; omega) (Nat.zero_le _)
    obtain ⟨r1, r2, r3⟩ := dcsOf_r (V := V) (ρ := ρ) h5 (zero_r V ρ e4')
    have hz : z.length = i'.size := by rw [r3]; simp [e5']
    have hfl : (madeCells z'.cells (n * i'.size)).toList = flatE (List.replicate n z) := by
      have e := zeros_r (V := V) (ρ := ρ) e4' e5' h4 n
      have hzl : (z'.cells.toList.map cvOf).length = i'.size := by simp [e5']
      have e2 : ∀ n, dcssOf (chunk i'.size n (List.replicate n (z'.cells.toList.map cvOf)).flatten) = some (List.replicate n z) := by
        intro n
        induction n with
        | zero => rfl
        | succ n ih =>
          unfold chunk dcssOf
          rw [List.replicate_succ, List.flatten_cons, List.take_left' hzl, List.drop_left' hzl, h5, ih]
          rfl
      have := (chunk_r n (by simp [e5']) (e2 n) e).1
      rw [← this]
      rfl
    rw [hfl] at g2
    obtain ⟨p, p1, p2, p3⟩ := row_of_owns (V := V) (ρ := ρ) (nx := nx) g2 (by simp) (fun e he => by rw [(List.mem_replicate.1 he).2]; exact hz) (fun e he => by rw [(List.mem_replicate.1 he).2]; exact r2)
    refine ⟨_, w', p, ?_, p1, fun b hb => ?_, by simpa using p2, ⟨g3.os, g3.tape, g3.output, g3.size, fun k hk => g3.block k hk (by simp)⟩⟩
    · have : (Instr.makeSlice t (a.eval l) (a.eval c)).run P w = .ok (.slice (some ⟨w.heap.size, 0, none⟩) n n) w' := by rw [hp.1, hq.1]; exact g1
      simp only [execOp, ho, Sem.run_bind, this]; rfl
    · rw [p3] at hb
      simp [Value.ownBlock] at hb
      subst hb
      refine ⟨Nat.le_refl _, ?_⟩
      rcases g2.2 with ⟨q, _⟩ | ⟨g, cap, cur, q1, _, q2, _⟩
      · simp at q
      · simp at q1
        obtain ⟨q3, _⟩ := q1
        rw [q3]; exact (Array.getElem?_eq_some_iff.1 q2).1
  · exact h.elim

end Go.Proofs.Ytfnhchcgieeedaa

namespace Go.Proofs.Ytfnhchcgieeedaa
set_option linter.unusedSimpArgs false
set_option linter.unusedVariables false
set_option linter.defProp false
open Go.RowKit

theorem append_mine {P : Program} (w : World) (t ty e : TypeId) (i : TypeInfo) (z : Value) (ht : P.underlying t = some (.slice e)) (hi : P.info? e = some i) (hz : i.zero = some z)
    (hzs : z.cells.size = i.size) (hsz : 0 < i.size)
    (v : Value) (n : Nat) (xs : List Value) (hown : w.ownsRow 0 e i.size v n xs)
    (a : Addr) (m c : Nat) (news : List Value) (hl : news.length = m * i.size) (hnews : ∀ j u, news[j]? = some u → w.cell? (a.add j) = some u) (h1 : ∀ u ∈ news, u.oneCell' = true)
    (h63 : n + m ≤ maxLen) (hbytes : (n + m) * i.bytes ≤ 140737488355328) :
    ∃ v' w', (Builtin.append_ #[t, t] ty #[v, .slice (some a) m c]).run P w = .ok v' w' ∧ w'.ownsRow 0 e i.size v' (n + m) (xs ++ news) ∧ w.grownBy w' v.ownBlock ∧
      ∀ b, v'.ownBlock = some b → w.heap.size ≤ b ∨ v.ownBlock = some b := by
  obtain ⟨v', w', h2, h3, h4, h5⟩ := run_append_own w 0 t ty e i z i.size i.bytes ht hi hz rfl rfl hzs hsz v n xs hown a m c news hl hnews h1 h63 hbytes (Nat.zero_le _)
  refine ⟨v', w', h2, h3, h4, fun b hb => ?_⟩
  have h63' := h63
  simp only [maxLen] at h63'
  rcases hown.2 with ⟨rfl, rfl⟩ | ⟨g, cap, cur, rfl, hbg, hg, hnc, hcm, hcs, htake⟩
  · by_cases hm : m = 0
    · rw [h5.2 ⟨rfl, hm⟩] at hb; cases hb
    · have hr := run_append_nil (P := P) w t ty e i z ht hi hz a m c news hl hnews (by omega) (by omega) (by simp only [Nat.zero_add] at hbytes; omega)
      rw [hr] at h2
      cases h2
      cases hb
      exact .inl (Nat.le_refl _)
  · by_cases hroom : n + m ≤ cap
    · have hfit : n * i.size + news.length ≤ cur.size := by rw [hl, hcs, ← Nat.add_mul]; exact Nat.mul_le_mul_right _ hroom
      have hr := run_append_room (P := P) w t ty e i ht hi g n cap cur hg a m c news hl hnews h1 hroom hfit
      rw [hr] at h2
      cases h2
      exact .inr hb
    · have holds : ∀ j u, xs[j]? = some u → w.cell? ((⟨g, 0, none⟩ : Addr).add j) = some u := hown.cells (g := g) rfl
      have hr := run_append_grow (P := P) w t ty e i z ht hi hz ⟨g, 0, none⟩ n cap xs hown.1 holds a m c news hl hnews (by omega) (by omega) (growslice_fits (by omega) hbytes)
      rw [hr] at h2
      cases h2
      cases hb
      exact .inl (Nat.le_refl _)

/-- What a slice is made of: its block, its elements; the first of three kinds. -/
inductive Src where
  | nil
  | blk (f : Nat) (b : Blk) (es : List (List DC))

/-- The elements that a slice's cell reads as. -/
def srcOf (H : Heap) : CV → Option Src
  | .nil => some .nil
  | .sl f _ o n => match hget H f with
    | some (.row T es) => some (.blk f (.row T es) ((es.drop o).take n))
    | some (.ro es) => some (.blk f (.ro es) ((es.drop o).take n))
    | _ => none
  | _ => none

def isFlat (b : Blk) (es : List (List DC)) : Prop :=
  match b with
  | .row _ _ => True
  | _ => ∀ e ∈ es, ∀ c ∈ e, DC.flat c

/-- A row of the call's own as one that leans on memory that is only read. -/
def mixOf : Option Blk → Option (Nat × List (List DC))
  | some (.mix T es) => some (T, es)
  | some (.nst T es none) => some (T, es)
  | _ => none

/-- append(s, x): 's' a row of the call's own, or nil. -/
def appK (P : Program) (o : Oper) (ev : Operand → SV) (H : Heap) (nx : Nat) (K : Eff → Prop) : Prop :=
  match o.op with
  | .call c => match c.callee, c.args.toList, c.argTypes.toList with
    | .builtin .append, [s, x], [t, t'] => t' = t ∧ ∃ ti e te, tiOf P t = some ti ∧ ti.d = .slice e ∧ tiOf P e = some te ∧ 0 < te.size ∧
      match ev s with
      | .c .nil => match ev x with
        | .c .nil => K ⟨.c .nil, [], [], nx⟩
        | .c (.sl g sz b m) => match hget H g with
          | some (.nst T es none) => (T = e ∧ b = 0 ∧ m = es.length ∧ sz = te.size) ∧ (m * te.bytes ≤ 140737488355328 ∧ m ≤ 1099511627776) ∧ K ⟨.c (.sl nx te.size 0 m), [g], [(nx, some (.nst e es none)), (g, none)], nx + 1⟩
          | some (.mix T es) => (T = e ∧ b = 0 ∧ m = es.length ∧ sz = te.size) ∧ (m * te.bytes ≤ 140737488355328 ∧ m ≤ 1099511627776) ∧ K ⟨.c (.sl nx te.size 0 m), [g], [(nx, some (.mix e es)), (g, none)], nx + 1⟩
          | _ => match srcOf H (.sl g sz b m) with
            | some (.blk _ bl es) => sz = te.size ∧ es.length = m ∧ isFlat bl es ∧ (m * te.bytes ≤ 140737488355328 ∧ m ≤ 1099511627776) ∧ K ⟨.c (.sl nx te.size 0 m), [g], [(nx, some (.row e es))], nx + 1⟩
            | _ => False
        | _ => False
      | .c (.sl f sz' b' n) => match hget H f with
        | some (.row T es0) => b' = 0 ∧ n = es0.length ∧ T = e ∧ sz' = te.size ∧ match ev x with
          | .c .nil => K ⟨.c (.sl f sz' b' n), [f], [], nx⟩
          | .c (.sl g sz b m) => g ≠ f ∧ match srcOf H (.sl g sz b m) with
            | some (.blk _ bl es) => sz = te.size ∧ es.length = m ∧ isFlat bl es ∧ ((n + m) * te.bytes ≤ 140737488355328 ∧ n + m ≤ 1099511627776) ∧
                K ⟨.c (.sl nx te.size 0 (n + m)), [f, g], [(nx, some (.row e (es0 ++ es))), (f, none)], nx + 1⟩
            | _ => False
          | _ => False
        | some (.nst T es0 none) => (b' = 0 ∧ n = es0.length ∧ T = e ∧ sz' = te.size) ∧ match ev x with
          | .c .nil => K ⟨.c (.sl f sz' b' n), [f], [], nx⟩
          | .c (.sl g sz b m) => g ≠ f ∧ match hget H g with
            | some (.nst T es none) => (T = e ∧ b = 0 ∧ m = es.length ∧ sz = te.size) ∧ ((n + m) * te.bytes ≤ 140737488355328 ∧ n + m ≤ 1099511627776) ∧
                K ⟨.c (.sl nx te.size 0 (n + m)), [f, g], [(nx, some (.nst e (es0 ++ es) none)), (f, none), (g, none)], nx + 1⟩
            | some (.mix T es) => (T = e ∧ b = 0 ∧ m = es.length ∧ sz = te.size) ∧ ((n + m) * te.bytes ≤ 140737488355328 ∧ n + m ≤ 1099511627776) ∧
                K ⟨.c (.sl nx te.size 0 (n + m)), [f, g], [(nx, some (.mix e (es0 ++ es))), (f, none), (g, none)], nx + 1⟩
            | _ => False
          | _ => False
        | some (.mix T es0) => (b' = 0 ∧ n = es0.length ∧ T = e ∧ sz' = te.size) ∧ match ev x with
          | .c .nil => K ⟨.c (.sl f sz' b' n), [f], [], nx⟩
          | .c (.sl g sz b m) => g ≠ f ∧ match mixOf (hget H g) with
            | some (T, es) => (T = e ∧ b = 0 ∧ m = es.length ∧ sz = te.size) ∧ ((n + m) * te.bytes ≤ 140737488355328 ∧ n + m ≤ 1099511627776) ∧
                K ⟨.c (.sl nx te.size 0 (n + m)), [f, g], [(nx, some (.mix e (es0 ++ es))), (f, none), (g, none)], nx + 1⟩
            | none => False
          | _ => False
        | _ => False
      | _ => False
    | _, _, _ => False
  | _ => False

/-- The cells of a slice that is read. -/
theorem src_cells {V : Nat → Prop} {ρ : Nat → At} {H : Heap} {w : World} {rd : List Nat} (hm : Mem V ρ (looked H rd) w) {g sz b m f : Nat} (hg : g ∈ rd) {bl : Blk} {es : List (List DC)} (hs : srcOf H (.sl g sz b m) = some (.blk f bl es))
    (hl : es.length = m) (hfl : isFlat bl es) {u : Value} (hu : CVr V ρ (.sl g sz b m) u) :
    (∀ e ∈ es, e.length = sz) ∧ (∀ e ∈ es, ∀ c ∈ e, DC.flat c) ∧ ∃ a cp, u = .slice a m cp ∧ (a = none → m = 0 ∧ cp = 0) ∧ (0 < m → ∃ ad, a = some ad ∧ ∀ j x, (flatE es)[j]? = some x → w.cell? (ad.add j) = some x) := by
  obtain ⟨hV, hsz, a, cp, rfl, h3, h4, h5, h6, h7⟩ := hu
  unfold srcOf at hs
  have fin : ∀ (full : List (List DC)), es = (full.drop b).take m → (∀ e ∈ full, e.length = sz) → (∀ e ∈ es, ∀ c ∈ e, DC.flat c) →
      (∀ bb, (ρ g).adr = some bb → ∀ i e j c, es[i]? = some e → e[j]? = some c → w.cell? ⟨bb, (ρ g).off + (b + i) * sz + j, none⟩ = some c.val) →
      (∀ e ∈ es, e.length = sz) ∧ (∀ e ∈ es, ∀ c ∈ e, DC.flat c) ∧ ∃ a' cp', (Value.slice a m cp) = .slice a' m cp' ∧ (a' = none → m = 0 ∧ cp' = 0) ∧ (0 < m → ∃ ad, a' = some ad ∧ ∀ j x, (flatE es)[j]? = some x → w.cell? (ad.add j) = some x) := by
    intro full he hfs hflat hc
    have hes : ∀ e ∈ es, e.length = sz := by
      intro e hee
      rw [he] at hee
      exact hfs e (List.mem_of_mem_drop (List.mem_of_mem_take hee))
    refine ⟨hes, hflat, a, cp, rfl, fun ha => by have := h5 ha; exact ⟨by omega, this⟩, fun hpos => ?_⟩
    obtain ⟨bb, q1, q2⟩ := h7 hpos
    refine ⟨_, q2, fun j x hj => ?_⟩
    rw [Addr.add_mid]
    have hjl : j < es.length * sz := by rw [← flatE_len hes]; exact (List.getElem?_eq_some_iff.1 hj).1
    have hsz0 : 0 < sz := by
      rcases Nat.eq_zero_or_pos sz with h0 | h0
      · rw [h0] at hjl; simp at hjl
      · exact h0
    have hi : j / sz < es.length := Nat.div_lt_of_lt_mul (by rw [Nat.mul_comm]; exact hjl)
    have hj' : j % sz < (es[j / sz]).length := by rw [hes _ (List.getElem_mem hi)]; exact Nat.mod_lt _ hsz0
    have hd : j / sz * sz + j % sz = j := by rw [Nat.mul_comm]; exact Nat.div_add_mod j sz
    have e1 := flatE_get hes (j / sz) _ (j % sz) _ (List.getElem?_eq_getElem hi) (List.getElem?_eq_getElem hj')
    rw [hd, hj] at e1
    have e2 := hc bb q1 (j / sz) _ (j % sz) _ (List.getElem?_eq_getElem hi) (List.getElem?_eq_getElem hj')
    rw [Option.some.inj e1, ← e2]
    congr 2
    rw [Nat.add_mul]; omega
  cases hH : hget H g with
  | none => simp [hH] at hs
  | some blk =>
    obtain ⟨_, hold, _⟩ := hm.dom g _ (looked_get hg hH)
    cases blk with
    | box T cs => simp [hH] at hs
    | gh S φ => simp [hH] at hs
    | nst T es h => simp [hH] at hs
    | mix T es => simp [hH] at hs
    | gx S φ => simp [hH] at hs
    | row T full =>
      simp only [hH, Option.some.injEq, Src.blk.injEq] at hs
      obtain ⟨_, rfl, rfl⟩ := hs
      obtain ⟨⟨hoff, hex⟩, hcm, hle, hss, hflat, hn, hrow⟩ := hold
      rw [hsz] at hss
      refine fin full rfl hss (fun e he => hflat e (List.mem_of_mem_drop (List.mem_of_mem_take he))) fun bb hbb i e j c hi hj => ?_
      obtain ⟨_, cur, q1, q2, q3⟩ := hrow bb hbb
      have hlt : i < m := by rw [← hl]; exact (List.getElem?_eq_some_iff.1 hi).1
      rw [List.getElem?_take, if_pos hlt, List.getElem?_drop] at hi
      have hbi := (List.getElem?_eq_some_iff.1 hi)
      obtain ⟨hbi1, hbi2⟩ := hbi
      have := row_cells (w := w) (p := ρ g) q1 q3 (by rw [hsz]; exact hss) hbi1 j c.val (by rw [hbi2, List.getElem?_map, hj]; rfl)
      rw [hsz] at this
      rw [hoff, Nat.zero_add]; exact this
    | ro full =>
      simp only [hH, Option.some.injEq, Src.blk.injEq] at hs
      obtain ⟨_, rfl, rfl⟩ := hs
      obtain ⟨_, hcm, hle, hss, hne, hcell⟩ := hold
      rw [hsz] at hss hcell
      refine fin full rfl hss hfl fun bb hbb i e j c hi hj => ?_
      have hfc := hfl e (List.mem_of_getElem? hi) c (List.mem_of_getElem? hj)
      have hlt : i < m := by rw [← hl]; exact (List.getElem?_eq_some_iff.1 hi).1
      rw [List.getElem?_take, if_pos hlt, List.getElem?_drop] at hi
      obtain ⟨u, g1, g2⟩ := hcell (b + i) e j c bb hi hj hbb
      obtain ⟨x, rfl, hx⟩ := hfc
      cases g2
      exact g1

theorem Cel.one {w : World} {q : At} {c : DC} {u : Value} (h : Cel w q c u) : u.oneCell' = true := by
  cases c with
  | v x => rw [h.1]; exact h.2
  | sl T sz es => rw [h.2.2]; rfl

/-- A row with rows in it as a block of the library's kind 'ownsRow'. -/
theorem owns_nst {V : Nat → Prop} {ρ : Nat → At} {w : World} {f T : Nat} {es : List (List DC)} {q : Nat → Nat → At} (h : Nest V ρ w (ρ f) T es none q) {sz n : Nat} {u : Value} (hu : CVr V ρ (.sl f sz 0 n) u) (hn : n = es.length) :
    ∃ us, w.ownsRow 0 T sz u n us ∧ us.length = n * sz ∧ (ρ f).sz = sz ∧ (∀ b, u.ownBlock = some b ↔ (ρ f).adr = some b) ∧ (∀ x ∈ us, x.oneCell' = true) ∧ (∀ i e j c, es[i]? = some e → e[j]? = some c → ∃ x, us[i * sz + j]? = some x ∧ Cel w (q i j) c x) ∧
      ∃ a cp, u = .slice a n cp ∧ (a = none → n = 0 ∧ cp = 0) ∧ ∀ b, a = some b → b = ⟨b.block, 0, none⟩ ∧ (ρ f).adr = some b.block ∧ ∀ j x, us[j]? = some x → w.cell? (b.add j) = some x := by
  obtain ⟨hV, hsz, a, cp, rfl, h3, h4, h5, h6, h7⟩ := hu
  obtain ⟨h8, h9⟩ := h6 rfl h.off.2
  rw [h.off.1] at h8
  subst h8 h9
  subst hn
  cases hp : (ρ f).adr with
  | none =>
    have h0 := h.nil hp
    have : es = [] := List.eq_nil_of_length_eq_zero (by have := h.le; omega)
    subst this
    exact ⟨[], ⟨by simp, .inl ⟨by simp [h0], rfl⟩⟩, by simp, hsz, fun b => by simp [Value.ownBlock], fun x hx => (by cases hx), fun i e j c hi => by simp at hi, _, _, rfl, fun _ => ⟨rfl, h0⟩, fun b hb => by cases hb⟩
  | some b =>
    obtain ⟨hF, cur, q1, q2, q3⟩ := h.cells b hp
    rw [hsz] at q2 q3
    have hlen : es.length * sz ≤ cur.size := by rw [q2]; exact Nat.mul_le_mul_right _ h3
    have hus : (cur.toList.take (es.length * sz)).length = es.length * sz := by simp; omega
    refine ⟨cur.toList.take (es.length * sz), ⟨hus, .inr ⟨b, (ρ f).cap, cur, rfl, Nat.zero_le _, q1, h3, h4, q2, rfl⟩⟩, hus, hsz, fun b' => by simp [Value.ownBlock], fun x hx => ?_, fun i e j c hi hj => ?_, _, _, rfl, fun e => (by cases e), fun b' hb' => ?_⟩
    · obtain ⟨k, hk⟩ := List.mem_iff_getElem?.1 hx
      have hkl : k < es.length * sz := by have := (List.getElem?_eq_some_iff.1 hk).1; omega
      have hsz0 : 0 < sz := by
        rcases Nat.eq_zero_or_pos sz with h0 | h0
        · rw [h0] at hkl; simp at hkl
        · exact h0
      have hi : k / sz < es.length := Nat.div_lt_of_lt_mul (by rw [Nat.mul_comm]; exact hkl)
      have hj : k % sz < (es[k / sz]).length := by rw [h.sz _ (List.getElem_mem hi), hsz]; exact Nat.mod_lt _ hsz0
      have hd : k / sz * sz + k % sz = k := by rw [Nat.mul_comm]; exact Nat.div_add_mod k sz
      obtain ⟨y, e1, e2⟩ := q3 (k / sz) _ (k % sz) _ (List.getElem?_eq_getElem hi) (List.getElem?_eq_getElem hj)
      rw [hd] at e1
      rw [List.getElem?_take, if_pos hkl] at hk
      have : cur[k]? = some x := by simpa using hk
      rw [e1] at this
      cases this
      exact Cel.one e2
    · obtain ⟨x, e1, e2⟩ := q3 i e j c hi hj
      have hel : e.length = sz := by rw [← hsz]; exact h.sz e (List.mem_of_getElem? hi)
      have hjl : j < sz := by rw [← hel]; exact (List.getElem?_eq_some_iff.1 hj).1
      have hil : i < es.length := (List.getElem?_eq_some_iff.1 hi).1
      have := Nat.mul_le_mul_right sz (show i + 1 ≤ es.length from hil)
      rw [Nat.add_mul, Nat.one_mul] at this
      refine ⟨x, ?_, e2⟩
      rw [List.getElem?_take, if_pos (by omega)]
      simpa using e1
    · simp only [Option.map_some, Option.some.injEq] at hb'
      subst hb'
      refine ⟨rfl, rfl, fun j x hj => ?_⟩
      rw [List.getElem?_take] at hj
      split at hj
      · rw [Addr.add_mid]
        have : cur[j]? = some x := by simpa using hj
        simp [World.cell?, q1, this]
      · cases hj

theorem owns_row {V : Nat → Prop} {ρ : Nat → At} {w : World} {f T : Nat} {es : List (List DC)} (h : Holds V ρ w (ρ f) (.row T es)) {sz n : Nat} {u : Value} (hu : CVr V ρ (.sl f sz 0 n) u) (hn : n = es.length) :
    w.ownsRow 0 T sz u n (flatE es) ∧ (∀ b, u.ownBlock = some b → (ρ f).F b) ∧ (∀ e ∈ es, e.length = sz) ∧ ∀ e ∈ es, ∀ c ∈ e, DC.flat c := by
  obtain ⟨⟨hoff, hex⟩, hcm, hle, hss, hflat, hnn, hrow⟩ := h
  obtain ⟨hV, hsz, a, cp, rfl, h3, h4, h5, h6, h7⟩ := hu
  obtain ⟨h8, h9⟩ := h6 rfl hex
  rw [hsz] at hss hrow
  subst h8 h9
  rw [hoff]
  subst hn
  cases hp : (ρ f).adr with
  | none =>
    have h0 := hnn hp
    have : es = [] := List.eq_nil_of_length_eq_zero (by omega)
    subst this
    exact ⟨⟨by simp [flatE], .inl ⟨by simp [h0], rfl⟩⟩, fun b hb => (by cases hb), fun e he => (by cases he), fun e he => (by cases he)⟩
  | some b =>
    obtain ⟨hF, cur, q1, q2, q3⟩ := hrow b hp
    exact ⟨⟨by rw [flatE_len hss], .inr ⟨b, (ρ f).cap, cur, rfl, Nat.zero_le _, q1, h3, h4, q2, q3⟩⟩, fun b' hb' => by simp [Value.ownBlock] at hb'; subst hb'; exact hF, hss, hflat⟩

/-- The blocks of a row that none else changes, but for its own. -/
def shd (p : At) (k : Nat) : Prop := p.F k ∧ p.adr ≠ some k

/-- What is known of a row of the call's own that leans on memory that is only read. -/
structure Mixd (w : World) (p : At) (T : Nat) (es : List (List DC)) : Prop where
  off : p.off = 0 ∧ p.ex
  cap : p.cap ≤ maxLen
  le : es.length ≤ p.cap
  sz : ∀ e ∈ es, e.length = p.sz
  nil : p.adr = none → p.cap = 0
  cells : ∀ b, p.adr = some b → p.F b ∧ ∃ cur : Array Value, w.heap[b]? = some (.cells cur T (0, 0)) ∧ cur.size = p.cap * p.sz ∧ ∀ i e j c, es[i]? = some e → e[j]? = some c → ∃ u, cur[i * p.sz + j]? = some u ∧ Rd w (shd p) c u

theorem mixd_of {V : Nat → Prop} {ρ : Nat → At} {w : World} {p : At} {blk : Blk} {T : Nat} {es : List (List DC)} (hb : mixOf (some blk) = some (T, es)) (h : Holds V ρ w p blk) : Mixd w p T es ∧ (∀ b, p.adr = some b → blk.exc p b) ∧ blk.own = true := by
  cases blk with
  | mix T' es' =>
    simp only [mixOf, Option.some.injEq, Prod.mk.injEq] at hb
    obtain ⟨rfl, rfl⟩ := hb
    obtain ⟨h0, h1, h2, h3, h5, h6⟩ := h
    exact ⟨⟨h0, h1, h2, h3, h5, h6⟩, fun b hb => hb, rfl⟩
  | nst T' es' x =>
    cases x with
    | some y => simp [mixOf] at hb
    | none =>
      simp only [mixOf, Option.some.injEq, Prod.mk.injEq] at hb
      obtain ⟨rfl, rfl⟩ := hb
      obtain ⟨q, n⟩ := h
      refine ⟨⟨n.off, n.cap, n.le, n.sz, n.nil, fun b hb => ?_⟩, fun b hb => (n.cells b hb).1, rfl⟩
      obtain ⟨h1, cur, h2, h3, h4⟩ := n.cells b hb
      refine ⟨h1, cur, h2, h3, fun i e j c hi hj => ?_⟩
      obtain ⟨u, h5, h6⟩ := h4 i e j c hi hj
      refine ⟨u, h5, ?_⟩
      have h6 : Cel w (q i j) c u := h6
      cases c with
      | v x => obtain ⟨rfl, hx⟩ := h6; exact .v hx
      | sl T' sz d => obtain ⟨g1, g2, rfl⟩ := h6; exact g2.rd g1 fun b hb => n.sub i j b hb
  | box T cs => simp [mixOf] at hb
  | row T es => simp [mixOf] at hb
  | ro es => simp [mixOf] at hb
  | gh S φ => simp [mixOf] at hb
  | gx S φ => simp [mixOf] at hb

theorem owns_mix {V : Nat → Prop} {ρ : Nat → At} {w : World} {f T : Nat} {es : List (List DC)} (h : Mixd w (ρ f) T es) {sz n : Nat} {u : Value} (hu : CVr V ρ (.sl f sz 0 n) u) (hn : n = es.length) :
    ∃ us, w.ownsRow 0 T sz u n us ∧ us.length = n * sz ∧ (ρ f).sz = sz ∧ (∀ b, u.ownBlock = some b ↔ (ρ f).adr = some b) ∧ (∀ x ∈ us, x.oneCell' = true) ∧ (∀ i e j c, es[i]? = some e → e[j]? = some c → ∃ x, us[i * sz + j]? = some x ∧ Rd w (shd (ρ f)) c x) ∧
      ∃ a cp, u = .slice a n cp ∧ (a = none → n = 0 ∧ cp = 0) ∧ ∀ b, a = some b → b = ⟨b.block, 0, none⟩ ∧ (ρ f).adr = some b.block ∧ ∀ j x, us[j]? = some x → w.cell? (b.add j) = some x := by
  obtain ⟨hV, hsz, a, cp, rfl, h3, h4, h5, h6, h7⟩ := hu
  obtain ⟨h8, h9⟩ := h6 rfl h.off.2
  rw [h.off.1] at h8
  subst h8 h9
  subst hn
  cases hp : (ρ f).adr with
  | none =>
    have h0 := h.nil hp
    have : es = [] := List.eq_nil_of_length_eq_zero (by have := h.le; omega)
    subst this
    exact ⟨[], ⟨by simp, .inl ⟨by simp [h0], rfl⟩⟩, by simp, hsz, fun b => by simp [Value.ownBlock], fun x hx => (by cases hx), fun i e j c hi => by simp at hi, _, _, rfl, fun _ => ⟨rfl, h0⟩, fun b hb => by cases hb⟩
  | some b =>
    obtain ⟨hF, cur, q1, q2, q3⟩ := h.cells b hp
    rw [hsz] at q2 q3
    have hlen : es.length * sz ≤ cur.size := by rw [q2]; exact Nat.mul_le_mul_right _ h3
    have hus : (cur.toList.take (es.length * sz)).length = es.length * sz := by simp; omega
    refine ⟨cur.toList.take (es.length * sz), ⟨hus, .inr ⟨b, (ρ f).cap, cur, rfl, Nat.zero_le _, q1, h3, h4, q2, rfl⟩⟩, hus, hsz, fun b' => by simp [Value.ownBlock], fun x hx => ?_, fun i e j c hi hj => ?_, _, _, rfl, fun e => (by cases e), fun b' hb' => ?_⟩
    · obtain ⟨k, hk⟩ := List.mem_iff_getElem?.1 hx
      have hkl : k < es.length * sz := by have := (List.getElem?_eq_some_iff.1 hk).1; omega
      have hsz0 : 0 < sz := by
        rcases Nat.eq_zero_or_pos sz with h0 | h0
        · rw [h0] at hkl; simp at hkl
        · exact h0
      have hi : k / sz < es.length := Nat.div_lt_of_lt_mul (by rw [Nat.mul_comm]; exact hkl)
      have hj : k % sz < (es[k / sz]).length := by rw [h.sz _ (List.getElem_mem hi), hsz]; exact Nat.mod_lt _ hsz0
      have hd : k / sz * sz + k % sz = k := by rw [Nat.mul_comm]; exact Nat.div_add_mod k sz
      obtain ⟨y, e1, e2⟩ := q3 (k / sz) _ (k % sz) _ (List.getElem?_eq_getElem hi) (List.getElem?_eq_getElem hj)
      rw [hd] at e1
      rw [List.getElem?_take, if_pos hkl] at hk
      have : cur[k]? = some x := by simpa using hk
      rw [e1] at this
      cases this
      exact e2.one
    · obtain ⟨x, e1, e2⟩ := q3 i e j c hi hj
      have hel : e.length = sz := by rw [← hsz]; exact h.sz e (List.mem_of_getElem? hi)
      have hjl : j < sz := by rw [← hel]; exact (List.getElem?_eq_some_iff.1 hj).1
      have hil : i < es.length := (List.getElem?_eq_some_iff.1 hi).1
      have := Nat.mul_le_mul_right sz (show i + 1 ≤ es.length from hil)
      rw [Nat.add_mul, Nat.one_mul] at this
      refine ⟨x, ?_, e2⟩
      rw [List.getElem?_take, if_pos (by omega)]
      simpa using e1
    · simp only [Option.map_some, Option.some.injEq] at hb'
      subst hb'
      refine ⟨rfl, rfl, fun j x hx => ?_⟩
      rw [List.getElem?_take] at hx
      split at hx
      · rw [Addr.add_mid]
        have : cur[j]? = some x := by simpa using hx
        simp [World.cell?, q1, this]
      · cases hx

end Go.Proofs.Ytfnhchcgieeedaa

namespace Go.Proofs.Ytfnhchcgieeedaa
set_option linter.unusedSimpArgs false
set_option linter.unusedVariables false
set_option linter.defProp false
open Go.RowKit

theorem append_any {P : Program} (w : World) (t ty e : TypeId) (i : TypeInfo) (z : Value) (ht : P.underlying t = some (.slice e)) (hi : P.info? e = some i) (hz : i.zero = some z)
    (hzs : z.cells.size = i.size) (hsz : 0 < i.size) (v : Value) (n : Nat) (xs : List Value) (hown : w.ownsRow 0 e i.size v n xs)
    (a : Option Addr) (m c : Nat) (es : List (List DC)) (hl : (flatE es).length = m * i.size) (hfl : ∀ e ∈ es, ∀ c ∈ e, DC.flat c) (ha : a = none → m = 0 ∧ c = 0) (hc : 0 < m → ∃ ad, a = some ad ∧ ∀ j x, (flatE es)[j]? = some x → w.cell? (ad.add j) = some x)
    (hmb : (n + m) * i.bytes ≤ 140737488355328) (hm : n + m ≤ 1099511627776) :
    ∃ v' w', (Builtin.append_ #[t, t] ty #[v, .slice a m c]).run P w = .ok v' w' ∧ w'.ownsRow 0 e i.size v' (n + m) (xs ++ flatE es) ∧ w.grownBy w' v.ownBlock ∧
      ∀ b, v'.ownBlock = some b → w.heap.size ≤ b ∨ v.ownBlock = some b := by
  have one : ∀ u ∈ flatE es, u.oneCell' = true := by
    intro u hu
    obtain ⟨e, he, hu⟩ := List.mem_flatMap.1 hu
    obtain ⟨c, hc, rfl⟩ := List.mem_map.1 hu
    obtain ⟨x, rfl, hx⟩ := hfl e he c hc
    exact hx
  cases a with
  | none =>
    obtain ⟨rfl, rfl⟩ := ha rfl
    have h0 : flatE es = [] := List.eq_nil_of_length_eq_zero (by simpa using hl)
    rw [h0]
    have hrun := run_append_owned_none (P := P) (w := w) 0 t ty e i i.size ht hi _ _ _ hown
    exact ⟨v, w, hrun, by simpa using hown, ⟨rfl, rfl, rfl, Nat.le_refl _, fun _ _ _ => rfl⟩, fun b hb => .inr hb⟩
  | some ad =>
    refine append_mine w t ty e i z ht hi hz hzs hsz v n xs hown ad m c (flatE es) hl (fun j u hj => ?_) one (by unfold maxLen; omega) hmb
    by_cases h0 : 0 < m
    · obtain ⟨ad', e1, e2⟩ := hc h0
      cases e1
      exact e2 j u hj
    · have : m = 0 := by omega
      subst this
      have h0 : flatE es = [] := List.eq_nil_of_length_eq_zero (by simpa using hl)
      rw [h0] at hj; simp at hj

theorem append_raw {P : Program} (w : World) (t ty e : TypeId) (i : TypeInfo) (z : Value) (ht : P.underlying t = some (.slice e)) (hi : P.info? e = some i) (hz : i.zero = some z)
    (hzs : z.cells.size = i.size) (hsz : 0 < i.size) (v : Value) (n : Nat) (xs : List Value) (hown : w.ownsRow 0 e i.size v n xs)
    (u : Value) (m : Nat) (us : List Value) {ad : Addr → Prop}
    (hu : ∃ a cp, u = .slice a m cp ∧ (a = none → m = 0 ∧ cp = 0) ∧ ∀ b, a = some b → b = ⟨b.block, 0, none⟩ ∧ ad b ∧ ∀ j x, us[j]? = some x → w.cell? (b.add j) = some x) (hl : us.length = m * i.size) (hone : ∀ x ∈ us, x.oneCell' = true)
    (hmb : (n + m) * i.bytes ≤ 140737488355328) (hm : n + m ≤ 1099511627776) :
    ∃ v' w', (Builtin.append_ #[t, t] ty #[v, u]).run P w = .ok v' w' ∧ w'.ownsRow 0 e i.size v' (n + m) (xs ++ us) ∧ w.grownBy w' v.ownBlock ∧
      ∀ b, v'.ownBlock = some b → w.heap.size ≤ b ∨ v.ownBlock = some b := by
  obtain ⟨a, cp, rfl, h1, h2⟩ := hu
  cases a with
  | none =>
    obtain ⟨rfl, rfl⟩ := h1 rfl
    have h0 : us = [] := List.eq_nil_of_length_eq_zero (by simpa using hl)
    subst h0
    have hrun := run_append_owned_none (P := P) (w := w) 0 t ty e i i.size ht hi _ _ _ hown
    exact ⟨v, w, hrun, by simpa using hown, ⟨rfl, rfl, rfl, Nat.le_refl _, fun _ _ _ => rfl⟩, fun b hb => .inr hb⟩
  | some b =>
    obtain ⟨_, _, h3⟩ := h2 b rfl
    exact append_mine w t ty e i z ht hi hz hzs hsz v n xs hown b m cp us hl h3 hone (by unfold maxLen; omega) hmb

/-- The block of a finished append. -/
theorem Done.app {V : Nat → Prop} {ρ : Nat → At} {H : Heap} {nx : Nat} {w w' : World} {e : Nat} {sz n : Nat} {v v' : Value} {es : List (List DC)} {rd : List Nat} {rest : List (Nat × Option Blk)}
    (h : w'.ownsRow 0 e sz v' n (flatE es)) (hn : es.length = n) (hs : ∀ e ∈ es, e.length = sz) (hf : ∀ e ∈ es, ∀ c ∈ e, DC.flat c) (hg : w.grownBy w' v.ownBlock)
    (hb : ∀ b, v'.ownBlock = some b → w.heap.size ≤ b ∨ v.ownBlock = some b) (hrest : rest = [] ∧ v.ownBlock = none ∨ ∃ f, rest = [(f, none)] ∧ f < nx ∧ ∀ b, v.ownBlock = some b → excH (hget H) ρ f b) :
    ∃ p, Done V ρ H nx w ⟨.c (.sl nx sz 0 n), rd, (nx, some (.row e es)) :: rest, nx + 1⟩ v' (updA ρ nx p) w' := by
  obtain ⟨p, p1, p2, p3⟩ := row_of_owns (V := V) (ρ := ρ) (nx := nx) h hn hs hf
  have hlt : ∀ b, v'.ownBlock = some b → b < w'.heap.size := fun b hb => (h.lt b hb).2
  have hr0 : ∀ f, hget rest f = none := by
    intro f
    rcases hrest with ⟨rfl, _⟩ | ⟨f', rfl, _⟩
    · rfl
    · simp only [hget]; split <;> rfl
  refine ⟨p, ⟨same_of fun f hf => updA_same ρ nx p hf, p2, ⟨fun f blk' h' => ?_, fun f g blk1 blk2 hne h' h'' => ?_⟩, fun f blk' h' b hb' => ?_, hg.os, hg.tape, hg.output, hg.size, fun k hk hn => ?_⟩⟩
  · simp only [hget] at h'
    split at h'
    · rename_i e'; subst e'; cases h'
      rw [updA_new]
      exact ⟨.inr ⟨Nat.le_refl _, Nat.lt_succ_self _⟩, p1, fun b hb' => hlt b (by rw [p3] at hb'; exact hb')⟩
    · rw [hr0] at h'; cases h'
  · simp only [hget] at h' h''
    split at h'
    · split at h''
      · omega
      · rw [hr0] at h''; cases h''
    · rw [hr0] at h'; cases h'
  · simp only [hget] at h'
    split at h'
    · rename_i e'; subst e'; cases h'
      rw [updA_new, p3] at hb'
      rcases hb b hb' with q | q
      · exact .inl q
      · rcases hrest with ⟨_, q2⟩ | ⟨f', rfl, q3, q4⟩
        · rw [q2] at q; cases q
        · exact .inr (.inl ⟨f', none, by simp, q3, q4 b q⟩)
    · rw [hr0] at h'; cases h'
  · refine hg.block k hk fun e' => ?_
    rcases hrest with ⟨_, q2⟩ | ⟨f', rfl, q3, q4⟩
    · rw [q2] at e'; cases e'
    · exact hn f' none (by simp) q3 (q4 k e'.symm)

theorem mix_app {P : Program} {V : Nat → Prop} {ρ : Nat → At} {nx : Nat} {w : World} {t ty e : TypeId} {i : TypeInfo} {z : Value} (ht : P.underlying t = some (.slice e)) (hi : P.info? e = some i) (hz : i.zero = some z) (hzs : z.cells.size = i.size) (hsz : 0 < i.size)
    {v : Value} {n : Nat} {xs : List Value} (hown : w.ownsRow 0 e i.size v n xs) (hxl : xs.length = n * i.size) {es0 : List (List DC)} {R0 : Nat → Prop} (hn0 : es0.length = n) (hs0 : ∀ e ∈ es0, e.length = i.size) (hc0 : ∀ k e j c, es0[k]? = some e → e[j]? = some c → ∃ x, xs[k * i.size + j]? = some x ∧ Rd w R0 c x)
    {u : Value} {m : Nat} {us : List Value} {ad : Addr → Prop} (hu : ∃ a cp, u = .slice a m cp ∧ (a = none → m = 0 ∧ cp = 0) ∧ ∀ b, a = some b → b = ⟨b.block, 0, none⟩ ∧ ad b ∧ ∀ j x, us[j]? = some x → w.cell? (b.add j) = some x) (hl : us.length = m * i.size) (hone : ∀ x ∈ us, x.oneCell' = true)
    {es : List (List DC)} {R1 : Nat → Prop} (hn1 : es.length = m) (hs1 : ∀ e ∈ es, e.length = i.size) (hc1 : ∀ k e j c, es[k]? = some e → e[j]? = some c → ∃ x, us[k * i.size + j]? = some x ∧ Rd w R1 c x)
    (hR : ∀ b, R0 b ∨ R1 b → b < w.heap.size ∧ v.ownBlock ≠ some b) (hmb : (n + m) * i.bytes ≤ 140737488355328) (hm : n + m ≤ 1099511627776) :
    ∃ v' w' p, (Builtin.append_ #[t, t] ty #[v, u]).run P w = .ok v' w' ∧ Holds (newV V nx (nx + 1)) (updA ρ nx p) w' p (.mix e (es0 ++ es)) ∧ SVr (newV V nx (nx + 1)) (updA ρ nx p) (.c (.sl nx i.size 0 (n + m))) v' ∧
      (∀ b, p.F b → (w.heap.size ≤ b ∨ v.ownBlock = some b ∨ ((R0 b ∨ R1 b) ∧ p.adr ≠ some b)) ∧ b < w'.heap.size) ∧ w.grownBy w' v.ownBlock := by
  obtain ⟨v', w', q1, q2, q3, q4⟩ := append_raw (P := P) w t ty e i z ht hi hz hzs hsz v n xs hown u m us hu hl hone hmb hm
  have keep : ∀ b, R0 b ∨ R1 b → w'.heap[b]? = w.heap[b]? := fun b hb => q3.block b (hR b hb).1 fun e => (hR b hb).2 e.symm
  have hno : ∀ b, R0 b ∨ R1 b → v'.ownBlock ≠ some b := fun b hb e => by
    rcases q4 b e with h | h
    · have := (hR b hb).1; omega
    · exact (hR b hb).2 h
  obtain ⟨p, p1, p2, p3, p4⟩ := mix_of_owns (V := V) (ρ := ρ) (nx := nx) (es := es0 ++ es) q2 (by simp [hn0, hn1]) (fun e he => by
      rcases List.mem_append.1 he with he | he
      · exact hs0 e he
      · exact hs1 e he) (fun b => R0 b ∨ R1 b) hno (fun k e j c hk hj => by
      by_cases hkl : k < n
      · rw [List.getElem?_append_left (by omega)] at hk
        obtain ⟨x, e1, e2⟩ := hc0 k e j c hk hj
        refine ⟨x, ?_, e2.keep fun b hb => ⟨.inl hb, keep b (.inl hb)⟩⟩
        rw [List.getElem?_append_left (List.getElem?_eq_some_iff.1 e1).1]; exact e1
      · rw [List.getElem?_append_right (by omega), hn0] at hk
        obtain ⟨x, e1, e2⟩ := hc1 (k - n) e j c hk hj
        refine ⟨x, ?_, e2.keep fun b hb => ⟨.inr hb, keep b (.inr hb)⟩⟩
        have : n * i.size ≤ k * i.size := Nat.mul_le_mul_right _ (by omega)
        rw [List.getElem?_append_right (by omega), hxl]
        rw [Nat.sub_mul] at e1
        rw [← e1]; congr 1; omega)
  refine ⟨v', w', p, q1, p1, p2, fun b hb => ?_, q3⟩
  rw [p3] at hb
  rcases hb with hb | hb
  · refine ⟨?_, (q2.lt b hb).2⟩
    rcases q4 b hb with h | h
    · exact .inl h
    · exact .inr (.inl h)
  · exact ⟨.inr (.inr ⟨hb, fun e => hno b hb (p4 b e)⟩), Nat.lt_of_lt_of_le (hR b hb).1 q3.size⟩

theorem app_ok {P : Program} {o : Oper} {ev : Operand → SV} {H : Heap} {nx : Nat} {K : Eff → Prop} (hB : Bnd H nx) (h : appK P o ev H nx K) :
    ∃ e, Fit H nx e ∧ EffOK P o ev H nx e ∧ K e := by
  unfold appK at h
  split at h
  · rename_i c ho
    have hc : ∀ (l : List Operand) (ts : List TypeId) (b : Builtin), c.callee = .builtin b → c.args.toList = l → c.argTypes.toList = ts → c = { callee := .builtin b, args := l.toArray, argTypes := ts.toArray } := by
      intro l ts b h1 h2 h3
      cases c; simp only at h1 h2 h3; subst h1 h2 h3; simp
    split at h
    · rename_i s x t t' g1 g2 g3
      rw [hc _ _ _ g1 g2 g3] at ho
      obtain ⟨rfl, ti, e, te, h1, h2, h3, h4, h5⟩ := h
      obtain ⟨i, d, zz, e1, e2, _, rfl⟩ := tiOf_inv h1
      obtain rfl := td_slice h2
      obtain ⟨i', d', z, e1', e2', ⟨e3', e4', e5'⟩, rfl⟩ := tiOf_inv h3
      simp only at h4 h5
      have hexec : ∀ (a : Act) (w w' : World) (v' : Value), (Builtin.append_ #[t', t'] o.type #[a.eval s, a.eval x]).run P w = .ok v' w' → (execOp a.eval o).run P w = .ok (.value v') w' := by
        intro a w w' v' hr
        unfold execOp
        simp only [ho, resolve, invoke, builtin, Sem.run_bind, Sem.run_pure, Result.andThen_ok, List.map_toArray, List.map_cons, List.map_nil]
        rw [hr]
        rfl
      have nilrun : ∀ (w : World) (v : Value) (n : Nat) (xs : List Value), w.ownsRow 0 e i'.size v n xs → (Builtin.append_ #[t', t'] o.type #[v, .slice none 0 0]).run P w = .ok v w := by
        intro w v n xs hown
        exact run_append_owned_none (P := P) (w := w) 0 t' o.type e i' i'.size e2 e1' _ _ _ hown
      split at h5
      · rename_i hs
        split at h5
        · rename_i hx
          refine ⟨_, fit_pure H nx _, PureOK.eff (fun V ρ a hev => ?_) H nx, h5⟩
          have hp := hev s
          rw [hs] at hp
          have hq := hev x
          rw [hx] at hq
          have hp' : a.eval s = .slice none 0 0 := hp
          have hq' : a.eval x = .slice none 0 0 := hq
          exact ⟨.slice none 0 0, rfl, fun w => hexec a w w _ (by rw [hp', hq']; exact nilrun w _ 0 [] (World.ownsRow_nil w 0 e i'.size))⟩
        · rename_i g sz b m hx
          split at h5
          · rename_i T es hH
            obtain ⟨⟨rfl, rfl, rfl, rfl⟩, h8, h9⟩ := h5
            have hgn := hB g _ hH
            refine ⟨_, fit_nst (ks := [g]) (fun f hf => by simp at hf; subst hf; exact ⟨_, hH⟩) (fun f hf => by simp at hf; subst hf; exact ⟨hgn, by simp, _, hH, rfl⟩) rfl, fun V ρ a w K' Q hV hev hm hK => ?_, h9⟩
            have hp := hev s
            rw [hs] at hp
            have hp' : a.eval s = .slice none 0 0 := hp
            have hq := hev x
            rw [hx] at hq
            obtain ⟨_, ⟨q, n⟩, hsz⟩ := hm.dom g _ (looked_get (by simp) hH)
            obtain ⟨us, r1, r2, r3, r4, r7, r5, r6⟩ := owns_nst n hq rfl
            obtain ⟨v', w', q1, q2, q3, q4⟩ := append_raw (P := P) w t' o.type T i' z e2 e1' e3' e5' h4 (.slice none 0 0) 0 [] (World.ownsRow_nil w 0 T i'.size) (a.eval x) es.length us r6 r2 r7 (by rw [Nat.zero_add]; exact h8.1) (by rw [Nat.zero_add]; exact h8.2)
            rw [Nat.zero_add, List.nil_append] at q2
            unfold Oper.wp
            rw [hexec a w w' v' (by rw [hp']; exact q1)]
            have hbn : ∀ b, v'.ownBlock = some b → w.heap.size ≤ b := fun b hb => (q4 b hb).resolve_right (by simp [Value.ownBlock])
            obtain ⟨p, p1, p2, p3⟩ := nst_of_owns (V := V) (ρ := ρ) (nx := nx) q2 rfl (fun e he => (n.sz e he).trans r3) q (fun i j b hb e => by have := hsz b (n.sub _ _ _ hb).1; have := hbn b e; omega) n.apart
              fun i e j c hi hj => by
                obtain ⟨x, e1, e2⟩ := r5 i e j c hi hj
                exact ⟨x, e1, Cel.keep (fun b hb => q3.block b (hsz b (n.sub _ _ _ hb).1) (by simp [Value.ownBlock])) e2⟩
            refine hK _ _ _ (Done.nst (ks := [g]) p1 (fun b hb => ?_) (fun k hk => by simp at hk; subst hk; exact hgn) p2 q3.os q3.tape q3.output q3.size fun k hk _ => q3.block k hk (by simp [Value.ownBlock]))
            rw [p3] at hb
            rcases hb with hb | ⟨i, j, hb⟩
            · exact ⟨.inl (hbn b hb), (q2.lt b hb).2⟩
            · exact ⟨.inr ⟨g, by simp, _, hH, (n.sub _ _ _ hb).1⟩, Nat.lt_of_lt_of_le (hsz b (n.sub _ _ _ hb).1) q3.size⟩
          · rename_i T es hH
            obtain ⟨⟨rfl, rfl, rfl, rfl⟩, h8, h9⟩ := h5
            have hgn := hB g _ hH
            refine ⟨_, fit_nst (ks := [g]) (fun f hf => by simp at hf; subst hf; exact ⟨_, hH⟩) (fun f hf => by simp at hf; subst hf; exact ⟨hgn, by simp, _, hH, rfl⟩) rfl, fun V ρ a w K' Q hV hev hm hK => ?_, h9⟩
            have hp := hev s
            rw [hs] at hp
            have hp' : a.eval s = .slice none 0 0 := hp
            have hq := hev x
            rw [hx] at hq
            obtain ⟨_, hho, hsz⟩ := hm.dom g _ (looked_get (by simp) hH)
            obtain ⟨hmd, hmx, _⟩ := mixd_of (blk := .mix T es) rfl hho
            obtain ⟨us, r1, r2, r3, r4, r7, r5, r6⟩ := owns_mix hmd hq rfl
            obtain ⟨v', w', p, q1, q2, q3, q4, q5⟩ := mix_app (P := P) (V := V) (ρ := ρ) (nx := nx) (t := t') (ty := o.type) e2 e1' e3' e5' h4 (World.ownsRow_nil w 0 T i'.size) (by simp) (es0 := []) (R0 := fun _ => False) rfl (fun e he => (by cases he)) (fun k e j c hk => by simp at hk) r6 r2 r7 rfl (fun e he => (hmd.sz e he).trans r3) r5
              (fun b hb => ⟨hsz b (hb.resolve_left id).1, by simp [Value.ownBlock]⟩) (by rw [Nat.zero_add]; exact h8.1) (by rw [Nat.zero_add]; exact h8.2)
            rw [Nat.zero_add] at q3
            rw [List.nil_append] at q2
            unfold Oper.wp
            rw [hexec a w w' v' (by rw [hp']; exact q1)]
            refine hK _ _ _ (Done.mix (ks := [g]) q2 (fun b hb => ⟨?_, (q4 b hb).2⟩) (fun k hk => by simp at hk; subst hk; exact hgn) q3 q5.os q5.tape q5.output q5.size fun k hk _ => q5.block k hk (by simp [Value.ownBlock]))
            rcases (q4 b hb).1 with h | h | ⟨h, h'⟩
            · exact .inl h
            · simp [Value.ownBlock] at h
            · have hF := (h.resolve_left id).1
              by_cases hex : Blk.exc (ρ g) (.mix T es) b
              · exact .inr (.inl ⟨g, by simp, _, hH, hex⟩)
              · exact .inr (.inr ⟨h', g, by simp, _, hH, hF, hex⟩)
          split at h5
          · rename_i f' bl es hsrc
            obtain ⟨rfl, h6, h7, h8, h9⟩ := h5
            have hgH : ∃ blk, hget H g = some blk := by
              unfold srcOf at hsrc
              cases hH : hget H g with
              | none => simp [hH] at hsrc
              | some blk => exact ⟨blk, rfl⟩
            refine ⟨_, fit_new (fun f hf => by simp at hf; subst hf; exact hgH), fun V ρ a w K' Q hV hev hm hK => ?_, h9⟩
            have hp := hev s
            rw [hs] at hp
            have hp' : a.eval s = .slice none 0 0 := hp
            have hq := hev x
            rw [hx] at hq
            obtain ⟨r1, r2, ad, cp, r3, r4, r5⟩ := src_cells hm (by simp) hsrc h6 h7 hq
            obtain ⟨v', w', q1, q2, q3, q4⟩ := append_any (P := P) w t' o.type e i' z e2 e1' e3' e5' h4 (.slice none 0 0) 0 [] (World.ownsRow_nil w 0 e i'.size) ad m cp es (by rw [flatE_len r1, h6]) r2 r4 r5 (by rw [Nat.zero_add]; exact h8.1) (by rw [Nat.zero_add]; exact h8.2)
            rw [Nat.zero_add, List.nil_append] at q2
            obtain ⟨p, hd⟩ := Done.app (V := V) (ρ := ρ) (H := H) (nx := nx) (rd := [g]) (rest := []) q2 h6 r1 r2 q3 q4 (.inl ⟨rfl, rfl⟩)
            unfold Oper.wp
            rw [hexec a w w' v' (by rw [hp', r3]; exact q1)]
            exact hK _ _ _ hd
          · exact h5.elim
        · exact h5.elim
      · rename_i f sz' b' n hs
        split at h5
        · rename_i T es0 hH
          obtain ⟨rfl, hn, rfl, rfl, h5⟩ := h5
          split at h5
          · rename_i hx
            refine ⟨_, fit_read hH, EffOK.of_read fun V ρ a w hev hm => ?_, h5⟩
            have hp := hev s
            rw [hs] at hp
            have hq := hev x
            rw [hx] at hq
            have hq' : a.eval x = .slice none 0 0 := hq
            obtain ⟨_, hold, _⟩ := hm.dom f _ (looked_get (by simp) hH)
            obtain ⟨o1, o2, o3, o4⟩ := owns_row hold hp hn
            exact ⟨_, hp, hexec a w w _ (by rw [hq']; exact nilrun w _ _ _ o1)⟩
          · rename_i g sz b m hx
            obtain ⟨hgf, h5⟩ := h5
            split at h5
            · rename_i f' bl es hsrc
              obtain ⟨rfl, h6, h7, h8, h9⟩ := h5
              have hgH : ∃ blk, hget H g = some blk := by
                unfold srcOf at hsrc
                cases hH : hget H g with
                | none => simp [hH] at hsrc
                | some blk => exact ⟨blk, rfl⟩
              have hfn := hB f _ hH
              refine ⟨_, ⟨Nat.le_succ _, fun k hk => ?_, fun k b hb => ?_, by simp; omega⟩, fun V ρ a w K' Q hV hev hm hK => ?_, h9⟩
              · simp at hk
                rcases hk with rfl | rfl
                · exact ⟨_, hH⟩
                · exact hgH
              · simp at hb
                rcases hb with ⟨rfl, _⟩ | ⟨rfl, _⟩
                · exact ⟨Nat.lt_succ_self _, fun h => absurd h (Nat.lt_irrefl _)⟩
                · exact ⟨Nat.lt_succ_of_lt hfn, fun _ => ⟨by simp, _, hH, rfl⟩⟩
              have hp := hev s
              rw [hs] at hp
              have hq := hev x
              rw [hx] at hq
              obtain ⟨_, hold, _⟩ := hm.dom f _ (looked_get (by simp) hH)
              obtain ⟨o1, o2, o3, o4⟩ := owns_row hold hp hn
              obtain ⟨r1, r2, ad, cp, r3, r4, r5⟩ := src_cells hm (by simp) hsrc h6 h7 hq
              obtain ⟨v', w', q1, q2, q3, q4⟩ := append_any (P := P) w t' o.type T i' z e2 e1' e3' e5' h4 (a.eval s) n (flatE es0) o1 ad m cp es (by rw [flatE_len r1, h6]) r2 r4 r5 h8.1 h8.2
              have hfe : flatE es0 ++ flatE es = flatE (es0 ++ es) := by unfold flatE; rw [List.flatMap_append]
              rw [hfe] at q2
              obtain ⟨p, hd⟩ := Done.app (V := V) (ρ := ρ) (H := H) (nx := nx) (rd := [f, g]) (rest := [(f, none)]) q2 (by simp [hn, h6]) (fun e he => by
                  rcases List.mem_append.1 he with he | he
                  · exact o3 e he
                  · exact r1 e he) (fun e he => by
                  rcases List.mem_append.1 he with he | he
                  · exact o4 e he
                  · exact r2 e he) q3 q4 (.inr ⟨f, rfl, hfn, fun b hb => ⟨_, hH, o2 b hb⟩⟩)
              unfold Oper.wp
              rw [hexec a w w' v' (by rw [r3]; exact q1)]
              exact hK _ _ _ hd
            · exact h5.elim
          · exact h5.elim
        · rename_i T es0 hH
          obtain ⟨⟨rfl, hn, rfl, rfl⟩, h5⟩ := h5
          split at h5
          · rename_i hx
            refine ⟨_, fit_read hH, EffOK.of_read fun V ρ a w hev hm => ?_, h5⟩
            have hp := hev s
            rw [hs] at hp
            have hq := hev x
            rw [hx] at hq
            have hq' : a.eval x = .slice none 0 0 := hq
            obtain ⟨_, ⟨q, nn⟩, _⟩ := hm.dom f _ (looked_get (by simp) hH)
            obtain ⟨us, r1, _⟩ := owns_nst nn hp hn
            exact ⟨_, hp, hexec a w w _ (by rw [hq']; exact nilrun w _ _ _ r1)⟩
          · rename_i g sz b m hx
            obtain ⟨hgf, h5⟩ := h5
            split at h5
            · rename_i T' es hG
              obtain ⟨⟨rfl, rfl, rfl, rfl⟩, h8, h9⟩ := h5
              have hfn := hB f _ hH
              have hgn := hB g _ hG
              refine ⟨_, fit_nst (ks := [f, g]) (fun k hk => ?_) (fun k hk => ?_) (by simp [distB]; exact fun e => hgf e.symm), fun V ρ a w K' Q hV hev hm hK => ?_, h9⟩
              · simp at hk
                rcases hk with rfl | rfl
                · exact ⟨_, hH⟩
                · exact ⟨_, hG⟩
              · simp at hk
                rcases hk with rfl | rfl
                · exact ⟨hfn, by simp, _, hH, rfl⟩
                · exact ⟨hgn, by simp, _, hG, rfl⟩
              have hp := hev s
              rw [hs] at hp
              have hq := hev x
              rw [hx] at hq
              obtain ⟨_, ⟨qf, nf⟩, hszf⟩ := hm.dom f _ (looked_get (by simp) hH)
              obtain ⟨_, ⟨qg, ng⟩, hszg⟩ := hm.dom g _ (looked_get (by simp) hG)
              have sep := hm.sep f g _ _ (fun e => hgf e.symm) (looked_get (by simp) hH) (looked_get (by simp) hG)
              obtain ⟨uf, f1, f2, f3, f4, _, f5, _⟩ := owns_nst nf hp hn
              obtain ⟨ug, g1, g2, g3, g4, g7, g5, g6⟩ := owns_nst ng hq rfl
              obtain ⟨v', w', q1, q2, q3, q4⟩ := append_raw (P := P) w t' o.type T' i' z e2 e1' e3' e5' h4 (a.eval s) n uf f1 (a.eval x) es.length ug g6 g2 g7 h8.1 h8.2
              unfold Oper.wp
              rw [hexec a w w' v' q1]
              have hownf : ∀ b, (a.eval s).ownBlock = some b → (ρ f).F b := fun b hb => (nf.cells b ((f4 b).1 hb)).1
              have hbn : ∀ b, v'.ownBlock = some b → w.heap.size ≤ b ∨ (ρ f).adr = some b := fun b hb => (q4 b hb).imp id (f4 b).1
              have keepf : ∀ i j b, (qf i j).F b → w'.heap[b]? = w.heap[b]? := fun i j b hb => q3.block b (hszf b (nf.sub _ _ _ hb).1) fun e => (nf.sub _ _ _ hb).2 ((f4 b).1 e.symm)
              have keepg : ∀ i j b, (qg i j).F b → w'.heap[b]? = w.heap[b]? := fun i j b hb => q3.block b (hszg b (ng.sub _ _ _ hb).1) fun e => sep b (hownf b e.symm) (ng.sub _ _ _ hb).1
              obtain ⟨p, p1, p2, p3⟩ := nst_of_owns (V := V) (ρ := ρ) (nx := nx) (es := es0 ++ es) q2 (by simp [hn]) (fun e he => by
                  rcases List.mem_append.1 he with he | he
                  · exact (nf.sz e he).trans f3
                  · exact (ng.sz e he).trans g3) (fun i j => if i < n then qf i j else qg (i - n) j)
                (fun i j b hb e => by
                  rcases hbn b e with e | e
                  · split at hb
                    · have := hszf b (nf.sub _ _ _ hb).1; omega
                    · have := hszg b (ng.sub _ _ _ hb).1; omega
                  · split at hb
                    · exact (nf.sub _ _ _ hb).2 e
                    · exact sep b (nf.cells b e).1 (ng.sub _ _ _ hb).1)
                (fun i j i2 j2 b hb hb' => by
                  split at hb
                  · split at hb'
                    · exact nf.apart _ _ _ _ b hb hb'
                    · exact absurd (ng.sub _ _ _ hb').1 (sep b (nf.sub _ _ _ hb).1)
                  · split at hb'
                    · exact absurd (ng.sub _ _ _ hb).1 (sep b (nf.sub _ _ _ hb').1)
                    · have := ng.apart _ _ _ _ b hb hb'
                      omega)
                fun i e j c hi hj => by
                  by_cases hil : i < n
                  · rw [List.getElem?_append_left (by omega)] at hi
                    obtain ⟨x, e1, e2⟩ := f5 i e j c hi hj
                    refine ⟨x, ?_, ?_⟩
                    · rw [List.getElem?_append_left (List.getElem?_eq_some_iff.1 e1).1]; exact e1
                    · rw [if_pos hil]; exact Cel.keep (keepf i j) e2
                  · rw [List.getElem?_append_right (by omega), ← hn] at hi
                    obtain ⟨x, e1, e2⟩ := g5 (i - n) e j c hi hj
                    refine ⟨x, ?_, ?_⟩
                    · have : n * i'.size ≤ i * i'.size := Nat.mul_le_mul_right _ (by omega)
                      rw [List.getElem?_append_right (by omega), f2]
                      rw [Nat.sub_mul] at e1
                      rw [← e1]; congr 1; omega
                    · rw [if_neg hil]; exact Cel.keep (keepg (i - n) j) e2
              refine hK _ _ _ (Done.nst (ks := [f, g]) p1 (fun b hb => ?_) (fun k hk => ?_) p2 q3.os q3.tape q3.output q3.size fun k hk hnk => q3.block k hk fun e => hnk f (by simp) ⟨_, hH, hownf k e.symm⟩)
              · rw [p3] at hb
                rcases hb with hb | ⟨i, j, hb⟩
                · refine ⟨?_, (q2.lt b hb).2⟩
                  rcases hbn b hb with e | e
                  · exact .inl e
                  · exact .inr ⟨f, by simp, _, hH, (nf.cells b e).1⟩
                · split at hb
                  · exact ⟨.inr ⟨f, by simp, _, hH, (nf.sub _ _ _ hb).1⟩, Nat.lt_of_lt_of_le (hszf b (nf.sub _ _ _ hb).1) q3.size⟩
                  · exact ⟨.inr ⟨g, by simp, _, hG, (ng.sub _ _ _ hb).1⟩, Nat.lt_of_lt_of_le (hszg b (ng.sub _ _ _ hb).1) q3.size⟩
              · simp at hk
                rcases hk with rfl | rfl
                · exact hfn
                · exact hgn
            · rename_i T' es hG
              obtain ⟨⟨rfl, rfl, rfl, rfl⟩, h8, h9⟩ := h5
              have hof : (Blk.nst T' es0 none).own = true := rfl
              have hog : (Blk.mix T' es).own = true := rfl
              have hbf : mixOf (some (.nst T' es0 none)) = some (T', es0) := rfl
              have hbg : mixOf (some (.mix T' es)) = some (T', es) := rfl
              have hfn := hB f _ hH
              have hgn := hB g _ hG
              refine ⟨_, fit_nst (ks := [f, g]) (fun k hk => ?_) (fun k hk => ?_) (by simp [distB]; exact fun e => hgf e.symm), fun V ρ a w K' Q hV hev hm hK => ?_, h9⟩
              · simp at hk
                rcases hk with rfl | rfl
                · exact ⟨_, hH⟩
                · exact ⟨_, hG⟩
              · simp at hk
                rcases hk with rfl | rfl
                · exact ⟨hfn, by simp, _, hH, hof⟩
                · exact ⟨hgn, by simp, _, hG, hog⟩
              have hp := hev s
              rw [hs] at hp
              have hq := hev x
              rw [hx] at hq
              obtain ⟨_, hhf, hszf⟩ := hm.dom f _ (looked_get (by simp) hH)
              obtain ⟨_, hhg, hszg⟩ := hm.dom g _ (looked_get (by simp) hG)
              obtain ⟨mf, xf, _⟩ := mixd_of hbf hhf
              obtain ⟨mg, xg, _⟩ := mixd_of hbg hhg
              obtain ⟨uf, f1, f2, f3, f4, _, f5, _⟩ := owns_mix mf hp hn
              obtain ⟨ug, g1, g2, g3, g4, g7, g5, g6⟩ := owns_mix mg hq rfl
              have sep := hm.sep f g _ _ (fun e => hgf e.symm) (looked_get (by simp) hH) (looked_get (by simp) hG)
              obtain ⟨v', w', p, q1, q2, q3, q4, q5⟩ := mix_app (P := P) (V := V) (ρ := ρ) (nx := nx) (t := t') (ty := o.type) e2 e1' e3' e5' h4 f1 f2 hn.symm (fun e he => (mf.sz e he).trans f3) f5 g6 g2 g7 rfl (fun e he => (mg.sz e he).trans g3) g5
                (fun b hb => by
                  rcases hb with hb | hb
                  · exact ⟨hszf b hb.1, fun e => hb.2 ((f4 b).1 e)⟩
                  · exact ⟨hszg b hb.1, fun e => sep b (xf b ((f4 b).1 e)) hb.1⟩) h8.1 h8.2
              unfold Oper.wp
              rw [hexec a w w' v' q1]
              refine hK _ _ _ (Done.mix (ks := [f, g]) q2 (fun b hb => ⟨?_, (q4 b hb).2⟩) (fun k hk => ?_) q3 q5.os q5.tape q5.output q5.size fun k hk hnk => q5.block k hk fun e => hnk f (by simp) ⟨_, hH, xf k ((f4 k).1 e.symm)⟩)
              · rcases (q4 b hb).1 with h | h | ⟨h, h'⟩
                · exact .inl h
                · exact .inr (.inl ⟨f, by simp, _, hH, xf b ((f4 b).1 h)⟩)
                · rcases h with h | h
                  · by_cases hex : Blk.exc (ρ f) (.nst T' es0 none) b
                    · exact .inr (.inl ⟨f, by simp, _, hH, hex⟩)
                    · exact .inr (.inr ⟨h', f, by simp, _, hH, h.1, hex⟩)
                  · by_cases hex : Blk.exc (ρ g) (.mix T' es) b
                    · exact .inr (.inl ⟨g, by simp, _, hG, hex⟩)
                    · exact .inr (.inr ⟨h', g, by simp, _, hG, h.1, hex⟩)
              · simp at hk
                rcases hk with rfl | rfl
                · exact hfn
                · exact hgn
            · exact h5.elim
          · exact h5.elim
        · rename_i T es0 hH
          obtain ⟨⟨rfl, hn, rfl, rfl⟩, h5⟩ := h5
          split at h5
          · rename_i hx
            refine ⟨_, fit_read hH, EffOK.of_read fun V ρ a w hev hm => ?_, h5⟩
            have hp := hev s
            rw [hs] at hp
            have hq := hev x
            rw [hx] at hq
            have hq' : a.eval x = .slice none 0 0 := hq
            obtain ⟨_, hho, _⟩ := hm.dom f _ (looked_get (by simp) hH)
            obtain ⟨hmd, _, _⟩ := mixd_of (blk := .mix T es0) rfl hho
            obtain ⟨us, r1, _⟩ := owns_mix hmd hp hn
            exact ⟨_, hp, hexec a w w _ (by rw [hq']; exact nilrun w _ _ _ r1)⟩
          · rename_i g sz b m hx
            obtain ⟨hgf, h5⟩ := h5
            split at h5
            · rename_i T' es hbg
              obtain ⟨⟨rfl, rfl, rfl, rfl⟩, h8, h9⟩ := h5
              obtain ⟨bg, hG, hbg⟩ : ∃ bg, hget H g = some bg ∧ mixOf (some bg) = some (T', es) := by
                cases hG : hget H g with
                | none => rw [hG] at hbg; simp [mixOf] at hbg
                | some bg => exact ⟨bg, rfl, by rw [← hG]; exact hbg⟩
              have hof : (Blk.mix T' es0).own = true := rfl
              have hog : bg.own = true := by
                cases bg with
                | mix _ _ => rfl
                | nst _ _ x => rfl
                | box _ _ => rfl
                | row _ _ => rfl
                | gh _ _ => rfl
                | gx _ _ => rfl
                | ro _ => simp [mixOf] at hbg
              have hbf : mixOf (some (.mix T' es0)) = some (T', es0) := rfl
              have hfn := hB f _ hH
              have hgn := hB g _ hG
              refine ⟨_, fit_nst (ks := [f, g]) (fun k hk => ?_) (fun k hk => ?_) (by simp [distB]; exact fun e => hgf e.symm), fun V ρ a w K' Q hV hev hm hK => ?_, h9⟩
              · simp at hk
                rcases hk with rfl | rfl
                · exact ⟨_, hH⟩
                · exact ⟨_, hG⟩
              · simp at hk
                rcases hk with rfl | rfl
                · exact ⟨hfn, by simp, _, hH, hof⟩
                · exact ⟨hgn, by simp, _, hG, hog⟩
              have hp := hev s
              rw [hs] at hp
              have hq := hev x
              rw [hx] at hq
              obtain ⟨_, hhf, hszf⟩ := hm.dom f _ (looked_get (by simp) hH)
              obtain ⟨_, hhg, hszg⟩ := hm.dom g _ (looked_get (by simp) hG)
              obtain ⟨mf, xf, _⟩ := mixd_of hbf hhf
              obtain ⟨mg, xg, _⟩ := mixd_of hbg hhg
              obtain ⟨uf, f1, f2, f3, f4, _, f5, _⟩ := owns_mix mf hp hn
              obtain ⟨ug, g1, g2, g3, g4, g7, g5, g6⟩ := owns_mix mg hq rfl
              have sep := hm.sep f g _ _ (fun e => hgf e.symm) (looked_get (by simp) hH) (looked_get (by simp) hG)
              obtain ⟨v', w', p, q1, q2, q3, q4, q5⟩ := mix_app (P := P) (V := V) (ρ := ρ) (nx := nx) (t := t') (ty := o.type) e2 e1' e3' e5' h4 f1 f2 hn.symm (fun e he => (mf.sz e he).trans f3) f5 g6 g2 g7 rfl (fun e he => (mg.sz e he).trans g3) g5
                (fun b hb => by
                  rcases hb with hb | hb
                  · exact ⟨hszf b hb.1, fun e => hb.2 ((f4 b).1 e)⟩
                  · exact ⟨hszg b hb.1, fun e => sep b (xf b ((f4 b).1 e)) hb.1⟩) h8.1 h8.2
              unfold Oper.wp
              rw [hexec a w w' v' q1]
              refine hK _ _ _ (Done.mix (ks := [f, g]) q2 (fun b hb => ⟨?_, (q4 b hb).2⟩) (fun k hk => ?_) q3 q5.os q5.tape q5.output q5.size fun k hk hnk => q5.block k hk fun e => hnk f (by simp) ⟨_, hH, xf k ((f4 k).1 e.symm)⟩)
              · rcases (q4 b hb).1 with h | h | ⟨h, h'⟩
                · exact .inl h
                · exact .inr (.inl ⟨f, by simp, _, hH, xf b ((f4 b).1 h)⟩)
                · rcases h with h | h
                  · by_cases hex : Blk.exc (ρ f) (.mix T' es0) b
                    · exact .inr (.inl ⟨f, by simp, _, hH, hex⟩)
                    · exact .inr (.inr ⟨h', f, by simp, _, hH, h.1, hex⟩)
                  · by_cases hex : Blk.exc (ρ g) bg b
                    · exact .inr (.inl ⟨g, by simp, _, hG, hex⟩)
                    · exact .inr (.inr ⟨h', g, by simp, _, hG, h.1, hex⟩)
              · simp at hk
                rcases hk with rfl | rfl
                · exact hfn
                · exact hgn
            · exact h5.elim
          · exact h5.elim
        · exact h5.elim
      · exact h5.elim
    · exact h.elim
  · exact h.elim

end Go.Proofs.Ytfnhchcgieeedaa

namespace Go.Proofs.Ytfnhchcgieeedaa
set_option linter.unusedSimpArgs false
set_option linter.unusedVariables false
set_option linter.defProp false
open Go.RowKit

/-- What a function does: the blocks that its arguments lead to (numbers below n0), its arguments, its result, the blocks that are changed or new (numbers from n0 on). -/
structure Con where
  n0 : Nat
  pre : Heap
  args : List SV
  r : SV
  wr : Heap
  n : Nat

def Con.eff (c : Con) : Eff := ⟨c.r, c.pre.map (·.1), c.wr, c.n⟩

def FnR (P : Program) (f : FuncId) (c : Con) : Prop :=
  Fit c.pre c.n0 c.eff ∧ ∀ (ρ : Nat → At) (vs : List Value) (w : World), All2 (SVr (· < c.n0) ρ) c.args vs → Mem (· < c.n0) ρ (hget c.pre) w →
    Calls P f vs.toArray w fun e w' => ∃ u ρ', e = .returned u ∧ Done (· < c.n0) ρ c.pre c.n0 w c.eff u ρ' w'

/-- How a call sees a block of the caller: a part, to read; the very block; nothing. -/
inductive Vw where
  | ro (g b m : Nat) (r : Bool)
  | same (g : Nat)
  | emp (sz : Nat) (own : Bool)

def Vw.blk : Vw → Option Nat
  | .ro g _ _ _ => some g
  | .same g => some g
  | .emp _ _ => none

def vwAt (ρ : Nat → At) : Vw → At
  | .ro g b m _ => ⟨(ρ g).adr, (ρ g).off + b * (ρ g).sz, (ρ g).sz, m, False, (ρ g).F⟩
  | .same g => ρ g
  | .emp s o => ⟨none, 0, s, 0, o = true, fun _ => False⟩

/-- a contract's cell as the caller has it -/
def mcv (π : Nat → Vw) : CV → CV
  | .sl i sz o n => match π i with
    | .ro g b _ _ => .sl g sz (b + o) n
    | .same g => .sl g sz o n
    | .emp _ _ => .nil
  | .ptr i a c => match π i with
    | .same g => .ptr g a c
    | _ => .any
  | x => x

def wfc (π : Nat → Vw) (n0 : Nat) : CV → Prop
  | .sl i sz o n => i < n0 ∧ match π i with
    | .emp s _ => s = sz ∧ n = 0
    | _ => True
  | .ptr i _ _ => i < n0 ∧ match π i with
    | .same _ => True
    | _ => False
  | _ => True

/-- a result's cell as the caller has it -/
def rcv (π : Nat → Vw) (n0 nx : Nat) : CV → CV
  | .sl i sz o n => if i < n0 then (match π i with | .same g => .sl g sz o n | .ro g b _ true => .sl g sz (b + o) n | _ => .any) else .sl (nx + (i - n0)) sz o n
  | .ptr i a c => if i < n0 then (match π i with | .same g => .ptr g a c | _ => .any) else .ptr (nx + (i - n0)) a c
  | x => x

def SV.map (h : CV → CV) : SV → SV
  | .any => .any
  | .c x => .c (h x)
  | .agg l => .agg (l.map h)
  | .tup l => .tup (l.map fun | .inl x => .inl (h x) | .inr l => .inr (l.map h))

def Blk.map (h : CV → CV) : Blk → Blk
  | .box T cs => .box T (cs.map h)
  | .row T es => .row T es
  | .ro es => .ro es
  | .gh S φ => .gh S φ
  | .nst T es x => .nst T es (x.map fun q => (q.1, q.2.1, h q.2.2))
  | .mix T es => .mix T es
  | .gx S φ => .gx S φ

def wfs (p : CV → Prop) : SV → Prop
  | .any => True
  | .c x => p x
  | .agg l => ∀ x ∈ l, p x
  | .tup l => ∀ y ∈ l, match y with | .inl x => p x | .inr l => ∀ x ∈ l, p x

def wfb (p : CV → Prop) : Blk → Prop
  | .box _ cs => ∀ x ∈ cs, p x
  | .nst _ _ (some q) => p q.2.2
  | _ => True

theorem Blk.own_map (h : CV → CV) (b : Blk) : (b.map h).own = b.own := by cases b <;> rfl
theorem Blk.exc_map (h : CV → CV) (b : Blk) (p : At) (k : Nat) : (b.map h).exc p k = b.exc p k := by cases b <;> rfl

theorem All2.of_map {α β γ : Type} {R : γ → β → Prop} {R' : α → β → Prop} {h : α → γ} : ∀ {l : List α} {m : List β}, All2 R (l.map h) m → (∀ x ∈ l, ∀ u, R (h x) u → R' x u) → All2 R' l m
  | [], [], _, _ => trivial
  | [], _ :: _, h, _ => h.elim
  | _ :: _, [], h, _ => h.elim
  | x :: l, u :: m, hh, hr => ⟨hr x (by simp) u hh.1, All2.of_map (l := l) (m := m) hh.2 fun y hy => hr y (by simp [hy])⟩

theorem All2.to_map {α β γ : Type} {R : γ → β → Prop} {R' : α → β → Prop} {h : α → γ} : ∀ {l : List α} {m : List β}, All2 R' l m → (∀ x u, R' x u → R (h x) u) → All2 R (l.map h) m
  | [], [], _, _ => trivial
  | [], _ :: _, h, _ => h.elim
  | _ :: _, [], h, _ => h.elim
  | x :: l, u :: m, hh, hr => ⟨hr x u hh.1, All2.to_map (l := l) (m := m) hh.2 hr⟩

theorem mcv_r {V : Nat → Prop} {ρ : Nat → At} {π : Nat → Vw} {n0 : Nat} {x : CV} {u : Value} (hw : wfc π n0 x) (h : CVr V ρ (mcv π x) u) : CVr (· < n0) (fun i => vwAt ρ (π i)) x u := by
  cases x with
  | any => exact h
  | v x => exact h
  | nil => exact h
  | ptr i a c =>
    obtain ⟨h1, h2⟩ := hw
    simp only [mcv] at h
    cases hp : π i with
    | ro g b m r => simp [hp] at h2
    | emp s ow => simp [hp] at h2
    | same g =>
      rw [hp] at h
      exact ⟨h1, by simp only [hp, vwAt]; exact h.2⟩
  | sl i sz o n =>
    obtain ⟨h1, h2⟩ := hw
    simp only [mcv] at h
    cases hp : π i with
    | ro g b m r =>
      rw [hp] at h
      obtain ⟨_, hsz, a, cp, rfl, h3, h4, h5, h6, h7⟩ := h
      refine ⟨h1, by simp only [hp, vwAt]; exact hsz, a, cp, rfl, h3, h4, h5, fun _ hex => (by simp only [hp, vwAt] at hex), fun hpos => ?_⟩
      obtain ⟨b', q1, q2⟩ := h7 hpos
      refine ⟨b', by simp only [hp, vwAt]; exact q1, ?_⟩
      simp only [hp, vwAt, hsz]
      rw [q2, Nat.add_mul, Nat.add_assoc]
    | emp s ow =>
      rw [hp] at h h2
      obtain ⟨rfl, rfl⟩ := h2
      have hu : u = .slice none 0 0 := h
      exact ⟨h1, by simp only [hp, vwAt], none, 0, hu, Nat.le_refl _, Nat.zero_le _, fun _ => rfl, fun _ _ => by simp only [hp, vwAt]; exact ⟨rfl, trivial⟩, fun h => absurd h (Nat.lt_irrefl _)⟩
    | same g =>
      rw [hp] at h
      refine ⟨h1, ?_⟩
      simp only [hp, vwAt]
      exact h.2

theorem msv_r {V : Nat → Prop} {ρ : Nat → At} {π : Nat → Vw} {n0 : Nat} {x : SV} {u : Value} (hw : wfs (wfc π n0) x) (h : SVr V ρ (x.map (mcv π)) u) : SVr (· < n0) (fun i => vwAt ρ (π i)) x u := by
  cases x with
  | any => trivial
  | c x => exact mcv_r hw h
  | agg l =>
    obtain ⟨vs, h1, h2⟩ := h
    exact ⟨vs, h1, h2.of_map fun x hx u hu => mcv_r (hw x hx) hu⟩
  | tup l =>
    obtain ⟨vs, h1, h2⟩ := h
    refine ⟨vs, h1, h2.of_map fun y hy u hu => ?_⟩
    have := hw y hy
    cases y with
    | inl x => exact mcv_r this hu
    | inr l =>
      obtain ⟨vs', h3, h4⟩ := hu
      exact ⟨vs', h3, h4.of_map fun x hx u hu => mcv_r (this x hx) hu⟩

/-- A row with rows in it under other places, where the lent cell is seen alike. -/
theorem Nest.hmap {V V' : Nat → Prop} {ρ ρ' : Nat → At} {w : World} {p : At} {T : Nat} {es : List (List DC)} {x : Option (Nat × Nat × CV)} {q : Nat → Nat → At} {g : CV → CV} (n : Nest V ρ w p T es (x.map fun q => (q.1, q.2.1, g q.2.2)) q)
    (h : ∀ y, x = some y → ∀ u, CVr V ρ (g y.2.2) u → CVr V' ρ' y.2.2 u) : Nest V' ρ' w p T es x q := by
  refine n.hole fun i j u => ?_
  cases x with
  | none => exact ⟨fun h => h, fun y h => (by cases h)⟩
  | some y =>
    obtain ⟨i', j', y⟩ := y
    simp only [Option.map_some, holeAt]
    split
    · exact ⟨fun h => (by cases h), fun z hz => by cases hz; exact ⟨y, rfl, h _ rfl u⟩⟩
    · exact ⟨fun h => h, fun z hz => (by cases hz)⟩

theorem Nest.tmap {V V' : Nat → Prop} {ρ ρ' : Nat → At} {w : World} {p : At} {T : Nat} {es : List (List DC)} {x : Option (Nat × Nat × CV)} {q : Nat → Nat → At} {g : CV → CV} (n : Nest V ρ w p T es x q)
    (h : ∀ y u, CVr V ρ y u → CVr V' ρ' (g y) u) : Nest V' ρ' w p T es (x.map fun q => (q.1, q.2.1, g q.2.2)) q := by
  refine n.hole fun i j u => ?_
  cases x with
  | none => exact ⟨fun h => h, fun y h => (by cases h)⟩
  | some y =>
    obtain ⟨i', j', y⟩ := y
    simp only [Option.map_some, holeAt]
    split
    · exact ⟨fun h => (by cases h), fun z hz => by cases hz; exact ⟨g y, rfl, h y u⟩⟩
    · exact ⟨fun h => h, fun z hz => (by cases hz)⟩

open Classical in
/-- The places behind a call. -/
noncomputable def retA (π : Nat → Vw) (ρ ρc : Nat → At) (n0 nx nx' : Nat) (f : Nat) : At :=
  if nx ≤ f ∧ f < nx' then ρc (f - nx + n0) else if h : ∃ i, i < n0 ∧ π i = .same f then ρc h.choose else ρ f

theorem retA_same {π : Nat → Vw} {ρ ρc : Nat → At} {n0 nx nx' i g : Nat} (huq : ∀ i j g, i < n0 → j < n0 → π i = .same g → π j = .same g → i = j) (hi : i < n0) (hp : π i = .same g) (hg : g < nx ∨ nx' ≤ g) : retA π ρ ρc n0 nx nx' g = ρc i := by
  have h : ∃ i, i < n0 ∧ π i = .same g := ⟨i, hi, hp⟩
  unfold retA
  rw [if_neg (by omega), dif_pos h]
  rw [huq _ i g h.choose_spec.1 hi h.choose_spec.2 hp]

theorem retA_nf {π : Nat → Vw} {ρ ρc : Nat → At} {n0 nx nx' g : Nat} (hsame : ∀ i, i < n0 → (ρc i).nf = (vwAt ρ (π i)).nf) (hg : g < nx ∨ nx' ≤ g) : (retA π ρ ρc n0 nx nx' g).nf = (ρ g).nf := by
  unfold retA
  rw [if_neg (by omega)]
  split
  · rename_i h
    rw [hsame _ h.choose_spec.1, h.choose_spec.2]; rfl
  · rfl

theorem rcv_r {V : Nat → Prop} {ρ ρc : Nat → At} {π : Nat → Vw} {n0 n nx nx' : Nat} (hn : nx' = nx + (n - n0)) (hsame : ∀ i, i < n0 → (ρc i).nf = (vwAt ρ (π i)).nf) (huq : ∀ i j g, i < n0 → j < n0 → π i = .same g → π j = .same g → i = j) (hπ : ∀ i g, i < n0 → π i = .same g → V g ∧ (g < nx ∨ nx' ≤ g)) (hro : ∀ i g b m, i < n0 → π i = .ro g b m true → (V g ∧ (g < nx ∨ nx' ≤ g)) ∧ ¬ (ρ g).ex) {x : CV} {u : Value}
    (h : CVr (newV (· < n0) n0 n) ρc x u) : CVr (newV V nx nx') (retA π ρ ρc n0 nx nx') (rcv π n0 nx x) u := by
  have new : ∀ i, newV (· < n0) n0 n i → ¬ i < n0 → newV V nx nx' (nx + (i - n0)) ∧ retA π ρ ρc n0 nx nx' (nx + (i - n0)) = ρc i := by
    intro i hi hlt
    rcases hi with hi | hi
    · exact absurd hi hlt
    · refine ⟨.inr (by omega), ?_⟩
      unfold retA
      rw [if_pos (by omega)]
      congr 1; omega
  have old : ∀ i g, i < n0 → π i = .same g → newV V nx nx' g ∧ retA π ρ ρc n0 nx nx' g = ρc i := by
    intro i g hi hp
    obtain ⟨h1, h2⟩ := hπ i g hi hp
    exact ⟨.inl h1, retA_same huq hi hp h2⟩
  cases x with
  | any => exact h
  | v x => exact h
  | nil => exact h
  | ptr i a c =>
    have hone := h.one
    obtain ⟨h1, h2⟩ := h
    simp only [rcv]
    split
    · rename_i hi
      split
      · rename_i g hp
        obtain ⟨q1, q2⟩ := old i g hi hp
        exact ⟨q1, by rw [q2]; exact h2⟩
      · exact hone
    · rename_i hi
      obtain ⟨q1, q2⟩ := new i h1 hi
      exact ⟨q1, by rw [q2]; exact h2⟩
  | sl i sz o m =>
    have hone := h.one
    obtain ⟨h1, h2⟩ := h
    simp only [rcv]
    split
    · rename_i hi
      split
      · rename_i g hp
        obtain ⟨q1, q2⟩ := old i g hi hp
        exact ⟨q1, by rw [q2]; exact h2⟩
      · rename_i g b m' hp
        obtain ⟨⟨q1, q2⟩, q3⟩ := hro i g b m' hi hp
        obtain ⟨F1, e⟩ := nf_cases (retA_nf (nx' := nx') hsame q2)
        obtain ⟨F2, e2⟩ := nf_cases (hsame i hi)
        rw [e2, hp] at h2
        obtain ⟨r1, a, cp, rfl, r2, r3, r4, _, r5⟩ := h2
        simp only [vwAt] at r1 r5
        refine ⟨.inl q1, by rw [e]; exact r1, a, cp, rfl, r2, r3, r4, fun _ hex => (by rw [e] at hex; exact absurd hex q3), fun hpos => ?_⟩
        obtain ⟨b', t1, t2⟩ := r5 hpos
        rw [e]
        refine ⟨b', t1, ?_⟩
        rw [t2, r1, Nat.add_mul, Nat.add_assoc]
      · exact hone
    · rename_i hi
      obtain ⟨q1, q2⟩ := new i h1 hi
      exact ⟨q1, by rw [q2]; exact h2⟩

theorem rsv_r {V : Nat → Prop} {ρ ρc : Nat → At} {π : Nat → Vw} {n0 n nx nx' : Nat} (hn : nx' = nx + (n - n0)) (hsame : ∀ i, i < n0 → (ρc i).nf = (vwAt ρ (π i)).nf) (huq : ∀ i j g, i < n0 → j < n0 → π i = .same g → π j = .same g → i = j) (hπ : ∀ i g, i < n0 → π i = .same g → V g ∧ (g < nx ∨ nx' ≤ g)) (hro : ∀ i g b m, i < n0 → π i = .ro g b m true → (V g ∧ (g < nx ∨ nx' ≤ g)) ∧ ¬ (ρ g).ex) {x : SV} {u : Value}
    (h : SVr (newV (· < n0) n0 n) ρc x u) : SVr (newV V nx nx') (retA π ρ ρc n0 nx nx') (x.map (rcv π n0 nx)) u := by
  cases x with
  | any => trivial
  | c x => exact rcv_r hn hsame huq hπ hro h
  | agg l =>
    obtain ⟨vs, h1, h2⟩ := h
    exact ⟨vs, h1, h2.to_map fun x u hu => rcv_r hn hsame huq hπ hro hu⟩
  | tup l =>
    obtain ⟨vs, h1, h2⟩ := h
    refine ⟨vs, h1, h2.to_map fun y u hu => ?_⟩
    cases y with
    | inl x => exact rcv_r hn hsame huq hπ hro hu
    | inr l =>
      obtain ⟨vs', h3, h4⟩ := hu
      exact ⟨vs', h3, h4.to_map fun x u hu => rcv_r hn hsame huq hπ hro hu⟩

end Go.Proofs.Ytfnhchcgieeedaa

namespace Go.Proofs.Ytfnhchcgieeedaa
set_option linter.unusedSimpArgs false
set_option linter.unusedVariables false
set_option linter.defProp false
open Go.RowKit

def preOK (H : Heap) (π : Nat → Vw) (n0 i : Nat) (blk : Blk) : Prop :=
  match π i, blk with
  | .ro g b m _, .ro es => ∃ es', ((∃ T, hget H g = some (.row T es')) ∨ hget H g = some (.ro es') ∨ (∃ T, hget H g = some (.nst T es' none)) ∨ ∃ T, hget H g = some (.mix T es')) ∧ es = (es'.drop b).take m ∧ es.length = m
  | .same g, blk => hget H g = some (blk.map (mcv π)) ∧ blk.own = true ∧ wfb (wfc π n0) blk
  | .emp _ o, .ro es => o = false ∧ es = []
  | _, _ => False

structure Fits (H : Heap) (c : Con) (π : Nat → Vw) : Prop where
  args : ∀ x ∈ c.args, wfs (wfc π c.n0) x
  pre : ∀ i blk, hget c.pre i = some blk → i < c.n0 ∧ preOK H π c.n0 i blk
  uniq : ∀ i j g, i < c.n0 → j < c.n0 → i ≠ j → π i = .same g → (π j).blk ≠ some g
  dom : ∀ i g, i < c.n0 → (π i).blk = some g → ∃ blk, hget H g = some blk
  ro : ∀ i g b m, i < c.n0 → π i = .ro g b m true → ∃ es, hget H g = some (.ro es)
  own : ∀ f b, (f, some b) ∈ c.wr → b.own = true
  shr : ∀ f b, (f, some b) ∈ c.wr → b.shr = true → ∀ i g b m r, i < c.n0 → π i = .ro g b m r → ∃ es, hget H g = some (.ro es)
  len : c.n0 ≤ c.n

def rid (π : Nat → Vw) (n0 nx i : Nat) : Nat := if i < n0 then (match π i with | .same g => g | _ => 0) else nx + (i - n0)

def Con.effAt (c : Con) (π : Nat → Vw) (nx : Nat) : Eff :=
  ⟨c.r.map (rcv π c.n0 nx), (List.range c.n0).filterMap fun i => (π i).blk, c.wr.map fun p => (rid π c.n0 nx p.1, p.2.map (Blk.map (rcv π c.n0 nx))), nx + (c.n - c.n0)⟩

/-- The function can be called: it has a text. -/
def Callable (P : Program) (f : FuncId) : Prop := ∃ fn, P.funcs[f]? = some fn ∧ (fn.name == "runtime.NumGoroutine") = false ∧ fn.body.isNone = false

/-- The contract's effect at a call. -/
theorem ro_part {V : Nat → Prop} {ρ : Nat → At} {w : World} {g b m : Nat} {r : Bool} {es es' : List (List DC)} (h : (∃ T, Holds V ρ w (ρ g) (.row T es')) ∨ Holds V ρ w (ρ g) (.ro es') ∨ (∃ T, Holds V ρ w (ρ g) (.nst T es' none)) ∨ ∃ T, Holds V ρ w (ρ g) (.mix T es')) (he : es = (es'.drop b).take m) (hl : es.length = m)
    (V' : Nat → Prop) (ρ' : Nat → At) : Holds V' ρ' w (vwAt ρ (.ro g b m r)) (.ro es) := by
  have idx : ∀ i e, es[i]? = some e → es'[b + i]? = some e := by
    intro i e hi
    have hlt : i < m := by rw [← hl]; exact (List.getElem?_eq_some_iff.1 hi).1
    rw [he, List.getElem?_take, if_pos hlt, List.getElem?_drop] at hi
    exact hi
  have hmem : ∀ e ∈ es, e ∈ es' := fun e hee => by rw [he] at hee; exact List.mem_of_mem_drop (List.mem_of_mem_take hee)
  rcases h with ⟨T, ⟨hoff, hex⟩, hcm, hle, hss, hflat, hn, hrow⟩ | ⟨_, hcm, hle, hss, hne, hcell⟩ | ⟨T, q, n⟩ | ⟨T, ⟨hoff, hex⟩, hcm, hle, hss, hn, hrow⟩
  · have hml : m ≤ es'.length := by rw [← hl, he]; simp; omega
    refine ⟨fun h => h, by simp only [vwAt]; omega, by simp only [vwAt]; omega, fun e hee => hss e (hmem e hee), fun hn0 => ?_, fun i e j c bb hi hj hb => ?_⟩
    · cases hp : (ρ g).adr with
      | none =>
        have h0 := hn hp
        exfalso
        apply hn0
        have : es' = [] := List.eq_nil_of_length_eq_zero (by omega)
        rw [he, this]; simp
      | some bb => exact ⟨bb, hp, (hrow bb hp).1⟩
    · obtain ⟨hF, cur, q1, q2, q3⟩ := hrow bb hb
      have hi' := idx i e hi
      obtain ⟨hbi, hbe⟩ := List.getElem?_eq_some_iff.1 hi'
      obtain ⟨x, rfl, hx⟩ := hflat e (List.mem_of_getElem? hi') c (List.mem_of_getElem? hj)
      have := row_cells (w := w) (p := ρ g) q1 q3 hss hbi j x (by rw [hbe, List.getElem?_map, hj]; rfl)
      refine ⟨x, ?_, .v hx⟩
      simp only [vwAt, hoff]
      rw [← this]; congr 2
      rw [Nat.add_mul]; omega
  · have hml : m ≤ es'.length := by rw [← hl, he]; simp; omega
    refine ⟨fun h => h, by simp only [vwAt]; omega, by simp only [vwAt]; omega, fun e hee => hss e (hmem e hee), fun hn0 => ?_, fun i e j c bb hi hj hb => ?_⟩
    · refine hne fun e0 => hn0 ?_
      rw [he, e0]; simp
    · obtain ⟨u, q1, q2⟩ := hcell (b + i) e j c bb (idx i e hi) hj hb
      refine ⟨u, ?_, q2⟩
      simp only [vwAt]
      rw [← q1]; congr 2
      rw [Nat.add_mul]; omega
  · have hml : m ≤ es'.length := by rw [← hl, he]; simp; omega
    have hle := n.le
    have hcm := n.cap
    refine ⟨fun h => h, by simp only [vwAt]; omega, by simp only [vwAt]; omega, fun e hee => n.sz e (hmem e hee), fun hn0 => ?_, fun i e j c bb hi hj hb => ?_⟩
    · cases hp : (ρ g).adr with
      | none =>
        have h0 := n.nil hp
        exfalso
        apply hn0
        have : es' = [] := List.eq_nil_of_length_eq_zero (by omega)
        rw [he, this]; simp
      | some bb => exact ⟨bb, hp, (n.cells bb hp).1⟩
    · obtain ⟨u, q1, q2⟩ := n.rd (b + i) e j c bb (idx i e hi) hj hb
      refine ⟨u, ?_, q2⟩
      simp only [vwAt]
      rw [← q1]; congr 2
      rw [Nat.add_mul]; omega
  · have hml : m ≤ es'.length := by rw [← hl, he]; simp; omega
    refine ⟨fun h => h, by simp only [vwAt]; omega, by simp only [vwAt]; omega, fun e hee => hss e (hmem e hee), fun hn0 => ?_, fun i e j c bb hi hj hb => ?_⟩
    · cases hp : (ρ g).adr with
      | none =>
        have h0 := hn hp
        exfalso
        apply hn0
        have : es' = [] := List.eq_nil_of_length_eq_zero (by omega)
        rw [he, this]; simp
      | some bb => exact ⟨bb, hp, (hrow bb hp).1⟩
    · obtain ⟨hF, cur, q1, q2, q3⟩ := hrow bb hb
      obtain ⟨u, q4, q5⟩ := q3 (b + i) e j c (idx i e hi) hj
      refine ⟨u, ?_, q5.keep fun k hk => ⟨hk.1, rfl⟩⟩
      simp only [vwAt, hoff, Nat.zero_add]
      have e1 : b * (ρ g).sz + i * (ρ g).sz + j = (b + i) * (ρ g).sz + j := by rw [Nat.add_mul]
      rw [e1]
      simp [World.cell?, q1, q4]

theorem pre_mem {V : Nat → Prop} {ρ : Nat → At} {H : Heap} {w : World} {c : Con} {π : Nat → Vw} (hf : Fits H c π) (hm : Mem V ρ (looked H ((List.range c.n0).filterMap fun i => (π i).blk)) w) :
    Mem (· < c.n0) (fun i => vwAt ρ (π i)) (hget c.pre) w := by
  have look : ∀ i g b, i < c.n0 → (π i).blk = some g → hget H g = some b → looked H ((List.range c.n0).filterMap fun i => (π i).blk) g = some b := fun i g b hi hg hb =>
    looked_get (List.mem_filterMap.2 ⟨i, List.mem_range.2 hi, hg⟩) hb
  constructor
  · intro i blk hb
    obtain ⟨hi, hp⟩ := hf.pre i blk hb
    refine ⟨hi, ?_⟩
    show Holds _ _ w (vwAt ρ (π i)) blk ∧ ∀ b, (vwAt ρ (π i)).F b → _
    unfold preOK at hp
    cases hv : π i with
    | ro g b m r =>
      have hbk : (π i).blk = some g := by rw [hv]; rfl
      cases blk with
      | box T cs => simp [hv] at hp
      | gh S φ => simp [hv] at hp
      | mix T es => simp [hv] at hp
      | gx S φ => simp [hv] at hp
      | nst T es x => simp [hv] at hp
      | row T es => simp [hv] at hp
      | ro es =>
        rw [hv] at hp
        obtain ⟨es', h1, h2, h3⟩ := hp
        rcases h1 with ⟨T, h1⟩ | h1 | ⟨T, h1⟩ | ⟨T, h1⟩
        · obtain ⟨_, q1, q2⟩ := hm.dom g _ (look i g _ hi hbk h1)
          exact ⟨ro_part (.inl ⟨T, q1⟩) h2 h3 _ _, fun b' hb' => q2 b' hb'⟩
        · obtain ⟨_, q1, q2⟩ := hm.dom g _ (look i g _ hi hbk h1)
          exact ⟨ro_part (.inr (.inl q1)) h2 h3 _ _, fun b' hb' => q2 b' hb'⟩
        · obtain ⟨_, q1, q2⟩ := hm.dom g _ (look i g _ hi hbk h1)
          exact ⟨ro_part (.inr (.inr (.inl ⟨T, q1⟩))) h2 h3 _ _, fun b' hb' => q2 b' hb'⟩
        · obtain ⟨_, q1, q2⟩ := hm.dom g _ (look i g _ hi hbk h1)
          exact ⟨ro_part (.inr (.inr (.inr ⟨T, q1⟩))) h2 h3 _ _, fun b' hb' => q2 b' hb'⟩
    | same g =>
      have hbk : (π i).blk = some g := by rw [hv]; rfl
      have hp' : hget H g = some (blk.map (mcv π)) ∧ blk.own = true ∧ wfb (wfc π c.n0) blk := by
        rw [hv] at hp; exact hp
      obtain ⟨h1, h2, h3⟩ := hp'
      obtain ⟨_, q1, q2⟩ := hm.dom g _ (look i g _ hi hbk h1)
      refine ⟨?_, fun b' hb' => q2 b' hb'⟩
      cases blk with
      | box T cs =>
        obtain ⟨r0, b, vs, r1, r2, r3, r4⟩ := q1
        exact ⟨r0, b, vs, r1, r2, r3, r4.of_map fun x hx u hu => mcv_r (h3 x hx) hu⟩
      | row T es => exact q1
      | gh S φ => exact q1
      | mix T es => exact q1
      | gx S φ => exact q1
      | nst T es x =>
        obtain ⟨qq, n⟩ := q1
        exact ⟨qq, n.hmap fun y hy u hu => by subst hy; exact mcv_r h3 hu⟩
      | ro es => cases h2
    | emp s ow =>
      cases blk with
      | box T cs => simp [hv] at hp
      | gh S φ => simp [hv] at hp
      | mix T es => simp [hv] at hp
      | gx S φ => simp [hv] at hp
      | nst T es x => simp [hv] at hp
      | row T es => simp [hv] at hp
      | ro es =>
        rw [hv] at hp
        obtain ⟨hw, hp'⟩ : ow = false ∧ es = [] := hp
        subst hp' hw
        exact ⟨⟨(fun h => (by cases h)), Nat.zero_le _, Nat.zero_le _, fun e he => (by cases he), fun h => absurd rfl h, fun i e j c b hi => (by simp at hi)⟩, fun b hb => hb.elim⟩
  · intro i j blk blk' hne hb hb' b hF hF'
    obtain ⟨hi, hp⟩ := hf.pre i blk hb
    obtain ⟨hj, _⟩ := hf.pre j blk' hb'
    have hF : blk.exc (vwAt ρ (π i)) b := hF
    have hF' : (vwAt ρ (π j)).F b := hF'
    unfold preOK at hp
    cases hv : π i with
    | ro g b m r =>
      cases blk with
      | box T cs => simp [hv] at hp
      | gh S φ => simp [hv] at hp
      | mix T es => simp [hv] at hp
      | gx S φ => simp [hv] at hp
      | nst T es x => simp [hv] at hp
      | row T es => simp [hv] at hp
      | ro es => exact hF.elim
    | emp s ow =>
      cases blk with
      | box T cs => simp [hv] at hp
      | gh S φ => simp [hv] at hp
      | mix T es => simp [hv] at hp
      | gx S φ => simp [hv] at hp
      | nst T es x => simp [hv] at hp
      | row T es => simp [hv] at hp
      | ro es => exact hF.elim
    | same g =>
      have hp' : hget H g = some (blk.map (mcv π)) ∧ blk.own = true ∧ wfb (wfc π c.n0) blk := by
        rw [hv] at hp; exact hp
      obtain ⟨h1, h2, h3⟩ := hp'
      have hbk : (π i).blk = some g := by rw [hv]; rfl
      rw [hv] at hF
      have hu := hf.uniq i j g hi hj hne hv
      cases hπ : π j with
      | emp s ow => rw [hπ] at hF'; exact hF'.elim
      | ro g' b' m' r' =>
        have hbk' : (π j).blk = some g' := by rw [hπ]; rfl
        obtain ⟨blk2, hb2⟩ := hf.dom j g' hj hbk'
        rw [hπ] at hF'
        exact hm.sep g g' _ blk2 (fun e => hu (by rw [hbk', e])) (look i g _ hi hbk h1) (look j g' _ hj hbk' hb2) b (by rw [Blk.exc_map]; exact hF) hF'
      | same g' =>
        have hbk' : (π j).blk = some g' := by rw [hπ]; rfl
        obtain ⟨blk2, hb2⟩ := hf.dom j g' hj hbk'
        rw [hπ] at hF'
        exact hm.sep g g' _ blk2 (fun e => hu (by rw [hbk', e])) (look i g _ hi hbk h1) (look j g' _ hj hbk' hb2) b (by rw [Blk.exc_map]; exact hF) hF'

theorem pre_same {H : Heap} {c : Con} {π : Nat → Vw} (hf : Fits H c π) {i : Nat} {blk : Blk} (hb : hget c.pre i = some blk) (ho : blk.own = true) : ∃ g, π i = .same g ∧ hget H g = some (blk.map (mcv π)) := by
  obtain ⟨_, hp⟩ := hf.pre i blk hb
  unfold preOK at hp
  cases hv : π i with
  | ro g b m r => rw [hv] at hp; cases blk <;> first | exact False.elim hp | cases ho
  | emp s ow => rw [hv] at hp; cases blk <;> first | exact False.elim hp | cases ho
  | same g =>
    have hp' : hget H g = some (blk.map (mcv π)) ∧ blk.own = true ∧ wfb (wfc π c.n0) blk := by
      rw [hv] at hp; exact hp
    exact ⟨g, rfl, hp'.1⟩

theorem wr_same {H : Heap} {c : Con} {π : Nat → Vw} (hf : Fits H c π) (hfit : Fit c.pre c.n0 c.eff) {i : Nat} {b : Option Blk} (h : (i, b) ∈ c.wr) (hi : i < c.n0) : ∃ g blk, π i = .same g ∧ hget H g = some blk ∧ blk.own = true := by
  obtain ⟨_, blk, hb, ho⟩ := (hfit.key i b h).2 hi
  obtain ⟨_, hp⟩ := hf.pre i blk hb
  unfold preOK at hp
  cases hv : π i with
  | ro g b' m r =>
    cases blk with
    | box T cs => simp [hv] at hp
    | gh S φ => simp [hv] at hp
    | mix T es => simp [hv] at hp
    | gx S φ => simp [hv] at hp
    | nst T es x => simp [hv] at hp
    | row T es => simp [hv] at hp
    | ro es => cases ho
  | emp s ow =>
    cases blk with
    | box T cs => simp [hv] at hp
    | gh S φ => simp [hv] at hp
    | mix T es => simp [hv] at hp
    | gx S φ => simp [hv] at hp
    | nst T es x => simp [hv] at hp
    | row T es => simp [hv] at hp
    | ro es => cases ho
  | same g =>
    have hp' : hget H g = some (blk.map (mcv π)) ∧ blk.own = true ∧ wfb (wfc π c.n0) blk := by
      rw [hv] at hp; exact hp
    exact ⟨g, _, rfl, hp'.1, by rw [Blk.own_map]; exact hp'.2.1⟩

theorem hget_map_inv (r : Nat → Nat) (g : Blk → Blk) : ∀ (l : Heap) (f : Nat) (blk : Blk), hget (l.map fun p => (r p.1, p.2.map g)) f = some blk → ∃ i b, (i, some b) ∈ l ∧ r i = f ∧ blk = g b
  | [], f, blk, h => by simp [hget] at h
  | (j, b) :: l, f, blk, h => by
    simp only [List.map_cons, hget] at h
    split at h
    · rename_i e
      obtain ⟨b', h1, h2⟩ := Option.map_eq_some_iff.1 h
      exact ⟨j, b', by simp [h1], e.symm, h2.symm⟩
    · obtain ⟨i, b', h1, h2⟩ := hget_map_inv r g l f blk h
      exact ⟨i, b', by simp [h1], h2⟩

theorem hget_of_mem : ∀ {l : Heap} {f : Nat} {x : Option Blk}, (l.map (·.1)).Nodup → (f, x) ∈ l → hget l f = x
  | (g, y) :: l, f, x, hn, h => by
    simp only [List.map_cons, List.nodup_cons] at hn
    simp only [List.mem_cons, Prod.mk.injEq] at h
    simp only [hget]
    rcases h with ⟨rfl, rfl⟩ | h
    · simp
    · rw [if_neg (fun e => hn.1 (by subst e; exact List.mem_map.2 ⟨_, h, rfl⟩))]
      exact hget_of_mem hn.2 h

end Go.Proofs.Ytfnhchcgieeedaa

namespace Go.Proofs.Ytfnhchcgieeedaa
set_option linter.unusedSimpArgs false
set_option linter.unusedVariables false
set_option linter.defProp false
open Go.RowKit

def bytK (x : UInt8) : List DC := [.v (.int .u8 (x.toNat : Int))]
abbrev rowB (l : List UInt8) : List (List DC) := l.map bytK
theorem bytK_inj {x y : UInt8} (h : bytK x = bytK y) : x = y := by
  simp only [bytK, List.cons.injEq, DC.v.injEq, Value.int.injEq, and_true, true_and] at h
  exact UInt8.toNat_inj.1 (by omega)
theorem rowB_inj {l m : List UInt8} : (l.map bytK = m.map bytK) = (l = m) := by
  apply propext
  exact ⟨fun h => (List.map_inj_right fun _ _ => bytK_inj).1 h, fun h => by rw [h]⟩
def txt (l : List UInt8) : ByteArray := ⟨l.toArray⟩

/-- string(b) -/
def strK (P : Program) (o : Oper) (ev : Operand → SV) (H : Heap) (nx : Nat) (K : Eff → Prop) : Prop :=
  match o.op with
  | .convert src dst x => (∃ ts e te, tiOf P src = some ts ∧ ts.d = .slice e ∧ tiOf P e = some te ∧ te.d = .int .u8) ∧ (∃ td, tiOf P dst = some td ∧ td.d = .str) ∧
    match ev x with
    | .c .nil => K ⟨.c (.v (.string (txt []))), [], [], nx⟩
    | .c (.sl g sz b m) => match srcOf H (.sl g sz b m) with
      | some (.blk _ bl es) => sz = 1 ∧ ∃ l : List UInt8, es = rowB l ∧ l.length = m ∧ K ⟨.c (.v (.string (txt l))), [g], [], nx⟩
      | _ => False
    | _ => False
  | _ => False

theorem rowB_flat (l : List UInt8) : ∀ e ∈ rowB l, ∀ c ∈ e, DC.flat c := by
  intro e he c hc
  simp only [List.mem_map] at he
  obtain ⟨x, _, rfl⟩ := he
  simp [bytK] at hc; subst hc
  exact ⟨_, rfl, rfl⟩

theorem rowB_flatE (l : List UInt8) : flatE (rowB l) = l.map fun x => .int .u8 (x.toNat : Int) := by
  unfold flatE
  rw [List.flatMap_map]
  induction l with
  | nil => rfl
  | cons x l ih => simp [DC.val, bytK] at ih ⊢; exact ih

theorem str_ok {P : Program} {o : Oper} {ev : Operand → SV} {H : Heap} {nx : Nat} {K : Eff → Prop} (h : strK P o ev H nx K) : ∃ e, Fit H nx e ∧ EffOK P o ev H nx e ∧ K e := by
  unfold strK at h
  split at h
  · rename_i src dst x ho
    obtain ⟨⟨ts, e, te, h1, h2, h3, h4⟩, ⟨td, h5, h6⟩, h7⟩ := h
    obtain ⟨i1, d1, z1, a1, a2, _, rfl⟩ := tiOf_inv h1
    obtain ⟨i2, d2, z2, b1, b2, _, rfl⟩ := tiOf_inv h3
    obtain ⟨i3, d3, z3, c1, c2, _, rfl⟩ := tiOf_inv h5
    obtain rfl := td_slice h2
    obtain rfl := td_int h4
    obtain rfl := td_str h6
    split at h7
    · rename_i hx
      refine ⟨_, ⟨Nat.le_refl _, fun f hf => (by cases hf), fun f b hf => (by cases hf), by simp⟩, EffOK.of_read fun V ρ a w hev hm => ?_, h7⟩
      have hq := hev x
      rw [hx] at hq
      have hq' : a.eval x = .slice none 0 0 := hq
      refine ⟨.string (txt []), ⟨rfl, rfl⟩, ?_⟩
      have : (convert src dst (.slice none 0 0)).run P w = .ok (.string (txt [])) w := by
        rw [run_convert_bytes_string w src dst e none 0 0 a2 b2 c2]
        simp [Conv.bytesToString]
        rfl
      simp only [execOp, ho, hq', Sem.run_bind, this]; rfl
    · rename_i g sz b m hx
      split at h7
      · rename_i f' bl es hsrc
        obtain ⟨rfl, l, rfl, hl, hK⟩ := h7
        have hgH : ∃ blk, hget H g = some blk := by
          unfold srcOf at hsrc
          cases hH : hget H g with
          | none => simp [hH] at hsrc
          | some blk => exact ⟨blk, rfl⟩
        obtain ⟨blk, hblk⟩ := hgH
        refine ⟨_, fit_read hblk, EffOK.of_read fun V ρ a w hev hm => ?_, hK⟩
        have hq := hev x
        rw [hx] at hq
        have hfl : isFlat bl (rowB l) := by
          unfold isFlat
          split
          · trivial
          · exact rowB_flat l
        have hlen : (rowB l).length = m := by simpa using hl
        obtain ⟨r1, r2, ad, cp, r3, r4, r5⟩ := src_cells hm (by simp) hsrc hlen hfl hq
        refine ⟨.string (txt l), ⟨rfl, rfl⟩, ?_⟩
        have : (convert src dst (a.eval x)).run P w = .ok (.string (txt l)) w := by
          rw [r3]
          cases ad with
          | none =>
            obtain ⟨h0, _⟩ := r4 rfl
            have : l = [] := List.eq_nil_of_length_eq_zero (by omega)
            subst this
            rw [run_convert_bytes_string w src dst e none m cp a2 b2 c2]
            simp [Conv.bytesToString]
            rfl
          | some ad =>
            rw [← hl]
            refine run_convert_bytes_back w src dst e ad cp l a2 b2 c2 fun j hj => ?_
            obtain ⟨ad', q1, q2⟩ := r5 (by omega)
            cases q1
            refine q2 j _ ?_
            rw [rowB_flatE]
            simp [hj]
        simp only [execOp, ho, Sem.run_bind, this]; rfl
      · exact h7.elim
    · exact h7.elim
  · exact h.elim

end Go.Proofs.Ytfnhchcgieeedaa

namespace Go.Proofs.Ytfnhchcgieeedaa
set_option linter.unusedSimpArgs false
set_option linter.unusedVariables false
set_option linter.defProp false
open Go.RowKit

theorem All2.map_same {α β γ : Type} {R : β → γ → Prop} {f : α → β} {g : α → γ} (h : ∀ x, R (f x) (g x)) : ∀ l : List α, All2 R (l.map f) (l.map g)
  | [] => trivial
  | x :: l => ⟨h x, All2.map_same h l⟩

theorem call_fit0 {H : Heap} {nx : Nat} {c : Con} {π : Nat → Vw} (hB : Bnd H nx) (hf : Fits H c π) (hfit : Fit c.pre c.n0 c.eff) : Fit H nx (c.effAt π nx) := by
  have hs : ∀ i b, (i, b) ∈ c.wr → i < c.n0 → ∃ g blk, π i = .same g ∧ rid π c.n0 nx i = g ∧ hget H g = some blk ∧ blk.own = true ∧ g < nx := by
    intro i b h hi
    obtain ⟨g, blk, h1, h2, h3⟩ := wr_same hf hfit h hi
    exact ⟨g, blk, h1, by unfold rid; rw [if_pos hi, h1], h2, h3, hB g blk h2⟩
  refine ⟨Nat.le_add_right _ _, fun g hg => ?_, fun g b hb => ?_, ?_⟩
  · obtain ⟨i, hi, hg⟩ := List.mem_filterMap.1 hg
    exact hf.dom i g (List.mem_range.1 hi) hg
  · obtain ⟨⟨i, b'⟩, hi, he⟩ := List.mem_map.1 hb
    simp only [Prod.mk.injEq] at he
    obtain ⟨rfl, _⟩ := he
    by_cases hlt : i < c.n0
    · obtain ⟨g, blk, h1, h2, h3, h4, h5⟩ := hs i b' hi hlt
      rw [h2]
      exact ⟨Nat.lt_of_lt_of_le h5 (Nat.le_add_right _ _), fun _ => ⟨List.mem_filterMap.2 ⟨i, List.mem_range.2 hlt, by rw [h1]; rfl⟩, blk, h3, h4⟩⟩
    · have := (hfit.key i b' hi).1
      have e : c.eff.nx = c.n := rfl
      unfold rid
      rw [if_neg hlt]
      simp only [Con.effAt]
      exact ⟨by omega, fun h => by omega⟩
  · have hn := hfit.nodup
    have : (c.effAt π nx).wr.map (·.1) = c.wr.map fun p => rid π c.n0 nx p.1 := by simp [Con.effAt]
    rw [this]
    unfold List.Nodup at hn ⊢
    rw [List.pairwise_map] at hn ⊢
    refine List.Pairwise.imp_of_mem ?_ hn
    intro p q hp hq hne he
    obtain ⟨i, b⟩ := p
    obtain ⟨j, b'⟩ := q
    simp only at hne he
    by_cases hi : i < c.n0
    · obtain ⟨g, blk, h1, h2, h3, h4, h5⟩ := hs i b hp hi
      by_cases hj : j < c.n0
      · obtain ⟨g', blk', h1', h2', _⟩ := hs j b' hq hj
        exact hf.uniq i j g hi hj hne h1 (by rw [h1', ← h2', ← he, h2]; rfl)
      · rw [h2] at he
        unfold rid at he
        rw [if_neg hj] at he
        omega
    · by_cases hj : j < c.n0
      · obtain ⟨g', blk', h1', h2', h3', h4', h5'⟩ := hs j b' hq hj
        rw [h2'] at he
        unfold rid at he
        rw [if_neg hi] at he
        omega
      · unfold rid at he
        rw [if_neg hi, if_neg hj] at he
        omega

theorem call_fit {P : Program} {H : Heap} {nx : Nat} {c : Con} {π : Nat → Vw} {f : FuncId} (hB : Bnd H nx) (hf : Fits H c π) (hfn : FnR P f c) : Fit H nx (c.effAt π nx) := call_fit0 hB hf hfn.1

/-- What a callee has done, as the caller sees it. -/
theorem call_at {V : Nat → Prop} {ρ ρ' : Nat → At} {H : Heap} {nx : Nat} {c : Con} {π : Nat → Vw} {w w' : World} {u : Value} (hV : ∀ f, nx ≤ f → f < nx + (c.n - c.n0) → ¬ V f) (hB : Bnd H nx) (hf : Fits H c π) (hfit : Fit c.pre c.n0 c.eff)
    (hm : Mem V ρ (looked H ((List.range c.n0).filterMap fun i => (π i).blk)) w) (hd : Done (· < c.n0) (fun i => vwAt ρ (π i)) c.pre c.n0 w c.eff u ρ' w') :
    Done V ρ H nx w (c.effAt π nx) u (retA π ρ ρ' c.n0 nx (nx + (c.n - c.n0))) w' := by
  have hrn : (c.effAt π nx).nx = nx + (c.n - c.n0) := rfl
  have hrd : (c.effAt π nx).rd = (List.range c.n0).filterMap fun i => (π i).blk := rfl
  have hwr : (c.effAt π nx).wr = c.wr.map fun p => (rid π c.n0 nx p.1, p.2.map (Blk.map (rcv π c.n0 nx))) := rfl
  have hV0 : ∀ i g, i < c.n0 → (π i).blk = some g → V g ∧ g < nx := by
    intro i g hi hg
    obtain ⟨blk, hb⟩ := hf.dom i g hi hg
    exact ⟨(hm.dom g blk (looked_get (List.mem_filterMap.2 ⟨i, List.mem_range.2 hi, hg⟩) hb)).1, hB g blk hb⟩
  have hπ : ∀ i g, i < c.n0 → π i = .same g → V g ∧ (g < nx ∨ nx + (c.n - c.n0) ≤ g) := fun i g hi hp => by
    obtain ⟨h1, h2⟩ := hV0 i g hi (by rw [hp]; rfl)
    exact ⟨h1, .inl h2⟩
  have hro : ∀ i g b m, i < c.n0 → π i = .ro g b m true → (V g ∧ (g < nx ∨ nx + (c.n - c.n0) ≤ g)) ∧ ¬ (ρ g).ex := fun i g b m hi hp => by
    obtain ⟨es, hes⟩ := hf.ro i g b m hi hp
    obtain ⟨q1, q2, _⟩ := hm.dom g _ (looked_get (List.mem_filterMap.2 ⟨i, List.mem_range.2 hi, by rw [hp]; rfl⟩) hes)
    exact ⟨⟨q1, .inl (hB g _ hes)⟩, q2.1⟩
  have hsame : ∀ i, i < c.n0 → (ρ' i).nf = (vwAt ρ (π i)).nf := fun i hi => (hd.same i (.inl hi)).1
  have huq : ∀ i j g, i < c.n0 → j < c.n0 → π i = .same g → π j = .same g → i = j := fun i j g hi hj h1 h2 => by
    by_cases e : i = j
    · exact e
    · exact absurd (by rw [h2]; rfl) (hf.uniq i j g hi hj e h1)
  -- the places of changed and new blocks
  have hrid : ∀ i b, (i, b) ∈ c.wr → newV (· < c.n0) c.n0 c.n i → newV V nx (nx + (c.n - c.n0)) (rid π c.n0 nx i) ∧ retA π ρ ρ' c.n0 nx (nx + (c.n - c.n0)) (rid π c.n0 nx i) = ρ' i := by
    intro i b hib hv
    by_cases hi : i < c.n0
    · obtain ⟨g, blk, h1, h2, h3⟩ := wr_same hf hfit hib hi
      obtain ⟨q1, q2⟩ := hV0 i g hi (by rw [h1]; rfl)
      have e : rid π c.n0 nx i = g := by unfold rid; rw [if_pos hi, h1]
      rw [e]
      exact ⟨.inl q1, retA_same huq hi h1 (.inl q2)⟩
    · have e : rid π c.n0 nx i = nx + (i - c.n0) := by unfold rid; rw [if_neg hi]
      rw [e]
      rcases hv with hv | hv
      · exact absurd hv hi
      · refine ⟨.inr (by omega), ?_⟩
        unfold retA
        rw [if_pos (by omega)]
        congr 1; omega
  have hdom : ∀ i b, (i, some b) ∈ c.wr → hget c.wr i = some b := fun i b h => hget_of_mem hfit.nodup h
  refine ⟨fun g hg => ?_, ?_, ⟨fun g blk hb => ?_, fun g g' blk blk' hne hb hb' b' hF hF' => ?_⟩, fun g blk hb b' hF => ?_, hd.os, hd.tape, hd.output, hd.size, fun k hk hn => hd.block k hk fun i x hix hi hF => ?_⟩
  · rw [hrn] at hg
    refine ⟨retA_nf hsame hg, fun hk => ?_⟩
    unfold retA
    rw [if_neg (by omega)]
    split
    · rename_i h
      obtain ⟨q1, q2⟩ := h.choose_spec
      have hnk : h.choose ∉ c.eff.wr.map (·.1) := fun hk2 => hk (by
        obtain ⟨⟨i, b⟩, r1, r2⟩ := List.mem_map.1 hk2
        simp only at r2
        rw [hwr]
        refine List.mem_map.2 ⟨_, List.mem_map.2 ⟨_, r1, rfl⟩, ?_⟩
        simp only
        rw [r2]
        unfold rid
        rw [if_pos q1, q2])
      rw [(hd.same _ (.inl q1)).2 hnk, q2]; rfl
    · rfl
  · exact rsv_r rfl hsame huq hπ hro hd.val
  · rw [hwr] at hb
    obtain ⟨i, b, h1, rfl, rfl⟩ := hget_map_inv _ _ _ _ _ hb
    obtain ⟨q1, q2, q3⟩ := hd.mem.dom i b (hdom i b h1)
    obtain ⟨r1, r2⟩ := hrid i _ h1 q1
    refine ⟨r1, ?_, by rw [r2]; exact q3⟩
    rw [r2]
    cases b with
    | box T cs =>
      obtain ⟨s0, b, vs, s1, s2, s3, s4⟩ := q2
      exact ⟨s0, b, vs, s1, s2, s3, s4.to_map fun x u hu => rcv_r rfl hsame huq hπ hro hu⟩
    | row T es => exact q2
    | ro es => exact q2
    | gh S φ => exact q2
    | mix T es => exact q2
    | gx S φ => exact q2
    | nst T es x => obtain ⟨qq, n⟩ := q2; exact ⟨qq, n.tmap fun y u hu => rcv_r rfl hsame huq hπ hro hu⟩
  · rw [hwr] at hb hb'
    obtain ⟨i, b, h1, rfl, rfl⟩ := hget_map_inv _ _ _ _ _ hb
    obtain ⟨j, b2, h2, rfl, rfl⟩ := hget_map_inv _ _ _ _ _ hb'
    have hij : i ≠ j := fun e => hne (by rw [e])
    rw [(hrid i _ h1 (hd.mem.dom i b (hdom i b h1)).1).2] at hF
    rw [(hrid j _ h2 (hd.mem.dom j b2 (hdom j b2 h2)).1).2] at hF'
    exact hd.mem.sep i j b b2 hij (hdom i b h1) (hdom j b2 h2) b' (by rw [← Blk.exc_map (rcv π c.n0 nx)]; exact hF) hF'
  · rw [hwr] at hb
    obtain ⟨i, b, h1, rfl, rfl⟩ := hget_map_inv _ _ _ _ _ hb
    rw [(hrid i _ h1 (hd.mem.dom i b (hdom i b h1)).1).2] at hF
    rcases hd.foot i b (hdom i b h1) b' hF with q | ⟨j, x, q1, q2, blk3, q3, q4⟩ | ⟨q1, g2, q2, blk2, q3, q4, q5⟩
    · exact .inl q
    · obtain ⟨g, h3, h4⟩ := pre_same hf q3 (exc_own q4)
      have e : rid π c.n0 nx j = g := by unfold rid; rw [if_pos q2, h3]
      have q4' : blk3.exc (vwAt ρ (π j)) b' := q4
      rw [h3] at q4'
      exact .inr (.inl ⟨rid π c.n0 nx j, x.map (Blk.map (rcv π c.n0 nx)), by rw [hwr]; exact List.mem_map.2 ⟨_, q1, rfl⟩, by rw [e]; exact hB g _ h4, by rw [e]; exact ⟨_, h4, by rw [Blk.exc_map]; exact q4'⟩⟩)
    · have hsh := exc_shr (hf.own i b h1) hF q1
      obtain ⟨hi2, _⟩ := hf.pre g2 blk2 q3
      have q4' : (vwAt ρ (π g2)).F b' := q4
      have q5' : ¬ blk2.exc (vwAt ρ (π g2)) b' := q5
      refine .inr (.inr ⟨by rw [(hrid i _ h1 (hd.mem.dom i b (hdom i b h1)).1).2, Blk.exc_map]; exact q1, ?_⟩)
      rw [hrd]
      cases hv : π g2 with
      | emp s o => rw [hv] at q4'; exact q4'.elim
      | ro g b2 m r =>
        rw [hv] at q4'
        obtain ⟨es, hes⟩ := hf.shr i b h1 hsh g2 g b2 m r hi2 hv
        exact ⟨g, List.mem_filterMap.2 ⟨g2, List.mem_range.2 hi2, by rw [hv]; rfl⟩, _, hes, q4', id⟩
      | same g =>
        rw [hv] at q4' q5'
        by_cases ho : blk2.own = true
        · obtain ⟨g', h3, h4⟩ := pre_same hf q3 ho
          rw [hv] at h3; cases h3
          exact ⟨g, List.mem_filterMap.2 ⟨g2, List.mem_range.2 hi2, by rw [hv]; rfl⟩, _, h4, q4', by rw [Blk.exc_map]; exact q5'⟩
        · exfalso
          have hp := (hf.pre g2 blk2 q3).2
          unfold preOK at hp
          rw [hv] at hp
          have hp' : hget H g = some (blk2.map (mcv π)) ∧ blk2.own = true ∧ wfb (wfc π c.n0) blk2 := hp
          exact ho hp'.2.1
  · obtain ⟨blk3, q3, q4⟩ := hF
    obtain ⟨g, h3, h4⟩ := pre_same hf q3 (exc_own q4)
    have e : rid π c.n0 nx i = g := by unfold rid; rw [if_pos hi, h3]
    have q4' : blk3.exc (vwAt ρ (π i)) k := q4
    rw [h3] at q4'
    exact hn g (x.map (Blk.map (rcv π c.n0 nx))) (by rw [hwr]; exact List.mem_map.2 ⟨_, hix, by simp [e]⟩) (hB g _ h4) ⟨_, h4, by rw [Blk.exc_map]; exact q4'⟩

theorem call_eff {P : Program} {o : Oper} {ev : Operand → SV} {H : Heap} {nx : Nat} {c : Con} {π : Nat → Vw} {f : FuncId} {cl : Call} (ho : o.op = .call cl) (hcl : cl.callee = .value (.func f)) (hargs : cl.args.toList.map ev = c.args.map (·.map (mcv π)))
    (hB : Bnd H nx) (hf : Fits H c π) (hfn : FnR P f c) (hcal : Callable P f) : EffOK P o ev H nx (c.effAt π nx) := by
  intro V ρ a w K Q hV hev hm hK
  have hfit := hfn.1
  have hrd : (c.effAt π nx).rd = (List.range c.n0).filterMap fun i => (π i).blk := rfl
  rw [hrd] at hm
  have hvs : All2 (SVr V ρ) (cl.args.toList.map ev) (cl.args.toList.map a.eval) := All2.map_same (fun x => hev x) _
  rw [hargs] at hvs
  have hvs' : All2 (SVr (· < c.n0) fun i => vwAt ρ (π i)) c.args (cl.args.toList.map a.eval) := hvs.of_map fun x hx u hu => msv_r (hf.args x hx) hu
  have hcalls := hfn.2 _ _ w hvs' (pre_mem hf hm)
  have hexec : (execOp a.eval o).run P w = .ok (.enter f (cl.args.toList.map a.eval).toArray) w := by
    obtain ⟨fn, h1, h2, h3⟩ := hcal
    unfold execOp
    simp only [ho, resolve, hcl, Act.eval, Deferred.ofValue, Sem.run_bind, Sem.run_pure, Result.andThen_ok, invoke, callFunc, run_program, h1, h2, h3]
    have e1 : cl.args.map a.eval = (cl.args.toList.map a.eval).toArray := by apply Array.ext'; simp
    simp [e1]
  unfold Oper.wp
  rw [hexec, Oper.upon_enter]
  refine hcalls.mono fun e w' he => ?_
  obtain ⟨u, ρ', rfl, hd⟩ := he
  exact hK u (retA π ρ ρ' c.n0 nx (nx + (c.n - c.n0))) w' (call_at hV hB hf hfit hm hd)

/-- A function that answers by one of a family of contracts. -/
def FnF (P : Program) (f : FuncId) (n0 : Nat) (pre : Heap) (args : List SV) {I : Type} (r : I → SV) (wr : I → Heap) (n : Nat) : Prop :=
  (∀ i, Fit pre n0 (Con.mk n0 pre args (r i) (wr i) n).eff) ∧ ∀ (ρ : Nat → At) (vs : List Value) (w : World), All2 (SVr (· < n0) ρ) args vs → Mem (· < n0) ρ (hget pre) w →
    Calls P f vs.toArray w fun e w' => ∃ i u ρ', e = .returned u ∧ Done (· < n0) ρ pre n0 w (Con.mk n0 pre args (r i) (wr i) n).eff u ρ' w'

theorem call_fam {P : Program} {o : Oper} {ev : Operand → SV} {H : Heap} {nx : Nat} {n0 n : Nat} {pre : Heap} {args : List SV} {I : Type} {r : I → SV} {wr : I → Heap} {π : Nat → Vw} {f : FuncId} {cl : Call} (ho : o.op = .call cl) (hcl : cl.callee = .value (.func f)) (hargs : cl.args.toList.map ev = args.map (·.map (mcv π)))
    (hB : Bnd H nx) (i0 : I) (hf : ∀ i, Fits H (Con.mk n0 pre args (r i) (wr i) n) π) (hfn : FnF P f n0 pre args r wr n) (hcal : Callable P f) :
    EffsOK P o ev H nx ((List.range n0).filterMap fun i => (π i).blk) fun i => (Con.mk n0 pre args (r i) (wr i) n).effAt π nx := by
  intro V ρ a w K Q hV hev hm hK
  have hvs : All2 (SVr V ρ) (cl.args.toList.map ev) (cl.args.toList.map a.eval) := All2.map_same (fun x => hev x) _
  rw [hargs] at hvs
  have hvs' : All2 (SVr (· < n0) fun i => vwAt ρ (π i)) args (cl.args.toList.map a.eval) := hvs.of_map fun x hx u hu => msv_r ((hf i0).args x hx) hu
  have hcalls := hfn.2 _ _ w hvs' (pre_mem (hf i0) hm)
  have hexec : (execOp a.eval o).run P w = .ok (.enter f (cl.args.toList.map a.eval).toArray) w := by
    obtain ⟨fn, h1, h2, h3⟩ := hcal
    unfold execOp
    simp only [ho, resolve, hcl, Act.eval, Deferred.ofValue, Sem.run_bind, Sem.run_pure, Result.andThen_ok, invoke, callFunc, run_program, h1, h2, h3]
    have e1 : cl.args.map a.eval = (cl.args.toList.map a.eval).toArray := by apply Array.ext'; simp
    simp [e1]
  unfold Oper.wp
  rw [hexec, Oper.upon_enter]
  refine hcalls.mono fun e w' he => ?_
  obtain ⟨i, u, ρ', rfl, hd⟩ := he
  exact hK i u _ w' (call_at (c := Con.mk n0 pre args (r i) (wr i) n) (fun f h1 _ => hV f h1) hB (hf i) (hfn.1 i) hm hd)


/-- Operations whose effects are shown by hand. -/
def isEsc : Op → Bool
  | .makeMap _ _ => true
  | .range _ _ => true
  | .next _ _ => true
  | .entry _ => true
  | _ => false

def escK (P : Program) (o : Oper) (ev : Operand → SV) (H : Heap) (nx : Nat) (K : Eff → Prop) : Prop :=
  ∃ (I : Type) (e : I → Eff) (rd : List Nat), (∀ i, Fit H nx (e i)) ∧ EffsOK P o ev H nx rd e ∧ ∀ i, K (e i)

/-- The operation has one effect. -/
def oneK (P : Program) (o : Oper) (ev : Operand → SV) (H : Heap) (nx : Nat) (K : Eff → Prop) : Prop := ∃ e : Eff, Fit H nx e ∧ EffOK P o ev H nx e ∧ K e

/-- The operations that a state can be carried through. -/
def stepK (P : Program) (ck : Bool) (o : Oper) (ev : Operand → SV) (H : Heap) (nx : Nat) (K : Eff → Prop) : Prop :=
  match o.op with
  | .alloc _ => memK P o ev H nx K
  | .box _ _ => memK P o ev H nx K
  | .load _ _ => memK P o ev H nx K
  | .store _ _ _ => memK P o ev H nx K
  | .buildSlice _ _ _ => memK P o ev H nx K
  | .makeSlice _ _ _ => memK P o ev H nx K
  | .call cl => match cl.callee with
    | .value (.func f) => ∃ (c : Con) (π : Nat → Vw), FnR P f c ∧ Callable P f ∧ cl.args.toList.map ev = c.args.map (·.map (mcv π)) ∧ Fits H c π ∧ K (c.effAt π nx)
    | .value (.tmp _) => oneK P o ev H nx K
    | .builtin .append => appK P o ev H nx K
    | .builtin .delete => oneK P o ev H nx K
    | .builtin .len => match cl.args.toList.map ev with
      | [.c (.v (.map (some _)))] => oneK P o ev H nx K
      | _ => pureK P ck o ev fun r => K ⟨r, [], [], nx⟩
    | _ => pureK P ck o ev fun r => K ⟨r, [], [], nx⟩
  | .convert _ _ x => match ev x with
    | .c (.sl _ _ _ _) => strK P o ev H nx K
    | .c .nil => strK P o ev H nx K
    | _ => pureK P ck o ev fun r => K ⟨r, [], [], nx⟩
  | .makeMap _ _ => escK P o ev H nx K
  | .lookup _ _ _ _ => oneK P o ev H nx K
  | .mapUpdate _ _ _ _ => oneK P o ev H nx K
  | .range _ _ => escK P o ev H nx K
  | .next _ _ => escK P o ev H nx K
  | .entry _ => escK P o ev H nx K
  | _ => pureK P ck o ev fun r => K ⟨r, [], [], nx⟩

theorem stepK_ok {P : Program} {ck : Bool} {o : Oper} {ev : Operand → SV} {H : Heap} {nx : Nat} {K : Eff → Prop} (hB : Bnd H nx) (hne : isEsc o.op = false) (h : stepK P ck o ev H nx K) : ∃ e, Fit H nx e ∧ EffOK P o ev H nx e ∧ K e := by
  have hp : pureK P ck o ev (fun r => K ⟨r, [], [], nx⟩) → ∃ e, Fit H nx e ∧ EffOK P o ev H nx e ∧ K e := fun h => by
    obtain ⟨r, h1, h2⟩ := pureK_ok h
    exact ⟨_, fit_pure H nx r, h1.eff H nx, h2⟩
  unfold stepK at h
  split at h
  · rename_i e ho; exact new_ok (.inl ⟨_, ho⟩) h
  · rename_i e x ho; exact new_ok (.inr ⟨_, _, ho⟩) h
  · rename_i t x ho; exact load_ok ho hB h
  · rename_i t x y ho; exact store_ok ho hB h
  · rename_i t n ps ho; exact buildSlice_ok ho hB h
  · rename_i t l c ho; exact makeSlice_ok ho h
  · rename_i cl ho
    split at h
    · rename_i f hcl
      obtain ⟨c, π, h1, h2, h3, h4, h5⟩ := h
      exact ⟨_, call_fit hB h4 h1, call_eff ho hcl h3 hB h4 h1 h2, h5⟩
    · exact h
    · exact app_ok hB h
    · exact h
    · split at h
      · exact h
      · exact hp h
    · exact hp h
  · split at h
    · exact str_ok h
    · exact str_ok h
    · exact hp h
  · rename_i ho; rw [ho] at hne; cases hne
  · exact h
  · exact h
  · rename_i ho; rw [ho] at hne; cases hne
  · rename_i ho; rw [ho] at hne; cases hne
  · rename_i ho; rw [ho] at hne; cases hne
  · exact hp h

theorem stepK_fam {P : Program} {ck : Bool} {o : Oper} {ev : Operand → SV} {H : Heap} {nx : Nat} {K : Eff → Prop} (hB : Bnd H nx) (h : stepK P ck o ev H nx K) : escK P o ev H nx K := by
  cases hne : isEsc o.op with
  | false =>
    obtain ⟨e, h1, h2, h3⟩ := stepK_ok hB hne h
    exact ⟨Unit, fun _ => e, e.rd, fun _ => h1, h2.fam, fun _ => h3⟩
  | true =>
    unfold stepK at h
    unfold isEsc at hne
    split at hne
    all_goals first
      | (rename_i ho; rw [ho] at h; exact h)
      | (cases hne)

end Go.Proofs.Ytfnhchcgieeedaa

namespace Go.Proofs.Ytfnhchcgieeedaa
set_option linter.unusedSimpArgs false
set_option linter.unusedVariables false
set_option linter.defProp false
open Go.RowKit

/-- The state holds of a frame and a world, under some places of its blocks. -/
structure Ctx where
  B : Nat
  T : Nat → Prop
  R : Nat → Prop
  w0 : World
  n0 : Nat
  ρ0 : Nat → At

def Sat (X : Ctx) (sl : List SV) (H : Heap) (nx : Nat) (a : Act) (w : World) : Prop :=
  ∃ V ρ, (∀ f, V f → f < nx) ∧ (X.n0 ≤ nx ∧ ∀ f, f < X.n0 → (ρ f).nf = (X.ρ0 f).nf) ∧ St V ρ sl H X.B X.T X.R X.w0 a w

theorem St.bnd {V : Nat → Prop} {ρ : Nat → At} {sl : List SV} {H : Heap} {B : Nat} {T R : Nat → Prop} {w0 : World} {a : Act} {w : World} {nx : Nat} (h : St V ρ sl H B T R w0 a w) (hV : ∀ f, V f → f < nx) : Bnd H nx :=
  fun f blk hb => hV f (h.mem.dom f blk hb).1

section
variable {X : Ctx}

theorem Sat.step {P : Program} {o : Oper} {sl : List SV} {H : Heap} {nx : Nat} {ck : Bool} {a : Act} {w : World} {K : Act → World → Prop} {Q : Exit → Act → World → Prop} {KS : Eff → Prop} (h : Sat X sl H nx a w) (hk : stepK P ck o (evS sl) H nx KS ∨ (Bnd H nx → escK P o (evS sl) H nx KS))
    (hK : ∀ e, KS e → ∀ a' w', Sat X (putS sl o.dst e.r) (hputs H e.wr) e.nx a' w' → K a' w') : o.wp P a w K Q := by
  obtain ⟨V, ρ, hV, ⟨hn, h0⟩, hst⟩ := h
  obtain ⟨I, e, rd, h1, h2, h3⟩ := hk.elim (stepK_fam (hst.bnd hV)) fun h => h (hst.bnd hV)
  refine hst.stepF hV h1 h2 fun i a' w' ρ' hst' hs => hK (e i) (h3 i) a' w' ⟨_, ρ', fun f hf => ?_, ⟨Nat.le_trans hn (h1 i).le, fun f hf => (hs f (.inl (by omega))).trans (h0 f hf)⟩, hst'⟩
  rcases hf with hf | hf
  · exact Nat.lt_of_lt_of_le (hV f hf) (h1 i).le
  · exact hf.2

theorem Sat.put {sl : List SV} {H : Heap} {nx : Nat} {a : Act} {w : World} (h : Sat X sl H nx a w) (d : Option Tmp) : Sat X (putS sl d (.tup [])) H nx (a.put d undef) w := by
  obtain ⟨V, ρ, hV, h0, hst⟩ := h
  refine ⟨V, ρ, hV, h0, ⟨putS_r hst.slots d ⟨[], rfl, trivial⟩, ?_, hst.mem, hst.base, hst.foot, hst.os, hst.tape, hst.output, hst.size, hst.block, hst.le⟩⟩
  cases d <;> simp [Act.put, hst.defers]

/-- The slot d holds what it held. -/
theorem Sat.same {sl : List SV} {H : Heap} {nx : Nat} {a : Act} {w : World} (h : Sat X sl H nx a w) {d : Nat} {t t' : Bool} (hd : sl[d]? = some (.c (.v (.bool t)))) (e : t = t') : Sat X (sl.set d (.c (.v (.bool t')))) H nx a w := by
  subst e
  have : sl.set d (.c (.v (.bool t))) = sl := by
    apply List.ext_getElem?
    intro i
    rw [List.getElem?_set]
    split
    · rename_i e; subst e
      split
      · exact hd.symm
      · rename_i hlt; rw [List.getElem?_eq_none (by omega)]
    · rfl
  rw [this]; exact h

theorem Sat.gone {sl : List SV} {H : Heap} {nx : Nat} {a : Act} {w : World} (h : Sat X sl H nx a w) {d : Nat} (hd : sl[d]? = some (.tup [])) : a.tmps[d]? = some (.tuple #[]) := by
  obtain ⟨V, ρ, hV, h0, hst⟩ := h
  obtain ⟨u, hu, vs, rfl, hr⟩ := hst.slots.get hd
  cases vs with
  | nil => simpa using hu
  | cons _ _ => exact hr.elim

theorem Sat.slot {sl : List SV} {H : Heap} {nx : Nat} {a : Act} {w : World} (h : Sat X sl H nx a w) {d : Nat} {x : Value} (hd : sl[d]? = some (.c (.v x))) : a.tmps[d]? = some x := by
  obtain ⟨V, ρ, hV, h0, hst⟩ := h
  obtain ⟨u, hu, hr⟩ := hst.slots.get hd
  rw [hr.1] at hu
  simpa using hu
end

/-- One operation behind the other. -/
def lexK (P : Program) (ck : Bool) (ds : List (Option Tmp)) : List Oper → List SV → Heap → Nat → (List SV → Heap → Nat → Prop) → Prop
  | [], sl, H, nx, K => K sl H nx
  | o :: l, sl, H, nx, K => match o.guard with
    | none => (stepK P ck o (evS sl) H nx fun e => lexK P ck ds l (putS sl o.dst e.r) (hputs H e.wr) e.nx K) ∨ (Bnd H nx → escK P o (evS sl) H nx fun e => lexK P ck ds l (putS sl o.dst e.r) (hputs H e.wr) e.nx K)
    | some (j, want) => match ds[j]? with
      | some (some d) => match sl[d]? with
        | some (.c (.v (.bool t))) =>
          (t = want → stepK P ck o (evS (sl.set d (.c (.v (.bool want))))) H nx fun e => lexK P ck ds l (putS (sl.set d (.c (.v (.bool want)))) o.dst e.r) (hputs H e.wr) e.nx K) ∧
          (t = !want → lexK P ck ds l (putS (sl.set d (.c (.v (.bool !want)))) o.dst (.tup [])) H nx K)
        | some (.tup []) => lexK P ck ds l (putS sl o.dst (.tup [])) H nx K
        | _ => False
      | _ => False

/-- The operations' slots. -/
def dstsOf (l : List Oper) : List (Option Tmp) := l.map (·.dst)

theorem dstsOf_get {ops : Array Oper} {j : Nat} {d : Tmp} (h : (dstsOf ops.toList)[j]? = some (some d)) : (ops[j]?).bind (·.dst) = some d := by
  unfold dstsOf at h
  rw [List.getElem?_map] at h
  obtain ⟨o, h1, h2⟩ := Option.map_eq_some_iff.1 h
  have : ops[j]? = some o := by simpa using h1
  rw [this]; exact h2

theorem lexK_ok {P : Program} {ck : Bool} {ops : Array Oper} {X : Ctx} {Q : Exit → Act → World → Prop} {K : List SV → Heap → Nat → Prop}
    (hQ : ∀ sl H nx a w, K sl H nx → Sat X sl H nx a w → Q .normal a w) : ∀ (l : List Oper) (sl : List SV) (H : Heap) (nx : Nat) (a : Act) (w : World), lexK P ck (dstsOf ops.toList) l sl H nx K → Sat X sl H nx a w → wpList P ops Q l a w
  | [], sl, H, nx, a, w, h, hs => hQ sl H nx a w h hs
  | o :: l, sl, H, nx, a, w, h, hs => by
    unfold lexK at h
    unfold wpList
    cases hg : o.guard with
    | none =>
      rw [hg] at h
      rw [if_pos (by simp [Region.wanted, hg])]
      exact .inl (hs.step h fun e he a' w' hs' => lexK_ok hQ l _ _ _ a' w' he hs')
    | some p =>
      obtain ⟨j, want⟩ := p
      rw [hg] at h
      simp only at h
      split at h
      · rename_i d hd
        replace hd := dstsOf_get hd
        split at h
        · rename_i t ht
          have hy : yielded ops a.tmps j = some t := by
            unfold yielded
            rw [hd]
            simp only [Option.bind_some, hs.slot ht]
          by_cases htw : t = want
          · rw [if_pos (by simp [Region.wanted, hg, hy, htw])]
            exact .inl ((hs.same ht htw).step (.inl (h.1 htw)) fun e he a' w' hs' => lexK_ok hQ l _ _ _ a' w' he hs')
          · rw [if_neg (by simp [Region.wanted, hg, hy, htw])]
            have htw' : t = !want := by cases t <;> cases want <;> simp_all
            exact lexK_ok hQ l _ _ _ _ w (h.2 htw') ((hs.same ht htw').put o.dst)
        · rename_i ht
          have hy : yielded ops a.tmps j = none := by
            unfold yielded
            rw [hd]
            simp only [Option.bind_some, hs.gone ht]
          rw [if_neg (by simp [Region.wanted, hg, hy])]
          exact lexK_ok hQ l _ _ _ _ w h (hs.put o.dst)
        · exact h.elim
      · exact h.elim

/-- Each state of the first kind is one of the second. -/
def Wk (n0 : Nat) (A A' : List SV × Heap × Nat) : Prop := ∀ X a w, X.n0 = n0 → Sat X A.1 A.2.1 A.2.2 a w → Sat X A'.1 A'.2.1 A'.2.2 a w

/-- A region that is shown by hand. -/
def handR (P : Program) (n0 : Nat) (ops : Array Oper) (d : Bool) (sl : List SV) (H : Heap) (nx : Nat) (K : List SV → Heap → Nat → Prop) : Prop :=
  ∀ (id : Nat) (X : Ctx) (a : Act) (w : World) (Q' : Exit → Act → World → Prop), X.n0 = n0 → Sat X sl H nx a w → (∀ sl H nx a w, K sl H nx → Sat X sl H nx a w → Q' .normal a w) → (Code.region id ops d).wp P Q' a w

/-- What is asked of a text that is begun in a state. -/
def wpC (P : Program) (ck : Bool) (dr : Array Oper → List SV → Heap → Nat → (List SV → Heap → Nat → Prop) → Prop) (n0 : Nat) : Code → List SV → Heap → Nat → (Exit → List SV → Heap → Nat → Prop) → Prop
  | .skip, sl, H, nx, Q => Q .normal sl H nx
  | .region _ ops d, sl, H, nx, Q => ∃ A : List SV × Heap × Nat, Wk n0 (sl, H, nx) A ∧ (handR P n0 ops d A.1 A.2.1 A.2.2 (Q .normal) ∨ match d with
    | false => lexK P ck (dstsOf ops.toList) ops.toList A.1 A.2.1 A.2.2 (Q .normal)
    | true => dr ops A.1 A.2.1 A.2.2 (Q .normal))
  | .seq x y, sl, H, nx, Q => wpC P ck dr n0 x sl H nx fun e sl H nx => match e with
    | .normal => wpC P ck dr n0 y sl H nx Q
    | e => Q e sl H nx
  | .cond c x y, sl, H, nx, Q => match evS sl c with
    | .c (.v (.bool t)) => (t = true → wpC P ck dr n0 x sl H nx Q) ∧ (t = false → wpC P ck dr n0 y sl H nx Q)
    | _ => False
  | .block id c, sl, H, nx, Q => wpC P ck dr n0 c sl H nx fun e sl H nx => match e with
    | .exit id' => if id' = id then Q .normal sl H nx else Q (.exit id') sl H nx
    | e => Q e sl H nx
  | .loop c, sl, H, nx, Q => ∃ I : Nat → List SV → Heap → Nat → Prop, (∃ m A, Wk n0 (sl, H, nx) A ∧ I m A.1 A.2.1 A.2.2) ∧
      ∀ m sl H nx, I m sl H nx → wpC P ck dr n0 c sl H nx fun e sl' H' nx' => match e with
        | .normal => ∃ m' A, m' < m ∧ Wk n0 (sl', H', nx') A ∧ I m' A.1 A.2.1 A.2.2
        | e => Q e sl' H' nx'
  | .exit id, sl, H, nx, Q => Q (.exit id) sl H nx
  | .label _, sl, H, nx, Q => Q .normal sl H nx
  | .ret, sl, H, nx, Q => Q .ret sl H nx
  | _, _, _, _, _ => False

def DrOK (P : Program) (dr : Array Oper → List SV → Heap → Nat → (List SV → Heap → Nat → Prop) → Prop) : Prop :=
  ∀ (id : Nat) (ops : Array Oper) (sl : List SV) (H : Heap) (nx : Nat) (K : List SV → Heap → Nat → Prop) (Q : Exit → Act → World → Prop) (X : Ctx) (a : Act) (w : World), dr ops sl H nx K → Sat X sl H nx a w →
    (∀ sl H nx a w, K sl H nx → Sat X sl H nx a w → Q .normal a w) → (Code.region id ops true).wp P Q a w

theorem wpC_ok {P : Program} {ck : Bool} {dr : Array Oper → List SV → Heap → Nat → (List SV → Heap → Nat → Prop) → Prop} (hdr : DrOK P dr) {X : Ctx} {n0 : Nat} (hn : X.n0 = n0) : ∀ (c : Code) (sl : List SV) (H : Heap) (nx : Nat) (Q : Exit → List SV → Heap → Nat → Prop) (Q' : Exit → Act → World → Prop) (a : Act) (w : World),
    (∀ e sl H nx a w, Q e sl H nx → Sat X sl H nx a w → Q' e a w) → wpC P ck dr n0 c sl H nx Q → Sat X sl H nx a w → c.wp P Q' a w
  | .skip, sl, H, nx, Q, Q', a, w, hQ, h, hs => wp_skip (hQ _ _ _ _ _ _ h hs)
  | .region id ops d, sl, H, nx, Q, Q', a, w, hQ, h, hs => by
    obtain ⟨A, hw, h⟩ := h
    have hs := hw X a w hn hs
    rcases h with h | h
    · exact h id X a w Q' hn hs fun sl H nx a w hk hs => hQ _ _ _ _ _ _ hk hs
    cases d with
    | false => exact wp_region_list (lexK_ok (fun sl H nx a w hk hs => hQ _ _ _ _ _ _ hk hs) ops.toList _ _ _ a w h hs)
    | true => exact hdr id ops _ _ _ _ Q' X a w h hs fun sl H nx a w hk hs => hQ _ _ _ _ _ _ hk hs
  | .seq x y, sl, H, nx, Q, Q', a, w, hQ, h, hs => by
    refine wp_seq (wpC_ok hdr hn x sl H nx _ _ a w (fun e sl H nx a w he hs => ?_) h hs)
    cases e with
    | normal => exact wpC_ok hdr hn y sl H nx Q Q' a w hQ he hs
    | exit id => exact hQ _ _ _ _ _ _ he hs
    | goto l => exact hQ _ _ _ _ _ _ he hs
    | ret => exact hQ _ _ _ _ _ _ he hs
    | panic ch => exact hQ _ _ _ _ _ _ he hs
    | outgrown => exact hQ _ _ _ _ _ _ he hs
  | .cond c x y, sl, H, nx, Q, Q', a, w, hQ, h, hs => by
    unfold wpC at h
    split at h
    · rename_i t ht
      have hc : a.eval c = .bool t := by
        obtain ⟨V, ρ, hV, h0, hst⟩ := hs
        have := evS_r hst.slots c
        rw [ht] at this
        exact this.1
      exact wp_cond_split hc (fun e => wpC_ok hdr hn x sl H nx Q Q' a w hQ (h.1 e) hs) (fun e => wpC_ok hdr hn y sl H nx Q Q' a w hQ (h.2 e) hs)
    · exact h.elim
  | .block id c, sl, H, nx, Q, Q', a, w, hQ, h, hs => by
    refine wp_block (wpC_ok hdr hn c sl H nx _ _ a w (fun e sl H nx a w he hs => ?_) h hs)
    cases e with
    | exit id' =>
      simp only at he
      unfold Exit.inBlock
      simp only
      split
      · rename_i hid; rw [if_pos hid] at he; exact hQ _ _ _ _ _ _ he hs
      · rename_i hid; rw [if_neg hid] at he; exact hQ _ _ _ _ _ _ he hs
    | normal => exact hQ _ _ _ _ _ _ he hs
    | goto l => exact hQ _ _ _ _ _ _ he hs
    | ret => exact hQ _ _ _ _ _ _ he hs
    | panic ch => exact hQ _ _ _ _ _ _ he hs
    | outgrown => exact hQ _ _ _ _ _ _ he hs
  | .loop c, sl, H, nx, Q, Q', a, w, hQ, h, hs => by
    obtain ⟨I, ⟨m, A, hw, hI⟩, hround⟩ := h
    let J : Nat → Act → World → Prop := fun m a w => ∃ A : List SV × Heap × Nat, I m A.1 A.2.1 A.2.2 ∧ Sat X A.1 A.2.1 A.2.2 a w
    have hmin : ∀ a w, (∃ m, J m a w) → ∃ m, J m a w ∧ ∀ m', J m' a w → m ≤ m' := by
      intro a w ⟨m, hm⟩
      induction m using Nat.strongRecOn with
      | _ m ih =>
        by_cases hl : ∃ m', m' < m ∧ J m' a w
        · obtain ⟨m', h1, h2⟩ := hl
          exact ih m' h1 h2
        · refine ⟨m, hm, fun m' h' => ?_⟩
          rcases Nat.lt_or_ge m' m with h1 | h1
          · exact absurd ⟨m', h1, h'⟩ hl
          · exact h1
    classical
    let μ : Act → World → Nat := fun a w => if h : ∃ m, J m a w then Classical.choose (hmin a w h) else 0
    have hμ : ∀ a w (h : ∃ m, J m a w), J (μ a w) a w ∧ ∀ m', J m' a w → μ a w ≤ m' := by
      intro a w h
      have := Classical.choose_spec (hmin a w h)
      simp only [μ, dif_pos h]
      exact this
    refine wp_loop (fun a w => ∃ m, J m a w) μ ⟨m, A, hI, hw X a w hn hs⟩ fun a w hJ => ?_
    obtain ⟨⟨A, h1, h2⟩, _⟩ := hμ a w hJ
    refine wpC_ok hdr hn c A.1 A.2.1 A.2.2 _ _ a w (fun e sl H nx a' w' he hs => ?_) (hround _ _ _ _ h1) h2
    cases e with
    | normal =>
      obtain ⟨m', A', q1, q2, q3⟩ := he
      have hJ' : J m' a' w' := ⟨A', q3, q2 X a' w' hn hs⟩
      exact ⟨⟨m', hJ'⟩, Nat.lt_of_le_of_lt ((hμ a' w' ⟨m', hJ'⟩).2 m' hJ') q1⟩
    | exit id => exact hQ _ _ _ _ _ _ he hs
    | goto l => exact hQ _ _ _ _ _ _ he hs
    | ret => exact hQ _ _ _ _ _ _ he hs
    | panic ch => exact hQ _ _ _ _ _ _ he hs
    | outgrown => exact hQ _ _ _ _ _ _ he hs
  | .exit id, sl, H, nx, Q, Q', a, w, hQ, h, hs => wp_exit (hQ _ _ _ _ _ _ h hs)
  | .label l, sl, H, nx, Q, Q', a, w, hQ, h, hs => wp_label (hQ _ _ _ _ _ _ h hs)
  | .ret, sl, H, nx, Q, Q', a, w, hQ, h, hs => wp_ret (hQ _ _ _ _ _ _ h hs)
  | .rangeFunc .., sl, H, nx, Q, Q', a, w, hQ, h, hs => h.elim
  | .scope c, sl, H, nx, Q, Q', a, w, hQ, h, hs => h.elim
  | .goto l, sl, H, nx, Q, Q', a, w, hQ, h, hs => h.elim
  | .refuse s, sl, H, nx, Q, Q', a, w, hQ, h, hs => h.elim

end Go.Proofs.Ytfnhchcgieeedaa

namespace Go.Proofs.Ytfnhchcgieeedaa
set_option linter.unusedSimpArgs false
set_option linter.unusedVariables false
set_option linter.defProp false
open Go.RowKit

/-- the slots of a state out of a stronger one's -/
def wkSl (π : Nat → Vw) (n : Nat) : List SV → List SV → Prop
  | [], [] => True
  | .any :: l, _ :: m => wkSl π n l m
  | x :: l, y :: m => (wfs (wfc π n) x ∧ y = x.map (mcv π)) ∧ wkSl π n l m
  | _, _ => False

theorem wkSl_r {V : Nat → Prop} {ρ : Nat → At} {π : Nat → Vw} {n : Nat} : ∀ {l m : List SV} {us : List Value}, wkSl π n l m → All2 (SVr V ρ) m us → All2 (SVr (· < n) fun i => vwAt ρ (π i)) l us
  | [], [], [], _, _ => trivial
  | [], [], _ :: _, _, h => h.elim
  | [], _ :: _, _, h, _ => by simp [wkSl] at h
  | x :: l, [], _, h, _ => by cases x <;> simp [wkSl] at h
  | x :: l, y :: m, [], _, h => h.elim
  | .any :: l, y :: m, u :: us, h, h' => ⟨trivial, wkSl_r (l := l) (m := m) (by simpa [wkSl] using h) h'.2⟩
  | .c x :: l, y :: m, u :: us, h, h' => by
    simp only [wkSl] at h
    obtain ⟨⟨h1, rfl⟩, h2⟩ := h
    exact ⟨msv_r h1 h'.1, wkSl_r h2 h'.2⟩
  | .agg x :: l, y :: m, u :: us, h, h' => by
    simp only [wkSl] at h
    obtain ⟨⟨h1, rfl⟩, h2⟩ := h
    exact ⟨msv_r h1 h'.1, wkSl_r h2 h'.2⟩
  | .tup x :: l, y :: m, u :: us, h, h' => by
    simp only [wkSl] at h
    obtain ⟨⟨h1, rfl⟩, h2⟩ := h
    exact ⟨msv_r h1 h'.1, wkSl_r h2 h'.2⟩

def wkB (H : Heap) (π : Nat → Vw) (n f : Nat) (b : Blk) : Prop :=
  match π f with
  | .same g => hget H g = some (b.map (mcv π)) ∧ wfb (wfc π n) b
  | .emp _ o => match b with
    | .row _ es => o = true ∧ es = []
    | .nst _ es none => o = true ∧ es = []
    | .mix _ es => o = true ∧ es = []
    | _ => False
  | _ => False

/-- the blocks of a state out of a stronger one's -/
def wkH (H : Heap) (π : Nat → Vw) (n : Nat) : Heap → Prop
  | [] => True
  | (f, some b) :: l => f < n ∧ wkB H π n f b ∧ wkH H π n l
  | (_, none) :: l => wkH H π n l

theorem wkH_get {H : Heap} {π : Nat → Vw} {n : Nat} : ∀ {l : Heap} {f : Nat} {b : Blk}, wkH H π n l → hget l f = some b → f < n ∧ wkB H π n f b
  | (g, some b') :: l, f, b, h, hb => by
    simp only [hget] at hb
    split at hb
    · rename_i e; subst e; cases hb; exact ⟨h.1, h.2.1⟩
    · exact wkH_get h.2.2 hb
  | (g, none) :: l, f, b, h, hb => by
    simp only [hget] at hb
    split at hb
    · cases hb
    · exact wkH_get (by simpa [wkH] using h) hb

def vwKey : Vw → Option Nat
  | .same g => some g
  | _ => none

theorem wk_mem {V : Nat → Prop} {ρ : Nat → At} {H H' : Heap} {n : Nat} {w : World} (π : Nat → Vw) (hm : Mem V ρ (hget H) w) (h2 : wkH H π n H') (h3 : ∀ f g b b' k, f ≠ g → hget H' f = some b → hget H' g = some b' → π f = .same k → π g ≠ .same k) :
    Mem (· < n) (fun i => vwAt ρ (π i)) (hget H') w ∧ ∀ f blk, hget H' f = some blk → ∀ b, (vwAt ρ (π f)).F b → ∃ k blk', hget H k = some blk' ∧ (∀ b, blk'.exc (ρ k) b ↔ blk.exc (vwAt ρ (π f)) b) ∧ (ρ k).F b := by
  refine ⟨⟨fun f blk hb => ?_, fun f g blk blk' hne hb hb' b hF hF' => ?_⟩, fun f blk hb b hF => ?_⟩
  · obtain ⟨q1, q2⟩ := wkH_get h2 hb
    refine ⟨q1, ?_⟩
    show Holds _ _ w (vwAt ρ (π f)) blk ∧ ∀ b, (vwAt ρ (π f)).F b → _
    unfold wkB at q2
    cases hp : π f with
    | ro g b m r => simp [hp] at q2
    | same g =>
      rw [hp] at q2
      obtain ⟨r1, r2⟩ := q2
      obtain ⟨_, s2, s3⟩ := hm.dom g _ r1
      refine ⟨?_, s3⟩
      cases blk with
      | box T cs =>
        obtain ⟨t0, b, vs, t1, t2, t3, t4⟩ := s2
        exact ⟨t0, b, vs, t1, t2, t3, t4.of_map fun x hx u hu => mcv_r (r2 x hx) hu⟩
      | row T es => exact s2
      | ro es => exact s2
      | gh S φ => exact s2
      | mix T es => exact s2
      | gx S φ => exact s2
      | nst T es x =>
        obtain ⟨qq, n⟩ := s2
        exact ⟨qq, n.hmap fun y hy u hu => by subst hy; exact mcv_r r2 hu⟩
    | emp s ow =>
      rw [hp] at q2
      cases blk with
      | box T cs => exact q2.elim
      | ro es => exact q2.elim
      | gh S φ => exact q2.elim
      | gx S φ => exact q2.elim
      | mix T es =>
        obtain ⟨q3, q2'⟩ : ow = true ∧ es = [] := q2
        subst q2' q3
        exact ⟨⟨⟨rfl, rfl⟩, Nat.zero_le _, Nat.le_refl _, fun e he => (by cases he), fun _ => rfl, fun b hb => (by cases hb)⟩, fun b hb => hb.elim⟩
      | nst T es x =>
        cases x with
        | some y => exact q2.elim
        | none =>
          obtain ⟨q3, q2'⟩ : ow = true ∧ es = [] := q2
          subst q2' q3
          exact ⟨⟨fun _ _ => At.none0 0, ⟨rfl, rfl⟩, Nat.zero_le _, Nat.le_refl _, fun e he => (by cases he), fun _ => rfl, fun i j b hb => hb.elim, fun i j i' j' b hb => hb.elim, fun b hb => (by cases hb)⟩, fun b hb => hb.elim⟩
      | row T es =>
        obtain ⟨q3, q2'⟩ : ow = true ∧ es = [] := q2
        subst q2' q3
        exact ⟨⟨⟨rfl, rfl⟩, Nat.zero_le _, Nat.le_refl _, fun e he => (by cases he), fun e he => (by cases he), fun _ => rfl, fun b hb => (by cases hb)⟩, fun b hb => hb.elim⟩
  · obtain ⟨q1, q2⟩ := wkH_get h2 hb
    obtain ⟨q1', q2'⟩ := wkH_get h2 hb'
    have hF0 : (vwAt ρ (π f)).F b ∨ blk.exc (vwAt ρ (π f)) b := .inr hF
    have hF : blk.exc (vwAt ρ (π f)) b := hF
    have hF' : (vwAt ρ (π g)).F b := hF'
    unfold wkB at q2 q2'
    cases hp : π f with
    | ro g b m r => simp [hp] at q2
    | emp s ow =>
      rw [hp] at hF q2
      cases blk <;> first | exact q2.elim | exact hF.elim | exact absurd hF (by simp [Blk.exc, vwAt])
    | same k =>
      cases hp' : π g with
      | ro g b m r => simp [hp'] at q2'
      | emp s ow => rw [hp'] at hF'; exact hF'.elim
      | same k' =>
        rw [hp] at q2 hF
        rw [hp'] at q2' hF'
        exact hm.sep k k' _ _ (fun e => h3 f g blk blk' k hne hb hb' hp (by rw [hp', e])) q2.1 q2'.1 b (by rw [Blk.exc_map]; exact hF) hF'
  · obtain ⟨q1, q2⟩ := wkH_get h2 hb
    unfold wkB at q2
    cases hp : π f with
    | ro g b m r => simp [hp] at q2
    | emp s ow => rw [hp] at hF; exact hF.elim
    | same k =>
      rw [hp] at q2 hF
      exact ⟨k, _, q2.1, fun b => by rw [Blk.exc_map]; exact Iff.rfl, hF⟩

theorem wk_of {sl sl' : List SV} {H H' : Heap} {nx nx' : Nat} (π : Nat → Vw) (n0 : Nat) (h1 : wkSl π nx' sl' sl) (h2 : wkH H π nx' H') (h3 : ∀ f g b b' k, f ≠ g → hget H' f = some b → hget H' g = some b' → π f = .same k → π g ≠ .same k)
    (h4 : ∀ i, i < n0 → π i = .same i) (h5 : n0 ≤ nx') : Wk n0 (sl, H, nx) (sl', H', nx') := by
  rintro X a w rfl ⟨V, ρ, hV, ⟨hn, h0⟩, hst⟩
  obtain ⟨hm, hF⟩ := wk_mem π hst.mem h2 h3
  refine ⟨(· < nx'), fun i => vwAt ρ (π i), fun f hf => hf, ⟨h5, fun f hf => by show (vwAt ρ (π f)).nf = _; rw [h4 f hf]; exact h0 f hf⟩, ⟨wkSl_r h1 hst.slots, hst.defers, hm, fun f blk hb b hFb => ?_, fun f blk hb b hFb => ?_, hst.os, hst.tape, hst.output, hst.size, hst.block, hst.le⟩⟩
  · obtain ⟨k, blk', q1, q2, q3⟩ := hF f blk hb b ((hm.dom f blk hb).2.1.exc hFb)
    exact hst.base k blk' q1 b ((q2 b).2 hFb)
  · obtain ⟨k, blk', q1, q2, q3⟩ := hF f blk hb b hFb
    exact hst.foot k blk' q1 b q3

theorem Wk.refl {n0 : Nat} {A : List SV × Heap × Nat} : Wk n0 A A := fun _ _ _ _ h => h
theorem Wk.trans {n0 : Nat} {A B C : List SV × Heap × Nat} (h : Wk n0 A B) (h' : Wk n0 B C) : Wk n0 A C := fun X a w hn hs => h' X a w hn (h X a w hn hs)

/-- A row that was lent is taken back. -/
theorem wk_close {n0 : Nat} {sl : List SV} {H : Heap} {nx f g i j T sz n T' : Nat} {es d : List (List DC)} (hf : hget H f = some (.nst T es (some (i, j, .sl g sz 0 n)))) (hg : hget H g = some (.row T' d)) (hne : g ≠ f) (hn : n = d.length) :
    Wk n0 (sl, H, nx) (sl, hputs H [(f, some (.nst T (es.modify i fun e => e.set j (.sl T' sz d)) none)), (g, none)], nx) := by
  rintro X a w hX ⟨V, ρ, hV, hn0, hst⟩
  subst hn
  obtain ⟨hVf, ⟨q, n⟩, hsf⟩ := hst.mem.dom f _ hf
  obtain ⟨hVg, hrow, hsg⟩ := hst.mem.dom g _ hg
  have hrow : RowAt w (ρ g) T' d := hrow
  have sep := hst.mem.sep f g _ _ (fun e => hne e.symm) hf hg
  let R : Nat → At := fun k => if k = f then { ρ f with F := fun b => (ρ f).F b ∨ (ρ g).F b } else ρ k
  have eF : R f = { ρ f with F := fun b => (ρ f).F b ∨ (ρ g).F b } := by simp [R]
  have eO : ∀ k, k ≠ f → R k = ρ k := fun k hk => if_neg hk
  have nf : ∀ k, (R k).nf = (ρ k).nf := fun k => by
    by_cases hk : k = f
    · subst hk; rw [eF]; rfl
    · rw [eO k hk]
  have n2 : Nest V R w { ρ f with F := fun b => (ρ f).F b ∨ (ρ g).F b } T (es.modify i fun e => e.set j (.sl T' sz d)) none (fun i' j' => if i' = i ∧ j' = j then ρ g else q i' j') := by
    refine ⟨n.off, n.cap, by simpa using n.le, fun e he => ?_, n.nil, fun i' j' b hb => ?_, fun i1 j1 i2 j2 b h1 h2 => ?_, fun b hb => ?_⟩
    · obtain ⟨k, hk⟩ := List.mem_iff_getElem?.1 he
      rw [List.getElem?_modify] at hk
      obtain ⟨e0, h1, h2⟩ := Option.map_eq_some_iff.1 hk
      have := n.sz e0 (List.mem_of_getElem? h1)
      rw [← h2]
      split <;> simpa using this
    · split at hb
      · exact ⟨.inr hb, fun e => sep b (n.cells b e).1 hb⟩
      · obtain ⟨e1, e2⟩ := n.sub i' j' b hb
        exact ⟨.inl e1, e2⟩
    · split at h1
      · split at h2
        · rename_i e1 e2; exact ⟨e1.1.trans e2.1.symm, e1.2.trans e2.2.symm⟩
        · exact absurd h1 (sep b (n.sub _ _ _ h2).1)
      · split at h2
        · exact absurd h2 (sep b (n.sub _ _ _ h1).1)
        · exact n.apart _ _ _ _ b h1 h2
    · obtain ⟨h1, cur, h2, h3, h4⟩ := n.cells b hb
      refine ⟨.inl h1, cur, h2, h3, fun i' e j' c hi' hj' => ?_⟩
      rw [List.getElem?_modify] at hi'
      obtain ⟨e0, q1, q2⟩ := Option.map_eq_some_iff.1 hi'
      have hnone : holeAt none i' j' = none := rfl
      rw [hnone]
      by_cases hij : i' = i ∧ j' = j
      · obtain ⟨rfl, rfl⟩ := hij
        rw [if_pos rfl] at q2
        subst q2
        have hjl : j' < e0.length := by have := (List.getElem?_eq_some_iff.1 hj').1; simpa using this
        obtain ⟨u, h5, h6⟩ := h4 i' e0 j' e0[j'] q1 (List.getElem?_eq_getElem hjl)
        rw [List.getElem?_set_self hjl] at hj'
        cases hj'
        have e : holeAt (some (i', j', CV.sl g sz 0 d.length)) i' j' = some (.sl g sz 0 d.length) := if_pos ⟨rfl, rfl⟩
        rw [e] at h6
        obtain ⟨_, s1, aa, cp, rfl, s2, s3, s4, s5, s6⟩ : CVr V ρ (.sl g sz 0 d.length) u := h6
        obtain ⟨s7, s8⟩ := s5 rfl hrow.1.2
        refine ⟨_, h5, ?_⟩
        rw [if_pos ⟨rfl, rfl⟩, s7, s8, hrow.1.1]
        exact ⟨s1, hrow, rfl⟩
      · have hj2 : e0[j']? = some c := by
          by_cases hi2 : i = i'
          · subst hi2
            rw [if_pos rfl] at q2
            subst q2
            rw [List.getElem?_set_ne (fun e => hij ⟨rfl, e.symm⟩)] at hj'
            exact hj'
          · rw [if_neg hi2] at q2
            have q2 : e0 = e := q2
            subst q2; exact hj'
        obtain ⟨u, h5, h6⟩ := h4 i' e0 j' c q1 hj2
        have e : holeAt (some (i, j, CV.sl g sz 0 d.length)) i' j' = none := if_neg hij
        rw [e] at h6
        refine ⟨u, h5, ?_⟩
        rw [if_neg hij]
        exact h6
  have hH : ∀ k, hget (hputs H [(f, some (.nst T (es.modify i fun e => e.set j (.sl T' sz d)) none)), (g, none)]) k = if k = g then none else if k = f then some (.nst T (es.modify i fun e => e.set j (.sl T' sz d)) none) else hget H k := by
    intro k
    simp only [hputs, hget_hput]
  refine ⟨V, R, hV, ⟨hn0.1, fun k hk => (nf k).trans (hn0.2 k hk)⟩, ⟨hst.slots.mono fun _ _ => SVr.mono fun k hk => ⟨hk, nf k⟩, hst.defers, ⟨fun k blk hb => ?_, fun k k' blk blk' hkk hb hb' b hF hF' => ?_⟩, fun k blk hb b hF => ?_, fun k blk hb b hF => ?_, hst.os, hst.tape, hst.output, hst.size, hst.block, hst.le⟩⟩
  · rw [hH] at hb
    split at hb
    · cases hb
    · split at hb
      · rename_i e; subst e; cases hb
        rw [eF]
        exact ⟨hVf, ⟨_, n2⟩, fun b hb => hb.elim (hsf b) (hsg b)⟩
      · rename_i e
        rw [eO k e]
        obtain ⟨h1, h2, h3⟩ := hst.mem.dom k blk hb
        exact ⟨h1, h2.keep (fun k hk => ⟨hk, nf k⟩) fun _ _ => rfl, h3⟩
  · rw [hH] at hb hb'
    split at hb
    · cases hb
    · rename_i hkg
      split at hb'
      · cases hb'
      · rename_i hkg'
        split at hb
        · rename_i e; subst e; cases hb
          split at hb'
          · rename_i e; subst e; exact absurd rfl hkk
          · rename_i e
            rw [eF] at hF; rw [eO _ e] at hF'
            rcases hF with hF | hF
            · exact hst.mem.sep _ _ _ _ hkk hf hb' b hF hF'
            · exact hst.mem.sep _ _ _ _ (fun e => hkg' e.symm) hg hb' b hF hF'
        · rename_i e
          split at hb'
          · rename_i e'; subst e'; cases hb'
            rw [eF] at hF'; rw [eO _ e] at hF
            rcases hF' with hF' | hF'
            · exact hst.mem.sep _ _ _ _ hkk hb hf b hF hF'
            · exact hst.mem.sep _ _ _ _ hkg hb hg b hF hF'
          · rename_i e'
            rw [eO _ e] at hF; rw [eO _ e'] at hF'
            exact hst.mem.sep _ _ _ _ hkk hb hb' b hF hF'
  · rw [hH] at hb
    split at hb
    · cases hb
    · split at hb
      · rename_i e; subst e; cases hb
        rw [eF] at hF
        rcases hF with hF | hF
        · exact hst.base _ _ hf b hF
        · exact hst.base _ _ hg b hF
      · rename_i e
        rw [eO _ e] at hF
        exact hst.base _ _ hb b hF
  · rw [hH] at hb
    split at hb
    · cases hb
    · split at hb
      · rename_i e; subst e; cases hb
        rw [eF] at hF
        rcases hF with hF | hF
        · exact hst.foot _ _ hf b hF
        · exact hst.foot _ _ hg b hF
      · rename_i e
        rw [eO _ e] at hF
        exact hst.foot _ _ hb b hF

/-- A result's variable. -/
def resv (P : Program) (sl : List SV) (H : Heap) : ResultVar → Option (CV ⊕ List CV)
  | .tmp t => match sl[t]? with
    | some (.c x) => some (.inl x)
    | some (.agg l) => some (.inr l)
    | _ => none
  | .cell a t => match sl[a]? with
    | some (.c (.ptr f i c)) => match hget H f, tiOf P t with
      | some (.box _ cs), some ti => if i = 0 then (match partS ti.size ti.row cs c with
        | some (.c x) => some (.inl x)
        | some (.agg l) => some (.inr l)
        | _ => none) else none
      | _, _ => none
    | _ => none

def resvs (P : Program) (sl : List SV) (H : Heap) : List ResultVar → Option (List (CV ⊕ List CV))
  | [] => some []
  | r :: l => match resv P sl H r, resvs P sl H l with
    | some x, some m => some (x :: m)
    | _, _ => none

def svRes : List (CV ⊕ List CV) → SV
  | [.inl x] => .c x
  | [.inr l] => .agg l
  | l => .tup l

def resOne (tmps : Array Value) : ResultVar → Sem Value
  | .tmp t => pure (tmps.getD t undef)
  | .cell b t => do loadVar t (← asAddr (tmps.getD b undef))

theorem results_eq (fn : Func) (tmps : Array Value) : results fn tmps = (fn.results.mapM (resOne tmps) >>= fun vs => pure (if h : vs.size = 1 then vs[0] else .tuple vs)) := by
  unfold results
  congr 1

theorem resv_r {P : Program} {V : Nat → Prop} {ρ : Nat → At} {sl : List SV} {H : Heap} {B : Nat} {T R : Nat → Prop} {w0 : World} {a : Act} {w : World} (h : St V ρ sl H B T R w0 a w) {r : ResultVar} {x : CV ⊕ List CV} (hr : resv P sl H r = some x) :
    ∃ u, CSr V ρ x u ∧ (resOne a.tmps r).run P w = .ok u w := by
  have slot : ∀ t y, sl[t]? = some y → SVr V ρ y (a.tmps.getD t undef) := by
    intro t y hy
    obtain ⟨u, hu, hs⟩ := h.slots.get hy
    have : a.tmps[t]? = some u := by simpa using hu
    rw [Array.getD_eq_getD_getElem?, this]; exact hs
  cases r with
  | tmp t =>
    simp only [resv] at hr
    split at hr
    · rename_i y hy; cases hr; exact ⟨_, slot t _ hy, rfl⟩
    · rename_i y hy; cases hr; exact ⟨_, slot t _ hy, rfl⟩
    · cases hr
  | cell b t =>
    simp only [resv] at hr
    split at hr
    · rename_i f i c hy
      split at hr
      · rename_i T' cs ti hH ht
        split at hr
        · rename_i hi
          subst hi
          obtain ⟨_, ⟨hoff, bb, vs, q1, q2, q3, q4⟩, _⟩ := h.mem.dom f _ hH
          obtain ⟨_, b', hb', hu⟩ := slot b _ hy
          rw [q1] at hb'; cases hb'
          rw [hoff] at hu
          simp only [Nat.zero_mul, Nat.add_zero, Nat.zero_add] at hu
          cases hp : partS ti.size ti.row cs c with
          | none => rw [hp] at hr; cases hr
          | some y =>
            obtain ⟨u, g1, g2⟩ := run_loadAt_part (P := P) (w := w) (b := bb) (base := 0) q4 (fun j u hj => by simp [World.cell?, q3, hj]) ht hp
            rw [Nat.zero_add] at g2
            refine ⟨u, ?_, ?_⟩
            · rw [hp] at hr
              cases y with
              | c y => cases hr; exact g1
              | agg l => cases hr; exact g1
              | any => cases hr
              | tup l => cases hr
            · simp only [resOne, hu, asAddr]
              simpa [Instr.loadAt, Instr.sureAddr] using g2
        · cases hr
      · cases hr
    · cases hr

theorem resvs_r {P : Program} {V : Nat → Prop} {ρ : Nat → At} {sl : List SV} {H : Heap} {B : Nat} {T R : Nat → Prop} {w0 : World} {a : Act} {w : World} (h : St V ρ sl H B T R w0 a w) : ∀ {l : List ResultVar} {xs : List (CV ⊕ List CV)}, resvs P sl H l = some xs →
    ∃ us, All2 (CSr V ρ) xs us ∧ (l.mapM (resOne a.tmps)).run P w = .ok us w
  | [], xs, hr => by cases hr; exact ⟨[], trivial, rfl⟩
  | r :: l, xs, hr => by
    unfold resvs at hr
    split at hr
    · rename_i x m h1 h2
      cases hr
      obtain ⟨u, q1, q2⟩ := resv_r h h1
      obtain ⟨us, q3, q4⟩ := resvs_r h h2
      refine ⟨u :: us, ⟨q1, q3⟩, ?_⟩
      rw [List.mapM_cons, Sem.run_bind, q2]
      simp only [Result.andThen_ok, Sem.run_bind, q4, Sem.run_pure]
    · cases hr

theorem res_ok {P : Program} {V : Nat → Prop} {ρ : Nat → At} {sl : List SV} {H : Heap} {B : Nat} {T R : Nat → Prop} {w0 : World} {a : Act} {w : World} (h : St V ρ sl H B T R w0 a w) {fn : Func} {xs : List (CV ⊕ List CV)} (hr : resvs P sl H fn.results.toList = some xs) :
    ∃ u, SVr V ρ (svRes xs) u ∧ (results fn a.tmps).run P w = .ok u w := by
  obtain ⟨us, h1, h2⟩ := resvs_r h hr
  have hm : (fn.results.mapM (resOne a.tmps)).run P w = .ok us.toArray w := by
    rw [Array.mapM_eq_mapM_toList, Sem.run_map, h2]; rfl
  rw [results_eq, Sem.run_bind, hm]
  simp only [Result.andThen_ok, Sem.run_pure]
  match xs, us, h1 with
  | [], [], _ => exact ⟨_, ⟨[], rfl, trivial⟩, by simp⟩
  | [.inl x], [u], h1 => exact ⟨u, h1.1, by simp⟩
  | [.inr l], [u], h1 => exact ⟨u, h1.1, by simp⟩
  | x :: y :: l, u :: v :: us, h1 =>
    have e : svRes (x :: y :: l) = .tup (x :: y :: l) := by cases x <;> rfl
    exact ⟨.tuple (u :: v :: us).toArray, by rw [e]; exact ⟨u :: v :: us, rfl, h1⟩, by simp⟩

/-- A contract in good form. -/
structure ConOK (c : Con) : Prop where
  le : c.n0 ≤ c.n
  key : ∀ f b, (f, b) ∈ c.wr → f < c.n ∧ (f < c.n0 → ∃ blk, hget c.pre f = some blk ∧ blk.own = true)
  nodup : (c.wr.map (·.1)).Nodup
  all : ∀ f blk, hget c.pre f = some blk → blk.own = true → f ∈ c.wr.map (·.1)
  own : ∀ f b, (f, some b) ∈ c.wr → b.own = true

theorem hget_key {l : Heap} {f : Nat} {b : Blk} (h : hget l f = some b) : f ∈ l.map (·.1) := List.mem_map.2 ⟨_, hget_mem h, rfl⟩

theorem ConOK.fit {c : Con} (h : ConOK c) (hd : ∀ f ∈ c.pre.map (·.1), ∃ blk, hget c.pre f = some blk) : Fit c.pre c.n0 c.eff :=
  ⟨h.le, hd, fun f b hb => ⟨(h.key f b hb).1, fun hf => by
    obtain ⟨blk, h1, h2⟩ := (h.key f b hb).2 hf
    exact ⟨hget_key h1, blk, h1, h2⟩⟩, h.nodup⟩

/-- The end of a function's text: its result and its blocks are the contract's. -/
def Post (P : Program) (fn : Func) (c : Con) (e : Exit) (sl : List SV) (H : Heap) (nx : Nat) : Prop :=
  (e = .ret ∨ e = .normal) ∧ ∃ A : List SV × Heap × Nat, Wk c.n0 (sl, H, nx) A ∧ ∃ xs σ, resvs P A.1 A.2.1 fn.results.toList = some xs ∧ svRes xs = c.r.map (mcv σ) ∧ wfs (wfc σ c.n) c.r ∧ wkH A.2.1 σ c.n c.wr ∧
    (∀ f g b b' k, f ≠ g → hget c.wr f = some b → hget c.wr g = some b' → σ f = .same k → σ g ≠ .same k) ∧ ∀ i, i < c.n0 → σ i = .same i

theorem All2.replicate {α β : Type} {R : α → β → Prop} {a : α} {b : β} (h : R a b) : ∀ n, All2 R (List.replicate n a) (List.replicate n b)
  | 0 => trivial
  | n + 1 => ⟨h, All2.replicate h n⟩

theorem fnR_of {P : Program} {f : FuncId} {fn : Func} {code : Code} {c : Con} {ck : Bool} {dr : Array Oper → List SV → Heap → Nat → (List SV → Heap → Nat → Prop) → Prop} (hdr : DrOK P dr) (hfn : P.funcs[f]? = some fn) (hb : fn.body = some code) (hc : ConOK c) (hd : ∀ f ∈ c.pre.map (·.1), ∃ blk, hget c.pre f = some blk)
    (h : wpC P ck dr c.n0 code (c.args ++ List.replicate (fn.ntmps - c.args.length) .any) c.pre c.n0 (Post P fn c)) : FnR P f c := by
  refine ⟨hc.fit hd, fun ρ vs w hargs hmem => calls_of_wp hfn hb ?_⟩
  let X : Ctx := ⟨w.heap.size, fun b => ∃ i blk, i < c.n0 ∧ hget c.pre i = some blk ∧ blk.exc (ρ i) b, fun b => ∃ i blk, i < c.n0 ∧ hget c.pre i = some blk ∧ (ρ i).F b ∧ ¬ blk.exc (ρ i) b, w, c.n0, ρ⟩
  refine wpC_ok (X := X) hdr rfl code _ _ _ _ _ _ w (fun e sl H nx a w' he hs => ?_) h ⟨(· < c.n0), ρ, fun f hf => hf, ⟨Nat.le_refl _, fun f _ => rfl⟩, ⟨?_, rfl, hmem, fun i blk hb b hF => .inr ⟨i, blk, (hmem.dom i blk hb).1, hb, hF⟩, fun i blk hb b hF => by
    by_cases hx : blk.exc (ρ i) b
    · exact .inr (.inl ⟨i, blk, (hmem.dom i blk hb).1, hb, hx⟩)
    · exact .inr (.inr ⟨i, blk, (hmem.dom i blk hb).1, hb, hF, hx⟩), rfl, rfl, rfl, Nat.le_refl _, fun _ _ _ _ => rfl, Nat.le_refl _⟩⟩
  · obtain ⟨hex, A, hwk, xs, σ, h1, h2, h3, h4, h5, h6⟩ := he
    have hs := hwk X a w' rfl hs
    obtain ⟨V, ρf, hV, ⟨hn, h0⟩, hst⟩ := hs
    obtain ⟨u, g1, g2⟩ := res_ok hst h1
    obtain ⟨hm, hF⟩ := wk_mem σ hst.mem h4 h5
    rw [h2] at g1
    have g3 := msv_r h3 g1
    have hc2 : ∀ i, i < c.n0 → vwAt ρf (σ i) = ρf i := fun i hi => by rw [h6 i hi]; rfl
    let ρ2 : Nat → At := fun i => if i < c.n0 ∧ i ∉ c.wr.map (·.1) then ρ i else if i < c.n then vwAt ρf (σ i) else ρ i
    have hρ : ∀ i, i < c.n → newV (· < c.n0) c.n0 c.n i ∧ (ρ2 i).nf = (vwAt ρf (σ i)).nf := by
      intro i hi
      refine ⟨if h : i < c.n0 then .inl h else .inr (by omega), ?_⟩
      by_cases hlt : i < c.n0 ∧ i ∉ c.wr.map (·.1)
      · simp only [ρ2, if_pos hlt]
        rw [hc2 i hlt.1]
        exact (h0 i hlt.1).symm
      · simp only [ρ2, if_neg hlt, if_pos hi]
    have hρF : ∀ i, i < c.n → i ∈ c.wr.map (·.1) → ρ2 i = vwAt ρf (σ i) := by
      intro i hi hk
      simp only [ρ2, if_neg (fun h : i < c.n0 ∧ i ∉ c.wr.map (·.1) => h.2 hk), if_pos hi]
    have hdone : Done (· < c.n0) ρ c.pre c.n0 w c.eff u ρ2 w' := by
      refine ⟨fun i hi => ?_, g3.mono hρ, ⟨fun i blk hb => ?_, fun i j blk blk' hne hb hb' b hFb hFb' => ?_⟩, fun i blk hb b hFb => ?_, hst.os, hst.tape, hst.output, hst.size, fun k hk hnot => ?_⟩
      · have e : c.eff.nx = c.n := rfl
        rw [e] at hi
        have e2 : c.eff.wr = c.wr := rfl
        rw [e2]
        refine ⟨?_, fun hk => ?_⟩
        · simp only [ρ2]
          split
          · rfl
          · split
            · rw [hc2 i (by omega)]
              exact h0 i (by show i < c.n0; omega)
            · rfl
        · simp only [ρ2]
          split
          · rfl
          · rename_i hn
            rw [if_neg (fun h => hn ⟨by omega, hk⟩)]
      · obtain ⟨q1, q2, q3⟩ := hm.dom i blk hb
        rw [hρF i q1 (hget_key hb)]
        exact ⟨(hρ i q1).1, q2.keep hρ (fun _ _ => rfl), q3⟩
      · rw [hρF i (hm.dom i blk hb).1 (hget_key hb)] at hFb
        rw [hρF j (hm.dom j blk' hb').1 (hget_key hb')] at hFb'
        exact hm.sep i j blk blk' hne hb hb' b hFb hFb'
      · rw [hρF i (hm.dom i blk hb).1 (hget_key hb)] at hFb
        obtain ⟨k, blk', q1, q2, q3⟩ := hF i blk hb b hFb
        by_cases hx : blk.exc (vwAt ρf (σ i)) b
        · rcases hst.base k blk' q1 b ((q2 b).2 hx) with q4 | ⟨j, blk2, q4, q5, q6⟩
          · exact .inl q4
          · obtain ⟨⟨j', x⟩, r1, r2⟩ := List.mem_map.1 (hc.all j blk2 q5 (exc_own q6))
            simp only at r2
            subst r2
            exact .inr (.inl ⟨_, x, r1, q4, blk2, q5, q6⟩)
        · rcases hst.foot k blk' q1 b q3 with q4 | ⟨j, blk2, q4, q5, q6⟩ | ⟨j, blk2, q4, q5, q6, q7⟩
          · exact .inl q4
          · obtain ⟨⟨j', x⟩, r1, r2⟩ := List.mem_map.1 (hc.all j blk2 q5 (exc_own q6))
            simp only at r2
            subst r2
            exact .inr (.inl ⟨_, x, r1, q4, blk2, q5, q6⟩)
          · exact .inr (.inr ⟨by rw [hρF i (hm.dom i blk hb).1 (hget_key hb)]; exact hx, j, hget_key q5, blk2, q5, q6, q7⟩)
      · refine hst.block k hk hk ?_
        rintro ⟨j, blk2, q4, q5, q6⟩
        obtain ⟨⟨j', x⟩, r1, r2⟩ := List.mem_map.1 (hc.all j blk2 q5 (exc_own q6))
        simp only at r2
        subst r2
        exact hnot _ x r1 q4 ⟨blk2, q5, q6⟩
    rcases hex with rfl | rfl
    · exact ⟨hst.defers, u, g2, u, ρ2, rfl, hdone⟩
    · exact ⟨hst.defers, u, g2, u, ρ2, rfl, hdone⟩
  · have e : (vs.toArray ++ Array.replicate (fn.ntmps - vs.toArray.size) undef).toList = vs ++ List.replicate (fn.ntmps - vs.length) undef := by simp
    rw [e, ← hargs.length]
    exact hargs.append (All2.replicate trivial _)

end Go.Proofs.Ytfnhchcgieeedaa

namespace Go.Proofs.Ytfnhchcgieeedaa
set_option linter.unusedSimpArgs false
set_option linter.unusedVariables false
set_option linter.defProp false
open Go.RowKit

section
variable {P : Program} {ck : Bool} {dr : Array Oper → List SV → Heap → Nat → (List SV → Heap → Nat → Prop) → Prop} {n0 : Nat} {sl : List SV} {H : Heap} {nx : Nat} {Q : Exit → List SV → Heap → Nat → Prop}

theorem seq_k {x y : Code} (h : ∀ K : Exit → List SV → Heap → Nat → Prop, (∀ sl H nx, wpC P ck dr n0 y sl H nx Q → K .normal sl H nx) → (∀ id sl H nx, Q (.exit id) sl H nx → K (.exit id) sl H nx) → (∀ sl H nx, Q .ret sl H nx → K .ret sl H nx) → wpC P ck dr n0 x sl H nx K) : wpC P ck dr n0 (.seq x y) sl H nx Q :=
  h _ (fun _ _ _ h => h) (fun _ _ _ _ h => h) fun _ _ _ h => h

theorem block_k {id : Nat} {c : Code} (h : ∀ K : Exit → List SV → Heap → Nat → Prop, (∀ sl H nx, Q .normal sl H nx → K .normal sl H nx) → (∀ id' sl H nx, (if id' = id then Q .normal sl H nx else Q (.exit id') sl H nx) → K (.exit id') sl H nx) → (∀ sl H nx, Q .ret sl H nx → K .ret sl H nx) → wpC P ck dr n0 c sl H nx K) :
    wpC P ck dr n0 (.block id c) sl H nx Q :=
  h _ (fun _ _ _ h => h) (fun _ _ _ _ h => h) fun _ _ _ h => h

theorem region_k {id : Nat} {l : List Oper} (h : lexK P ck (dstsOf l) l sl H nx (Q .normal)) : wpC P ck dr n0 (.region id l.toArray false) sl H nx Q := ⟨_, Wk.refl, .inr h⟩
theorem hand_k {id : Nat} {ops : Array Oper} {d : Bool} (h : handR P n0 ops d sl H nx (Q .normal)) : wpC P ck dr n0 (.region id ops d) sl H nx Q := ⟨_, Wk.refl, .inl h⟩

theorem cond_k {c : Operand} {x y : Code} {t : Bool} (hc : evS sl c = .c (.v (.bool t))) (h1 : t = true → wpC P ck dr n0 x sl H nx Q) (h2 : t = false → wpC P ck dr n0 y sl H nx Q) : wpC P ck dr n0 (.cond c x y) sl H nx Q := by
  unfold wpC
  rw [hc]
  exact ⟨h1, h2⟩

theorem cond_go {c : Operand} {x y : Code} (h : wpC P ck dr n0 (.cond c x y) sl H nx Q) : wpC P ck dr n0 (.cond c x y) sl H nx Q := h
theorem guard_go {ds : List (Option Tmp)} {K : List SV → Heap → Nat → Prop} {dd : Option Tmp} {op : Op} {tt : TypeId} {pos : String} {af : Array Edge} {l : List Oper} {g : Nat × Bool} (h : lexK P ck ds (⟨dd, op, tt, pos, af, some g⟩ :: l) sl H nx K) : lexK P ck ds (⟨dd, op, tt, pos, af, some g⟩ :: l) sl H nx K := h
theorem step_go {o : Oper} {ev : Operand → SV} {KS : Eff → Prop} (h : stepK P ck o ev H nx KS) : stepK P ck o ev H nx KS := h
theorem wpc_go {c : Code} (h : wpC P ck dr n0 c sl H nx Q) : wpC P ck dr n0 c sl H nx Q := h
theorem skip_k (h : Q .normal sl H nx) : wpC P ck dr n0 .skip sl H nx Q := h
theorem exit_k {id : Nat} (h : Q (.exit id) sl H nx) : wpC P ck dr n0 (.exit id) sl H nx Q := h
theorem ret_k (h : Q .ret sl H nx) : wpC P ck dr n0 .ret sl H nx Q := h

/-- The state is given up for a weaker one. -/
theorem region_w {id : Nat} {ops : Array Oper} {d : Bool} {A : List SV × Heap × Nat} (hw : Wk n0 (sl, H, nx) A) (h : wpC P ck dr n0 (.region id ops d) A.1 A.2.1 A.2.2 Q) : wpC P ck dr n0 (.region id ops d) sl H nx Q := by
  obtain ⟨B, h1, h2⟩ := h
  exact ⟨B, hw.trans h1, h2⟩

theorem post_w {fn : Func} {c : Con} {e : Exit} {A : List SV × Heap × Nat} (hw : Wk c.n0 (sl, H, nx) A) (h : Post P fn c e A.1 A.2.1 A.2.2) : Post P fn c e sl H nx := by
  obtain ⟨h0, B, h1, h2⟩ := h
  exact ⟨h0, B, hw.trans h1, h2⟩

/-- A statement that is looked into only by hand. -/
structure Rnd (p : Prop) : Prop where
  out : p

/-- A loop by a family of states. -/
theorem loop_k {c : Code} {X : Type} (st : X → List SV × Heap × Nat) (μ : X → Nat) (x0 : X) (h0 : Wk n0 (sl, H, nx) (st x0))
    (h : ∀ x, ∀ K : Exit → List SV → Heap → Nat → Prop, Rnd (∀ x' sl H nx, μ x' < μ x → Wk n0 (sl, H, nx) (st x') → K .normal sl H nx) → (∀ id sl H nx, Q (.exit id) sl H nx → K (.exit id) sl H nx) → (∀ sl H nx, Q .ret sl H nx → K .ret sl H nx) → wpC P ck dr n0 c (st x).1 (st x).2.1 (st x).2.2 K) :
    wpC P ck dr n0 (.loop c) sl H nx Q := by
  refine ⟨fun m sl H nx => ∃ x, m = μ x ∧ (sl, H, nx) = st x, ⟨μ x0, st x0, h0, x0, rfl, rfl⟩, ?_⟩
  rintro m sl' H' nx' ⟨x, rfl, hx⟩
  have := h x (fun e sl' H' nx' => match e with
        | .normal => ∃ m' A, m' < μ x ∧ Wk n0 (sl', H', nx') A ∧ ∃ x, m' = μ x ∧ (A.1, A.2.1, A.2.2) = st x
        | e => Q e sl' H' nx') (Rnd.mk fun x' sl H nx hlt hw => ⟨μ x', st x', hlt, hw, x', rfl, rfl⟩) (fun _ _ _ _ hq => hq) fun _ _ _ hq => hq
  rw [← hx] at this
  exact this

theorem lex_nil {ds : List (Option Tmp)} {K : List SV → Heap → Nat → Prop} (h : K sl H nx) : lexK P ck ds [] sl H nx K := h

theorem lex_cons {ds : List (Option Tmp)} {K : List SV → Heap → Nat → Prop} {d : Option Tmp} {op : Op} {t : TypeId} {pos : String} {af : Array Edge} {l : List Oper}
    (h : ∀ KS : Eff → Prop, (∀ r rd wr nx', lexK P ck ds l (putS sl d r) (hputs H wr) nx' K → KS ⟨r, rd, wr, nx'⟩) → stepK P ck ⟨d, op, t, pos, af, none⟩ (evS sl) H nx KS) : lexK P ck ds (⟨d, op, t, pos, af, none⟩ :: l) sl H nx K :=
  .inl (h _ fun r rd wr nx' h => h)
theorem lex_esc {ds : List (Option Tmp)} {K : List SV → Heap → Nat → Prop} {d : Option Tmp} {op : Op} {t : TypeId} {pos : String} {af : Array Edge} {l : List Oper}
    (h : ∀ KS : Eff → Prop, (∀ r rd wr nx', lexK P ck ds l (putS sl d r) (hputs H wr) nx' K → KS ⟨r, rd, wr, nx'⟩) → Bnd H nx → escK P ⟨d, op, t, pos, af, none⟩ (evS sl) H nx KS) : lexK P ck ds (⟨d, op, t, pos, af, none⟩ :: l) sl H nx K :=
  .inr (h _ fun r rd wr nx' h => h)

theorem lex_move {ds : List (Option Tmp)} {K : List SV → Heap → Nat → Prop} {l : List Oper} {d : Tmp} {x : Operand} {t : TypeId} {pos : String} {af : Array Edge} (h : lexK P ck ds l (sl.set d (evS sl x)) H nx K) : lexK P ck ds (⟨some d, .move x, t, pos, af, none⟩ :: l) sl H nx K := .inl h
theorem lex_assign {ds : List (Option Tmp)} {K : List SV → Heap → Nat → Prop} {l : List Oper} {d : Tmp} {x : Operand} {t : TypeId} {pos : String} {af : Array Edge} (h : lexK P ck ds l (sl.set d (evS sl x)) H nx K) : lexK P ck ds (⟨some d, .assign x, t, pos, af, none⟩ :: l) sl H nx K := .inl h

theorem lex_guard {ds : List (Option Tmp)} {K : List SV → Heap → Nat → Prop} {dd : Option Tmp} {op : Op} {tt : TypeId} {pos : String} {af : Array Edge} {l : List Oper} {j : Nat} {want : Bool} {d : Tmp} {t : Bool} (hd : ds[j]? = some (some d)) (ht : sl[d]? = some (.c (.v (.bool t))))
    (h1 : t = want → ∀ KS : Eff → Prop, (∀ r rd wr nx', lexK P ck ds l (putS (sl.set d (.c (.v (.bool want)))) dd r) (hputs H wr) nx' K → KS ⟨r, rd, wr, nx'⟩) → stepK P ck ⟨dd, op, tt, pos, af, some (j, want)⟩ (evS (sl.set d (.c (.v (.bool want))))) H nx KS)
    (h2 : t = !want → lexK P ck ds l (putS (sl.set d (.c (.v (.bool !want)))) dd (.tup [])) H nx K) : lexK P ck ds (⟨dd, op, tt, pos, af, some (j, want)⟩ :: l) sl H nx K := by
  unfold lexK
  simp only [hd, ht]
  exact ⟨fun e => h1 e _ fun r rd wr nx' h => h, h2⟩

theorem lex_gone {ds : List (Option Tmp)} {K : List SV → Heap → Nat → Prop} {dd : Option Tmp} {op : Op} {tt : TypeId} {pos : String} {af : Array Edge} {l : List Oper} {j : Nat} {want : Bool} {d : Tmp} (hd : ds[j]? = some (some d)) (ht : sl[d]? = some (.tup []))
    (h : lexK P ck ds l (putS sl dd (.tup [])) H nx K) : lexK P ck ds (⟨dd, op, tt, pos, af, some (j, want)⟩ :: l) sl H nx K := by
  unfold lexK
  simp only [hd, ht]
  exact h

theorem sub_true {t : Bool} {p q : Prop} (h : t = true) (hp : p) : (t = true → p) ∧ (t = false → q) := ⟨fun _ => hp, fun e => by rw [h] at e; cases e⟩

end

end Go.Proofs.Ytfnhchcgieeedaa
