/-
  The engine, twenty-third part: a law's arguments as data; from the contract of a law to its row. No conditions of its own.
-/
import Derived.Test.YtmdajpgemcaefaaE22
import Derived.Deep.Slices
namespace Go.Proofs.Ytmdajpgemcaefaa
set_option linter.unusedSimpArgs false
set_option linter.unusedVariables false
open Go.RowKit Go.ChangeShapes Go.WideShapes Go.ChangeAt Go.WideElems Go.Deep

def tiles (P : Program) : List Field → Nat → Option Nat
  | [], o => some o
  | f :: l, o => if f.offset = o then tiles P l (o + P.cellsOf f.type) else none

/-- The type is made of numbers, truth values, texts, slices and structs. -/
def goodT (P : Program) : Nat → TypeId → Bool
  | 0, _ => false
  | d + 1, t => match P.underlying t with
    | some .bool => P.cellsOf t == 1
    | some (.int _) => P.cellsOf t == 1
    | some .string => P.cellsOf t == 1
    | some (.slice e) => P.cellsOf t == 1 && decide (0 < P.cellsOf e) && goodT P d e
    | some (.struct fs) => tiles P fs.toList 0 == some (P.cellsOf t) && fs.toList.all fun f => goodT P d f.type
    | _ => false

def ShF (S : TypeId → List DC → Prop) : List Field → List DC → Prop
  | [], ds => ds = []
  | f :: l, ds => ∃ d1 d2, ds = d1 ++ d2 ∧ S f.type d1 ∧ ShF S l d2

/-- The data has the type's form. -/
def Sh (P : Program) : Nat → TypeId → List DC → Prop
  | 0, _, _ => False
  | d + 1, t, ds => match P.underlying t with
    | some .bool => ∃ b, ds = [.v (.bool b)]
    | some (.int k) => ∃ n, ds = [.v (.int k n)] ∧ (Lit.int k n).wf = true
    | some .string => ∃ s, ds = [.v (.string s)] ∧ s.size ≤ maxLen
    | some (.slice e) => ∃ es : List (List DC), ds = [.sl e (P.cellsOf e) es] ∧ es.length ≤ maxLen ∧ ∀ el ∈ es, Sh P d e el
    | some (.struct fs) => ShF (Sh P d) fs.toList ds
    | _ => False

theorem addr_spot' {w : World} {a : Addr} {u : Value} (h0 : w.cell? a = some u) : a = ⟨a.block, a.off, none⟩ := by
  have : a.spot = none := by
    unfold World.cell? at h0
    split at h0
    · split at h0
      · cases h0
      · rename_i hs
        simpa using hs
    · cases h0
  cases a; simp_all

theorem addr_add' (b o i : Nat) : (⟨b, o, none⟩ : Addr).add i = ⟨b, o + i, none⟩ := by unfold Addr.add; split <;> simp_all

section
variable {H : Type} {enc : TypeId × Value → H} {P : Program} {w : World}

theorem rd_all : ∀ (d : Nat) (t : TypeId), goodT P d t = true → ∀ (fuel : Nat) (cs : List Value) (x : DataW H × List MemPlace), DataW.trod enc P w 0 (fun _ => true) true fuel t cs = some x →
    ∃ ds, All2 (Rd w (· < w.heap.size)) ds cs ∧ Sh P d t ds ∧ ds.length = P.cellsOf t
  | 0, t, h, _, _, _, _ => by simp [goodT] at h
  | d + 1, t, h, fuel, cs, x, hx => by
    unfold goodT at h
    split at h
    · rename_i ht
      obtain ⟨b, rfl, _⟩ := DataW.trod_bool ht hx
      exact ⟨[.v (.bool b)], ⟨.v rfl, trivial⟩, by unfold Sh; rw [ht]; exact ⟨b, rfl⟩, by simp at h; simp [h]⟩
    · rename_i k ht
      obtain ⟨n, rfl, _, hw⟩ := DataW.trod_int ht hx
      exact ⟨[.v (.int k n)], ⟨.v rfl, trivial⟩, by unfold Sh; rw [ht]; exact ⟨n, rfl, hw⟩, by simp at h; simp [h]⟩
    · rename_i ht
      obtain ⟨s, rfl, _, hw⟩ := DataW.trod_string ht hx
      exact ⟨[.v (.string s)], ⟨.v rfl, trivial⟩, by unfold Sh; rw [ht]; exact ⟨s, rfl, hw⟩, by simp at h; simp [h]⟩
    · rename_i e ht
      simp only [Bool.and_eq_true, beq_iff_eq, decide_eq_true_eq] at h
      obtain ⟨⟨h1, h2⟩, h3⟩ := h
      rcases open_slice ht hx with ⟨rfl, _⟩ | ⟨a, len, cap, m, n, D, Pl, rfl, hb, hl, hm, hmm, _, hel⟩
      · refine ⟨[.sl e (P.cellsOf e) []], ⟨?_, trivial⟩, by unfold Sh; rw [ht]; exact ⟨[], rfl, Nat.zero_le _, fun el he => (by cases he)⟩, by simp [h1]⟩
        exact Rd.sl (es := []) (fun _ _ => undef) (Nat.le_refl _) (Nat.zero_le _) (fun _ => rfl) (fun e he => (by cases he)) (fun h => absurd rfl h) (fun i e j c hi => by simp at hi)
      · simp only [if_true] at hmm
        obtain ⟨V, hV⟩ := choose_lt (α := List Value × List DC) (n := len) (p := fun i v => w.cells? 0 (a.add (i * P.cellsOf e)) (P.cellsOf e) = some v.1 ∧ All2 (Rd w (· < w.heap.size)) v.2 v.1 ∧ Sh P d e v.2 ∧ v.2.length = P.cellsOf e) (fun i hi => by
          obtain ⟨cs', q1, q2⟩ := hel i (by omega)
          obtain ⟨ds, q3, q4, q5⟩ := rd_all d e h3 _ _ _ q2
          exact ⟨(cs', ds), q1, q3, q4, q5⟩)
        let es : List (List DC) := (List.range len).map fun i => (V i).2
        have hes : es.length = len := by simp [es]
        have hget : ∀ i, i < len → es[i]? = some (V i).2 := fun i hi => by simp [es, hi]
        have hsh : ∀ el ∈ es, Sh P d e el := by
          intro el he
          obtain ⟨i, hi, rfl⟩ := List.mem_map.1 he
          exact (hV i (List.mem_range.1 hi)).2.2.1
        refine ⟨[.sl e (P.cellsOf e) es], ⟨?_, trivial⟩, by unfold Sh; rw [ht]; exact ⟨es, rfl, by omega, hsh⟩, by simp [h1]⟩
        · have : Value.slice (some a) len cap = Value.slice (some a) es.length cap := by rw [hes]
          rw [this]
          refine Rd.sl (fun i j => ((V i).1[j]?).getD undef) (by omega) hm (fun h => (by cases h)) (fun e' he => ?_) (fun hne => ?_) (fun i e' j c hi hj => ?_)
          · obtain ⟨i, hi, rfl⟩ := List.mem_map.1 he
            exact (hV i (List.mem_range.1 hi)).2.2.2
          · have hpos : 0 < len := by
              rcases Nat.eq_zero_or_pos len with h0 | h0
              · exact absurd (List.eq_nil_of_length_eq_zero (by omega)) hne
              · exact h0
            have cell : ∀ i j, i < len → j < P.cellsOf e → w.cell? ((a.add (i * P.cellsOf e)).add j) = some (((V i).1[j]?).getD undef) := by
              intro i j hi hj
              obtain ⟨_, q1, q2⟩ := World.cells?_some (hV i hi).1
              rw [q2 j hj]
              have : j < (V i).1.length := by omega
              simp [this]
            have c0 := cell 0 0 hpos h2
            have e0 : (a.add (0 * P.cellsOf e)).add 0 = a := by simp [Addr.add]
            rw [e0] at c0
            have ha := addr_spot' c0
            refine ⟨a.block, a.off, congrArg some ha, World.block_lt_of_cell? w _ c0, fun i j hi hj => ?_⟩
            have := cell i j (by omega) hj
            rw [ha, addr_add', addr_add'] at this
            exact this
          · have hil : i < len := by rw [← hes]; exact (List.getElem?_eq_some_iff.1 hi).1
            rw [hget i hil] at hi
            cases hi
            obtain ⟨u, q1, q2⟩ := (hV i hil).2.1.get hj
            simp only [q1, Option.getD_some]
            exact q2
    · rename_i fs ht
      simp only [Bool.and_eq_true, beq_iff_eq, List.all_eq_true] at h
      obtain ⟨h1, h2⟩ := h
      obtain ⟨xs, m, _, _, hl, hlen, hf⟩ := DataW.trod_struct ht hx
      have hf' : ∀ f ∈ fs.toList, ∃ y, DataW.trod enc P w 0 (fun _ => true) true m f.type ((cs.drop f.offset).take (P.cellsOf f.type)) = some y := by
        intro f hfm
        obtain ⟨i, hi⟩ := List.mem_iff_getElem?.1 hfm
        have hi' : fs[i]? = some f := by simpa using hi
        have hlt : i < fs.size := (Array.getElem?_eq_some_iff.1 hi').1
        exact ⟨xs[i]'(by omega), by rw [hf i f hi']; simp [hlen, hlt]⟩
      have key : ∀ (l : List Field) (o : Nat), (∀ f ∈ l, goodT P d f.type = true) → (∀ f ∈ l, ∃ y, DataW.trod enc P w 0 (fun _ => true) true m f.type ((cs.drop f.offset).take (P.cellsOf f.type)) = some y) → tiles P l o = some (P.cellsOf t) →
          ∃ ds, All2 (Rd w (· < w.heap.size)) ds (cs.drop o) ∧ ShF (Sh P d) l ds := by
        intro l
        induction l with
        | nil =>
          intro o _ _ ho
          simp only [tiles, Option.some.injEq] at ho
          refine ⟨[], ?_, rfl⟩
          rw [List.drop_eq_nil_of_le (by omega)]
          trivial
        | cons f l ih =>
          intro o hg hy ho
          simp only [tiles] at ho
          split at ho
          · rename_i hfo
            obtain ⟨ds2, q1, q2⟩ := ih _ (fun f hf => hg f (by simp [hf])) (fun f hf => hy f (by simp [hf])) ho
            obtain ⟨y, hy⟩ := hy f (by simp)
            obtain ⟨ds1, q3, q4, q5⟩ := rd_all d f.type (hg f (by simp)) _ _ _ hy
            refine ⟨ds1 ++ ds2, ?_, ds1, ds2, rfl, q4, q2⟩
            rw [hfo] at q3
            have := q3.append q1
            rw [← List.drop_drop, List.take_append_drop] at this
            exact this
          · cases ho
      obtain ⟨ds, q1, q2⟩ := key fs.toList 0 (fun f hf => h2 f hf) hf' h1
      rw [List.drop_zero] at q1
      exact ⟨ds, q1, by unfold Sh; rw [ht]; exact q2, by rw [q1.length]; exact hl⟩
    · cases h
end

/-- The arguments of a call as a contract tells them; 'true': a struct. -/
def impA : List (Bool × List DC) → Nat → List SV × Heap × Nat
  | [], nx => ([], [], nx)
  | (b, ds) :: l, nx =>
    let r := impC ds nx
    let q := impA l r.2.2
    ((match b, r.1 with
      | true, cs => .agg cs
      | false, [c] => .c c
      | _, _ => .any) :: q.1, r.2.1 ++ q.2.1, q.2.2)

def ArgR (w : World) (F : Nat → Prop) (p : Bool × List DC) (v : Value) : Prop :=
  match p.1 with
  | true => ∃ us : List Value, v = .agg us.toArray ∧ All2 (Rd w F) p.2 us
  | false => ∃ d, p.2 = [d] ∧ Rd w F d v

theorem hget_append (l m : Heap) (f : Nat) (blk : Blk) (h : hget (l ++ m) f = some blk) : hget l f = some blk ∨ hget m f = some blk := by
  induction l with
  | nil => exact .inr h
  | cons p l ih =>
    obtain ⟨g, x⟩ := p
    simp only [List.cons_append, hget] at h ⊢
    by_cases hfg : f = g
    · rw [if_pos hfg] at h ⊢; exact .inl h
    · rw [if_neg hfg] at h ⊢; exact ih h

theorem impA_le : ∀ (l : List (Bool × List DC)) (nx : Nat), nx ≤ (impA l nx).2.2
  | [], nx => Nat.le_refl _
  | (b, ds) :: l, nx => Nat.le_trans (impC_le ds nx) (impA_le l _)

theorem impA_ok {w : World} {F : Nat → Prop} (hF : ∀ b, F b → b < w.heap.size) : ∀ (l : List (Bool × List DC)) (vs : List Value) (nx : Nat) (ρ : Nat → At) (V : Nat → Prop), All2 (ArgR w F) l vs →
    (∀ f, nx ≤ f → f < (impA l nx).2.2 → ¬ V f) →
    ∃ ρ', (∀ f, f < nx ∨ (impA l nx).2.2 ≤ f → ρ' f = ρ f) ∧ All2 (SVr (newV V nx (impA l nx).2.2) ρ') (impA l nx).1 vs ∧ Mem (newV V nx (impA l nx).2.2) ρ' (hget (impA l nx).2.1) w ∧
      ∀ f blk, hget (impA l nx).2.1 f = some blk → blk.own = false
  | [], [], nx, ρ, V, _, _ => ⟨ρ, fun _ _ => rfl, trivial, ⟨fun f blk h => (by cases h), fun f g blk blk' _ h => (by cases h)⟩, fun f blk h => (by cases h)⟩
  | [], _ :: _, _, _, _, h, _ => h.elim
  | _ :: _, [], _, _, _, h, _ => h.elim
  | (b, ds) :: l, v :: vs, nx, ρ, V, h, hV => by
    have hle := impC_le ds nx
    have hle2 := impA_le l (impC ds nx).2.2
    have hnx : (impA ((b, ds) :: l) nx).2.2 = (impA l (impC ds nx).2.2).2.2 := rfl
    rw [hnx] at hV ⊢
    obtain ⟨us, hus, hv⟩ : ∃ us, All2 (Rd w F) ds us ∧ (b = true → v = .agg us.toArray) ∧ (b = false → ∃ d, ds = [d] ∧ us = [v]) := by
      have h1 := h.1
      unfold ArgR at h1
      cases b with
      | true => obtain ⟨us, rfl, hu⟩ := h1; exact ⟨us, hu, fun _ => rfl, fun h => (by cases h)⟩
      | false => obtain ⟨d, hd, hu⟩ := h1; simp only at hd; subst hd; exact ⟨[v], ⟨hu, trivial⟩, fun h => (by cases h), fun _ => ⟨d, rfl, rfl⟩⟩
    obtain ⟨ρ1, a1, a2, a3, a4⟩ := impC_ok hF ds us nx ρ V hus fun f h1 h2 => hV f h1 (by omega)
    obtain ⟨ρ2, b1, b2, b3, b4⟩ := impA_ok hF l vs (impC ds nx).2.2 ρ1 (newV V nx (impC ds nx).2.2) h.2 fun f h1 h2 h3 => by
      rcases h3 with h3 | h3
      · exact hV f (by omega) h2 h3
      · omega
    have nv : ∀ f, newV (newV V nx (impC ds nx).2.2) (impC ds nx).2.2 (impA l (impC ds nx).2.2).2.2 f → newV V nx (impA l (impC ds nx).2.2).2.2 f := by
      rintro f ((hf | hf) | hf)
      · exact .inl hf
      · exact .inr (by omega)
      · exact .inr (by omega)
    have old : ∀ f, newV V nx (impC ds nx).2.2 f → newV V nx (impA l (impC ds nx).2.2).2.2 f ∧ ρ2 f = ρ1 f := by
      intro f hf
      refine ⟨nv f (.inl hf), b1 f ?_⟩
      rcases hf with hf | hf
      · by_cases h1 : f < (impC ds nx).2.2
        · exact .inl h1
        · by_cases h2 : f < (impA l (impC ds nx).2.2).2.2
          · exact absurd hf (hV f (by omega) h2)
          · exact .inr (by omega)
      · exact .inl hf.2
    refine ⟨ρ2, fun f hf => ?_, ⟨?_, b2.mono fun x u hx => hx.mono fun f hf => ⟨nv f hf, rfl⟩⟩, ⟨fun f blk hb => ?_, fun f g blk blk' hne hb ho => ?_⟩, fun f blk hb => ?_⟩
    · rw [b1 f (by omega), a1 f (by omega)]
    · have c2 := a2.mono (R' := CVr (newV V nx (impA l (impC ds nx).2.2).2.2) ρ2) fun x u hx => CVr.mono old hx
      cases b with
      | true => exact ⟨us, hv.1 rfl, c2⟩
      | false =>
        obtain ⟨d, rfl, rfl⟩ := hv.2 rfl
        have hl := a2.length
        show SVr _ _ (match false, (impC [d] nx).1 with | true, cs => .agg cs | false, [c] => .c c | _, _ => .any) v
        generalize (impC [d] nx).1 = L at c2 hl
        match L, hl, c2 with
        | [c], _, c2 => exact c2.1
    · rcases hget_append _ _ f blk hb with h1 | h1
      · obtain ⟨q1, q2, q3⟩ := a3.dom f blk h1
        obtain ⟨q4, q5⟩ := old f q1
        rw [q5]
        exact ⟨q4, q2.keep old (fun _ _ => rfl), q3⟩
      · obtain ⟨q1, q2, q3⟩ := b3.dom f blk h1
        exact ⟨nv f q1, q2.keep (fun f hf => ⟨nv f hf, rfl⟩) (fun _ _ => rfl), q3⟩
    · exfalso
      rcases hget_append _ _ f blk hb with h1 | h1
      · rw [(a4 f blk h1).1] at ho; cases ho
      · rw [b4 f blk h1] at ho; cases ho
    · rcases hget_append _ _ f blk hb with h1 | h1
      · exact (a4 f blk h1).1
      · exact b4 f blk h1

/-- A law that keeps to its contract. -/
theorem law_calls {P : Program} {f : FuncId} {w : World} {l : List (Bool × List DC)} {vs : List Value} (ha : All2 (ArgR w (· < w.heap.size)) l vs)
    (h : FnOK P f ⟨(impA l 0).2.2, (impA l 0).2.1, (impA l 0).1, .c (.v (.bool true)), [], (impA l 0).2.2⟩) : Calls P f vs.toArray w fun e w' => e = .returned (.bool true) ∧ Below w.heap.size w w' := by
  obtain ⟨ρ, h1, h2, h3, h4⟩ := impA_ok (fun _ h => h) l vs 0 (fun _ => ⟨none, 0, 0, 0, True, fun _ => False⟩) (fun _ => False) ha (fun _ _ _ h => h)
  have e : ∀ f, newV (fun _ => False) 0 (impA l 0).2.2 f → f < (impA l 0).2.2 ∧ ρ f = ρ f := by
    rintro f (hf | hf)
    · exact hf.elim
    · exact ⟨hf.2, rfl⟩
  refine (h.1.2 ρ vs w (h2.mono fun x u hx => hx.mono e) ⟨fun f blk hb => ?_, h3.sep⟩).mono fun x w' hx => ?_
  · obtain ⟨q1, q2, q3⟩ := h3.dom f blk hb
    exact ⟨(e f q1).1, q2.keep e (fun _ _ => rfl), q3⟩
  · obtain ⟨u, ρ', rfl, hd⟩ := hx
    refine ⟨?_, ⟨hd.os, hd.tape, hd.output, hd.size, fun k hk => hd.block k hk fun g x hg => (by cases hg)⟩⟩
    have := hd.val
    exact congrArg _ this.1

end Go.Proofs.Ytmdajpgemcaefaa
