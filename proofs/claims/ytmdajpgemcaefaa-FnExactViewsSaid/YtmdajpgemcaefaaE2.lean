/-
  The engine, second part: a state of a whole function, and that an operation's effect carries a state to a state. No conditions of its own.
-/
import Derived.Test.YtmdajpgemcaefaaE1
namespace Go.Proofs.Ytmdajpgemcaefaa
set_option linter.unusedSimpArgs false
set_option linter.unusedVariables false
open Go.RowKit

/-- A state: slots, blocks; what the call may write (blocks from B on, and those in T); the world is w0 but for these. -/
structure St (V : Nat → Prop) (ρ : Nat → At) (sl : List SV) (H : Heap) (B : Nat) (T : Nat → Prop) (w0 : World) (a : Act) (w : World) : Prop where
  slots : All2 (SVr V ρ) sl a.tmps.toList
  defers : a.defers = []
  mem : Mem V ρ (hget H) w
  base : ∀ f blk, hget H f = some blk → blk.own = true → ∀ b, (ρ f).F b → B ≤ b ∨ T b
  os : w.os = w0.os
  tape : w.tape = w0.tape
  output : w.output = w0.output
  size : w0.heap.size ≤ w.heap.size
  block : ∀ k, k < w0.heap.size → k < B → ¬ T k → w.heap[k]? = w0.heap[k]?
  le : B ≤ w0.heap.size

def svOf : Value → SV
  | .slice none 0 0 => .c .nil
  | .agg _ => .any
  | .tuple _ => .any
  | x => .c (.v x)

theorem svOf_r (V : Nat → Prop) (ρ : Nat → At) (x : Value) : SVr V ρ (svOf x) x := by
  unfold svOf
  split
  · rfl
  · trivial
  · trivial
  · rename_i h1 h2 h3
    refine ⟨rfl, ?_⟩
    cases x <;> first | rfl | (exfalso; first | exact h2 _ rfl | exact h3 _ rfl)

def evS (sl : List SV) : Operand → SV
  | .tmp t => (sl[t]?).getD .any
  | .const v => svOf v
  | _ => .any

theorem evS_r {V : Nat → Prop} {ρ : Nat → At} {sl : List SV} {a : Act} (h : All2 (SVr V ρ) sl a.tmps.toList) (x : Operand) : SVr V ρ (evS sl x) (a.eval x) := by
  cases x with
  | tmp t =>
    cases hs : sl[t]? with
    | none => simp only [evS, hs]; trivial
    | some s =>
      have e0 : evS sl (.tmp t) = s := by simp [evS, hs]
      rw [e0]
      obtain ⟨u, hu, hr⟩ := h.get hs
      have e : a.eval (.tmp t) = u := by
        have : a.tmps[t]? = some u := by simpa using hu
        simp [Act.eval, Array.getD_eq_getD_getElem?, this]
      rw [e]; exact hr
  | const v => exact svOf_r V ρ v
  | global g => trivial
  | func f => trivial

def putS (sl : List SV) : Option Tmp → SV → List SV
  | some d, r => sl.set d r
  | none, _ => sl

theorem putS_r {V : Nat → Prop} {ρ : Nat → At} {sl : List SV} {a : Act} (h : All2 (SVr V ρ) sl a.tmps.toList) (d : Option Tmp) {r : SV} {u : Value} (hr : SVr V ρ r u) :
    All2 (SVr V ρ) (putS sl d r) (a.put d u).tmps.toList := by
  cases d with
  | none => exact h
  | some d =>
    simp only [putS, Act.put, Array.toList_setIfInBounds]
    exact h.set d hr

theorem hput_keys (H : Heap) (l : List (Nat × Option Blk)) (hn : (l.map (·.1)).Nodup) (g : Nat) : hget (hputs H l) g = if g ∈ l.map (·.1) then hget l g else hget H g := by
  induction l generalizing H with
  | nil => simp [hputs]
  | cons p l ih =>
    obtain ⟨f, b⟩ := p
    simp only [List.map_cons, List.nodup_cons] at hn
    simp only [hputs]
    rw [ih _ hn.2, hget_hput]
    simp only [List.map_cons, List.mem_cons, hget]
    by_cases h1 : g = f
    · subst h1; simp [hn.1]
    · simp only [h1, if_false, false_or]

theorem hget_mem {l : Heap} {f : Nat} {x : Blk} (h : hget l f = some x) : (f, some x) ∈ l := by
  induction l with
  | nil => cases h
  | cons p l ih =>
    obtain ⟨g, y⟩ := p
    simp only [hget] at h
    split at h
    · rename_i e; subst e; subst h; exact List.mem_cons_self
    · exact List.mem_cons_of_mem _ (ih h)

theorem hget_none {l : Heap} {f : Nat} (h : f ∉ l.map (·.1)) : hget l f = none := by
  induction l with
  | nil => rfl
  | cons p l ih =>
    obtain ⟨g, y⟩ := p
    simp only [List.map_cons, List.mem_cons, not_or] at h
    simp only [hget, if_neg h.1]
    exact ih h.2

/-- An effect carries the memory on. -/
theorem Mem.step {V : Nat → Prop} {ρ ρ' : Nat → At} {H : Heap} {nx : Nat} {w w' : World} {e : Eff} {u : Value} (hm : Mem V ρ (hget H) w) (hf : Fit H nx e)
    (hd : Done V ρ H nx w e u ρ' w') (hV : ∀ f, V f → f < nx ∨ e.nx ≤ f) : Mem (newV V nx e.nx) ρ' (hget (hputs H e.wr)) w' := by
  have hρ : ∀ f, V f → newV V nx e.nx f ∧ ρ' f = ρ f := fun f h => ⟨.inl h, hd.same f (hV f h)⟩
  have old : ∀ g, g ∉ e.wr.map (·.1) → ∀ blk, hget H g = some blk → ∀ b, (ρ g).F b → w'.heap[b]? = w.heap[b]? := by
    intro g hg blk hb b hF
    have h3 := (hm.dom g blk hb).2.2 b hF
    refine hd.block b h3 fun g' x hx hlt hF' => ?_
    obtain ⟨hrd, blk', hb', ho'⟩ := (hf.key g' x hx).2 hlt
    have hne : g' ≠ g := fun e0 => hg (by subst e0; exact List.mem_map.2 ⟨_, hx, rfl⟩)
    exact hm.sep g' g blk' blk hne hb' ho' hb b hF' hF
  have nn : ∀ f blk g blk', f ∈ e.wr.map (·.1) → hget e.wr f = some blk → g ∉ e.wr.map (·.1) → hget H g = some blk' → (blk.own = true ∨ blk'.own = true) → ∀ b, (ρ' f).F b → ¬ (ρ' g).F b := by
    intro f blk g blk' hf1 hf2 hg1 hg2 hown b hF hF'
    obtain ⟨hVg, _, hlt⟩ := hm.dom g blk' hg2
    rw [(hρ g hVg).2] at hF'
    rcases hd.foot f blk hf2 b hF with h1 | ⟨g', x, h1, h2, h3⟩ | ⟨h1, g', h2, blk2, h3, h4, h5⟩
    · have := hlt b hF'; omega
    · obtain ⟨_, blk2, hb2, ho2⟩ := (hf.key g' x h1).2 h2
      have hne : g' ≠ g := fun e0 => hg1 (by subst e0; exact List.mem_map.2 ⟨_, h1, rfl⟩)
      exact hm.sep g' g blk2 blk' hne hb2 ho2 hg2 b h3 hF'
    · rcases hown with ho | ho
      · rw [h1] at ho; cases ho
      · have hne : g ≠ g' := fun e0 => by subst e0; rw [hg2] at h3; cases h3; rw [h4] at ho; cases ho
        exact hm.sep g g' blk' blk2 hne hg2 ho h3 b hF' h5
  constructor
  · intro f blk hb
    rw [hput_keys _ _ hf.nodup] at hb
    split at hb
    · exact hd.mem.dom f blk hb
    · rename_i hn
      obtain ⟨h1, h2, h3⟩ := hm.dom f blk hb
      obtain ⟨h4, h5⟩ := hρ f h1
      rw [h5]
      exact ⟨h4, h2.keep hρ (old f hn blk hb), fun b hF => Nat.lt_of_lt_of_le (h3 b hF) hd.size⟩
  · intro f g blk blk' hne hb ho hb' b hF hF'
    rw [hput_keys _ _ hf.nodup] at hb hb'
    split at hb
    · rename_i h1
      split at hb'
      · exact hd.mem.sep f g blk blk' hne hb ho hb' b hF hF'
      · rename_i h2
        exact nn f blk g blk' h1 hb h2 hb' (.inl ho) b hF hF'
    · rename_i h1
      split at hb'
      · rename_i h2
        exact nn g blk' f blk h2 hb' h1 hb (.inr ho) b hF' hF
      · rename_i h2
        obtain ⟨h3, _, _⟩ := hm.dom f blk hb
        obtain ⟨h4, _, _⟩ := hm.dom g blk' hb'
        rw [(hρ f h3).2] at hF
        rw [(hρ g h4).2] at hF'
        exact hm.sep f g blk blk' hne hb ho hb' b hF hF'

theorem Mem.look {V : Nat → Prop} {ρ : Nat → At} {H : Heap} {w : World} (h : Mem V ρ (hget H) w) (rd : List Nat) : Mem V ρ (looked H rd) w := by
  have e : ∀ f blk, looked H rd f = some blk → hget H f = some blk := by
    intro f blk hb; unfold looked at hb; split at hb
    · exact hb
    · cases hb
  exact ⟨fun f blk hb => h.dom f blk (e f blk hb), fun f g blk blk' hne hb ho hb' => h.sep f g blk blk' hne (e f blk hb) ho (e g blk' hb')⟩

/-- An operation's effect carries a state to a state. -/
theorem St.stepS {P : Program} {o : Oper} {V : Nat → Prop} {ρ : Nat → At} {sl : List SV} {H : Heap} {B : Nat} {T : Nat → Prop} {w0 : World} {a : Act} {w : World} {nx : Nat} {e : Eff}
    {K : Act → World → Prop} {Q : Exit → Act → World → Prop} (h : St V ρ sl H B T w0 a w) (hV : ∀ f, V f → f < nx ∨ e.nx ≤ f) (hf : Fit H nx e) (hok : EffOK P o (evS sl) H nx e)
    (hK : ∀ a' w' ρ', St (newV V nx e.nx) ρ' (putS sl o.dst e.r) (hputs H e.wr) B T w0 a' w' → (∀ f, f < nx ∨ e.nx ≤ f → ρ' f = ρ f) → K a' w') : o.wp P a w K Q := by
  refine hok V ρ a w K Q (fun f h1 h2 hv => ?_) (evS_r h.slots) (h.mem.look e.rd) fun u ρ' w' hd => ?_
  · have := hV f hv; omega
  have hρ : ∀ f, V f → newV V nx e.nx f ∧ ρ' f = ρ f := fun f h => ⟨.inl h, hd.same f (hV f h)⟩
  have fr : ∀ k, B ≤ k ∨ T k ∨ (k < w.heap.size → w'.heap[k]? = w.heap[k]?) := by
    intro k
    by_cases h1 : ∃ g x, (g, x) ∈ e.wr ∧ g < nx ∧ (ρ g).F k
    · obtain ⟨g, x, h2, h3, h4⟩ := h1
      obtain ⟨_, blk, h5, h6⟩ := (hf.key g x h2).2 h3
      rcases h.base g blk h5 h6 k h4 with h7 | h7
      · exact .inl h7
      · exact .inr (.inl h7)
    · exact .inr (.inr fun hk => hd.block k hk fun g x h2 h3 h4 => h1 ⟨g, x, h2, h3, h4⟩)
  refine hK _ w' ρ' ⟨putS_r (h.slots.mono fun _ _ => SVr.mono hρ) o.dst hd.val, ?_, h.mem.step hf hd hV, ?_, hd.os.trans h.os, hd.tape.trans h.tape, hd.output.trans h.output, Nat.le_trans h.size hd.size, ?_, h.le⟩ hd.same
  · cases ho : o.dst <;> simp [Act.put, h.defers]
  · intro f blk hb ho b hF
    rw [hput_keys _ _ hf.nodup] at hb
    split at hb
    · rcases hd.foot f blk hb b hF with h1 | ⟨g', x, h1, h2, h3⟩ | ⟨h1, _⟩
      · left; have := h.size; have := h.le; omega
      · obtain ⟨_, blk2, hb2, ho2⟩ := (hf.key g' x h1).2 h2
        exact h.base g' blk2 hb2 ho2 b h3
      · rw [h1] at ho; cases ho
    · rw [(hρ f (h.mem.dom f blk hb).1).2] at hF
      exact h.base f blk hb ho b hF
  · intro k hk hkB hT
    rcases fr k with h1 | h1 | h1
    · omega
    · exact absurd h1 hT
    · rw [h1 (Nat.lt_of_lt_of_le hk h.size)]; exact h.block k hk hkB hT

end Go.Proofs.Ytmdajpgemcaefaa
