/-
  The engine, seventeenth part: how a text is walked, what follows behind a variable. No conditions of its own.
-/
import Derived.Test.YtmdajpgemcaefaaE16
namespace Go.Proofs.Ytmdajpgemcaefaa
set_option linter.unusedSimpArgs false
set_option linter.unusedVariables false
open Go.RowKit

section
variable {P : Program} {ck : Bool} {dr : Array Oper → List SV → Heap → Nat → (List SV → Heap → Nat → Prop) → Prop} {n0 : Nat} {sl : List SV} {H : Heap} {nx : Nat} {Q : Exit → List SV → Heap → Nat → Prop}

theorem seq_k {x y : Code} (h : ∀ K : Exit → List SV → Heap → Nat → Prop, (∀ sl H nx, wpC P ck dr n0 y sl H nx Q → K .normal sl H nx) → (∀ id sl H nx, Q (.exit id) sl H nx → K (.exit id) sl H nx) → (∀ sl H nx, Q .ret sl H nx → K .ret sl H nx) → wpC P ck dr n0 x sl H nx K) : wpC P ck dr n0 (.seq x y) sl H nx Q :=
  h _ (fun _ _ _ h => h) (fun _ _ _ _ h => h) fun _ _ _ h => h

theorem block_k {id : Nat} {c : Code} (h : ∀ K : Exit → List SV → Heap → Nat → Prop, (∀ sl H nx, Q .normal sl H nx → K .normal sl H nx) → (∀ id' sl H nx, (if id' = id then Q .normal sl H nx else Q (.exit id') sl H nx) → K (.exit id') sl H nx) → (∀ sl H nx, Q .ret sl H nx → K .ret sl H nx) → wpC P ck dr n0 c sl H nx K) :
    wpC P ck dr n0 (.block id c) sl H nx Q :=
  h _ (fun _ _ _ h => h) (fun _ _ _ _ h => h) fun _ _ _ h => h

theorem region_k {id : Nat} {l : List Oper} (h : lexK P ck l.toArray l sl H nx (Q .normal)) : wpC P ck dr n0 (.region id l.toArray false) sl H nx Q := h

theorem cond_k {c : Operand} {x y : Code} {t : Bool} (hc : evS sl c = .c (.v (.bool t))) (h1 : t = true → wpC P ck dr n0 x sl H nx Q) (h2 : t = false → wpC P ck dr n0 y sl H nx Q) : wpC P ck dr n0 (.cond c x y) sl H nx Q := by
  unfold wpC
  rw [hc]
  exact ⟨h1, h2⟩

theorem cond_go {c : Operand} {x y : Code} (h : wpC P ck dr n0 (.cond c x y) sl H nx Q) : wpC P ck dr n0 (.cond c x y) sl H nx Q := h
theorem guard_go {ops : Array Oper} {K : List SV → Heap → Nat → Prop} {dd : Option Tmp} {op : Op} {tt : TypeId} {pos : String} {af : Array Edge} {l : List Oper} {g : Nat × Bool} (h : lexK P ck ops (⟨dd, op, tt, pos, af, some g⟩ :: l) sl H nx K) : lexK P ck ops (⟨dd, op, tt, pos, af, some g⟩ :: l) sl H nx K := h
theorem step_go {o : Oper} {ev : Operand → SV} {KS : Eff → Prop} (h : stepK P ck o ev H nx KS) : stepK P ck o ev H nx KS := h
theorem skip_k (h : Q .normal sl H nx) : wpC P ck dr n0 .skip sl H nx Q := h
theorem exit_k {id : Nat} (h : Q (.exit id) sl H nx) : wpC P ck dr n0 (.exit id) sl H nx Q := h
theorem ret_k (h : Q .ret sl H nx) : wpC P ck dr n0 .ret sl H nx Q := h

/-- A statement that is looked into only by hand. -/
structure Rnd (p : Prop) : Prop where
  out : p

/-- A loop by a family of states. -/
theorem loop_k {c : Code} {X : Type} (st : X → List SV × Heap × Nat) (μ : X → Nat) (x0 : X) (h0 : Wk n0 (sl, H, nx) (st x0))
    (h : ∀ x, ∀ K : Exit → List SV → Heap → Nat → Prop, Rnd (∀ x' sl H nx, μ x' < μ x → Wk n0 (sl, H, nx) (st x') → K .normal sl H nx) → (∀ id sl H nx, Q (.exit id) sl H nx → K (.exit id) sl H nx) → (∀ sl H nx, Q .ret sl H nx → K .ret sl H nx) → wpC P ck dr n0 c (st x).1 (st x).2.1 (st x).2.2 K) :
    wpC P ck dr n0 (.loop c) sl H nx Q := by
  refine ⟨fun m sl H nx => ∃ x, m = μ x ∧ (sl, H, nx) = st x, ⟨μ x0, st x0, h0, x0, rfl, rfl⟩, ?_⟩
  rintro m sl' H' nx' ⟨x, rfl, hx⟩
  have := h x (fun e sl' H' nx' => match e with
        | .normal => ∃ m' A, m' < μ x ∧ Wk n0 (sl', H', nx') A ∧ ∃ x, m' = μ x ∧ (A.1, A.2.1, A.2.2) = st x
        | e => Q e sl' H' nx') (Rnd.mk fun x' sl H nx hlt hw => ⟨μ x', st x', hlt, hw, x', rfl, rfl⟩) (fun _ _ _ _ hq => hq) fun _ _ _ hq => hq
  rw [← hx] at this
  exact this

theorem lex_nil {ops : Array Oper} {K : List SV → Heap → Nat → Prop} (h : K sl H nx) : lexK P ck ops [] sl H nx K := h

theorem lex_cons {ops : Array Oper} {K : List SV → Heap → Nat → Prop} {d : Option Tmp} {op : Op} {t : TypeId} {pos : String} {af : Array Edge} {l : List Oper}
    (h : ∀ KS : Eff → Prop, (∀ r rd wr nx', lexK P ck ops l (putS sl d r) (hputs H wr) nx' K → KS ⟨r, rd, wr, nx'⟩) → stepK P ck ⟨d, op, t, pos, af, none⟩ (evS sl) H nx KS) : lexK P ck ops (⟨d, op, t, pos, af, none⟩ :: l) sl H nx K :=
  h _ fun r rd wr nx' h => h

theorem lex_move {ops : Array Oper} {K : List SV → Heap → Nat → Prop} {l : List Oper} {d : Tmp} {x : Operand} {t : TypeId} {pos : String} {af : Array Edge} (h : lexK P ck ops l (sl.set d (evS sl x)) H nx K) : lexK P ck ops (⟨some d, .move x, t, pos, af, none⟩ :: l) sl H nx K := h
theorem lex_assign {ops : Array Oper} {K : List SV → Heap → Nat → Prop} {l : List Oper} {d : Tmp} {x : Operand} {t : TypeId} {pos : String} {af : Array Edge} (h : lexK P ck ops l (sl.set d (evS sl x)) H nx K) : lexK P ck ops (⟨some d, .assign x, t, pos, af, none⟩ :: l) sl H nx K := h

theorem lex_guard {ops : Array Oper} {K : List SV → Heap → Nat → Prop} {dd : Option Tmp} {op : Op} {tt : TypeId} {pos : String} {af : Array Edge} {l : List Oper} {j : Nat} {want : Bool} {d : Tmp} {t : Bool} (hd : (ops[j]?).bind (·.dst) = some d) (ht : sl[d]? = some (.c (.v (.bool t))))
    (h1 : t = want → ∀ KS : Eff → Prop, (∀ r rd wr nx', lexK P ck ops l (putS (sl.set d (.c (.v (.bool want)))) dd r) (hputs H wr) nx' K → KS ⟨r, rd, wr, nx'⟩) → stepK P ck ⟨dd, op, tt, pos, af, some (j, want)⟩ (evS (sl.set d (.c (.v (.bool want))))) H nx KS)
    (h2 : t = !want → lexK P ck ops l (putS (sl.set d (.c (.v (.bool !want)))) dd .any) H nx K) : lexK P ck ops (⟨dd, op, tt, pos, af, some (j, want)⟩ :: l) sl H nx K := by
  unfold lexK
  simp only [hd, ht]
  exact ⟨fun e => h1 e _ fun r rd wr nx' h => h, h2⟩

theorem sub_true {t : Bool} {p q : Prop} (h : t = true) (hp : p) : (t = true → p) ∧ (t = false → q) := ⟨fun _ => hp, fun e => by rw [h] at e; cases e⟩

end

end Go.Proofs.Ytmdajpgemcaefaa
