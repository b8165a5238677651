/-
  The engine, fifteenth part: regions, code, functions. No conditions of its own.
-/
import Derived.Test.YtmdajpgemcaefaaE14
import Derived.Scope
namespace Go.Proofs.Ytmdajpgemcaefaa
set_option linter.unusedSimpArgs false
set_option linter.unusedVariables false
open Go.RowKit

/-- The state holds of a frame and a world, under some places of its blocks. -/
structure Ctx where
  B : Nat
  T : Nat → Prop
  w0 : World
  n0 : Nat
  ρ0 : Nat → At

def Sat (X : Ctx) (sl : List SV) (H : Heap) (nx : Nat) (a : Act) (w : World) : Prop :=
  ∃ V ρ, (∀ f, V f → f < nx) ∧ (X.n0 ≤ nx ∧ ∀ f, f < X.n0 → ρ f = X.ρ0 f) ∧ St V ρ sl H X.B X.T X.w0 a w

theorem St.bnd {V : Nat → Prop} {ρ : Nat → At} {sl : List SV} {H : Heap} {B : Nat} {T : Nat → Prop} {w0 : World} {a : Act} {w : World} {nx : Nat} (h : St V ρ sl H B T w0 a w) (hV : ∀ f, V f → f < nx) : Bnd H nx :=
  fun f blk hb => hV f (h.mem.dom f blk hb).1

section
variable {X : Ctx}

theorem Sat.step {P : Program} {o : Oper} {sl : List SV} {H : Heap} {nx : Nat} {ck : Bool} {a : Act} {w : World} {K : Act → World → Prop} {Q : Exit → Act → World → Prop} {KS : Eff → Prop} (h : Sat X sl H nx a w) (hk : stepK P ck o (evS sl) H nx KS)
    (hK : ∀ e, KS e → ∀ a' w', Sat X (putS sl o.dst e.r) (hputs H e.wr) e.nx a' w' → K a' w') : o.wp P a w K Q := by
  obtain ⟨V, ρ, hV, ⟨hn, h0⟩, hst⟩ := h
  obtain ⟨e, h1, h2, h3⟩ := stepK_ok (hst.bnd hV) hk
  refine hst.stepS (fun f hf => .inl (hV f hf)) h1 h2 fun a' w' ρ' hst' hs => hK e h3 a' w' ⟨_, ρ', fun f hf => ?_, ⟨Nat.le_trans hn h1.le, fun f hf => (hs f (.inl (by omega))).trans (h0 f hf)⟩, hst'⟩
  rcases hf with hf | hf
  · exact Nat.lt_of_lt_of_le (hV f hf) h1.le
  · exact hf.2

theorem Sat.put {sl : List SV} {H : Heap} {nx : Nat} {a : Act} {w : World} (h : Sat X sl H nx a w) (d : Option Tmp) (u : Value) : Sat X (putS sl d .any) H nx (a.put d u) w := by
  obtain ⟨V, ρ, hV, h0, hst⟩ := h
  refine ⟨V, ρ, hV, h0, ⟨putS_r hst.slots d trivial, ?_, hst.mem, hst.base, hst.os, hst.tape, hst.output, hst.size, hst.block, hst.le⟩⟩
  cases d <;> simp [Act.put, hst.defers]

/-- The slot d holds what it held. -/
theorem Sat.same {sl : List SV} {H : Heap} {nx : Nat} {a : Act} {w : World} (h : Sat X sl H nx a w) {d : Nat} {t t' : Bool} (hd : sl[d]? = some (.c (.v (.bool t)))) (e : t = t') : Sat X (sl.set d (.c (.v (.bool t')))) H nx a w := by
  subst e
  have : sl.set d (.c (.v (.bool t))) = sl := by
    apply List.ext_getElem?
    intro i
    rw [List.getElem?_set]
    split
    · rename_i e; subst e
      split
      · exact hd.symm
      · rename_i hlt; rw [List.getElem?_eq_none (by omega)]
    · rfl
  rw [this]; exact h

theorem Sat.slot {sl : List SV} {H : Heap} {nx : Nat} {a : Act} {w : World} (h : Sat X sl H nx a w) {d : Nat} {x : Value} (hd : sl[d]? = some (.c (.v x))) : a.tmps[d]? = some x := by
  obtain ⟨V, ρ, hV, h0, hst⟩ := h
  obtain ⟨u, hu, hr⟩ := hst.slots.get hd
  rw [hr.1] at hu
  simpa using hu
end

/-- One operation behind the other. -/
def lexK (P : Program) (ck : Bool) (ops : Array Oper) : List Oper → List SV → Heap → Nat → (List SV → Heap → Nat → Prop) → Prop
  | [], sl, H, nx, K => K sl H nx
  | o :: l, sl, H, nx, K => match o.guard with
    | none => stepK P ck o (evS sl) H nx fun e => lexK P ck ops l (putS sl o.dst e.r) (hputs H e.wr) e.nx K
    | some (j, want) => match (ops[j]?).bind (·.dst) with
      | some d => match sl[d]? with
        | some (.c (.v (.bool t))) =>
          (t = want → stepK P ck o (evS (sl.set d (.c (.v (.bool want))))) H nx fun e => lexK P ck ops l (putS (sl.set d (.c (.v (.bool want)))) o.dst e.r) (hputs H e.wr) e.nx K) ∧
          (t = !want → lexK P ck ops l (putS (sl.set d (.c (.v (.bool !want)))) o.dst .any) H nx K)
        | _ => False
      | none => False

theorem lexK_ok {P : Program} {ck : Bool} {ops : Array Oper} {X : Ctx} {Q : Exit → Act → World → Prop} {K : List SV → Heap → Nat → Prop}
    (hQ : ∀ sl H nx a w, K sl H nx → Sat X sl H nx a w → Q .normal a w) : ∀ (l : List Oper) (sl : List SV) (H : Heap) (nx : Nat) (a : Act) (w : World), lexK P ck ops l sl H nx K → Sat X sl H nx a w → wpList P ops Q l a w
  | [], sl, H, nx, a, w, h, hs => hQ sl H nx a w h hs
  | o :: l, sl, H, nx, a, w, h, hs => by
    unfold lexK at h
    unfold wpList
    cases hg : o.guard with
    | none =>
      rw [hg] at h
      rw [if_pos (by simp [Region.wanted, hg])]
      exact .inl (hs.step h fun e he a' w' hs' => lexK_ok hQ l _ _ _ a' w' he hs')
    | some p =>
      obtain ⟨j, want⟩ := p
      rw [hg] at h
      simp only at h
      split at h
      · rename_i d hd
        split at h
        · rename_i t ht
          have hy : yielded ops a.tmps j = some t := by
            unfold yielded
            rw [hd]
            simp only [Option.bind_some, hs.slot ht]
          by_cases htw : t = want
          · rw [if_pos (by simp [Region.wanted, hg, hy, htw])]
            exact .inl ((hs.same ht htw).step (h.1 htw) fun e he a' w' hs' => lexK_ok hQ l _ _ _ a' w' he hs')
          · rw [if_neg (by simp [Region.wanted, hg, hy, htw])]
            have htw' : t = !want := by cases t <;> cases want <;> simp_all
            exact lexK_ok hQ l _ _ _ _ w (h.2 htw') ((hs.same ht htw').put o.dst undef)
        · exact h.elim
      · exact h.elim

/-- Each state of the first kind is one of the second. -/
def Wk (n0 : Nat) (A A' : List SV × Heap × Nat) : Prop := ∀ X a w, X.n0 = n0 → Sat X A.1 A.2.1 A.2.2 a w → Sat X A'.1 A'.2.1 A'.2.2 a w

/-- What is asked of a text that is begun in a state. -/
def wpC (P : Program) (ck : Bool) (dr : Array Oper → List SV → Heap → Nat → (List SV → Heap → Nat → Prop) → Prop) (n0 : Nat) : Code → List SV → Heap → Nat → (Exit → List SV → Heap → Nat → Prop) → Prop
  | .skip, sl, H, nx, Q => Q .normal sl H nx
  | .region _ ops d, sl, H, nx, Q => match d with
    | false => lexK P ck ops ops.toList sl H nx (Q .normal)
    | true => dr ops sl H nx (Q .normal)
  | .seq x y, sl, H, nx, Q => wpC P ck dr n0 x sl H nx fun e sl H nx => match e with
    | .normal => wpC P ck dr n0 y sl H nx Q
    | e => Q e sl H nx
  | .cond c x y, sl, H, nx, Q => match evS sl c with
    | .c (.v (.bool t)) => (t = true → wpC P ck dr n0 x sl H nx Q) ∧ (t = false → wpC P ck dr n0 y sl H nx Q)
    | _ => False
  | .block id c, sl, H, nx, Q => wpC P ck dr n0 c sl H nx fun e sl H nx => match e with
    | .exit id' => if id' = id then Q .normal sl H nx else Q (.exit id') sl H nx
    | e => Q e sl H nx
  | .loop c, sl, H, nx, Q => ∃ I : Nat → List SV → Heap → Nat → Prop, (∃ m A, Wk n0 (sl, H, nx) A ∧ I m A.1 A.2.1 A.2.2) ∧
      ∀ m sl H nx, I m sl H nx → wpC P ck dr n0 c sl H nx fun e sl' H' nx' => match e with
        | .normal => ∃ m' A, m' < m ∧ Wk n0 (sl', H', nx') A ∧ I m' A.1 A.2.1 A.2.2
        | e => Q e sl' H' nx'
  | .exit id, sl, H, nx, Q => Q (.exit id) sl H nx
  | .label _, sl, H, nx, Q => Q .normal sl H nx
  | .ret, sl, H, nx, Q => Q .ret sl H nx
  | _, _, _, _, _ => False

def DrOK (P : Program) (dr : Array Oper → List SV → Heap → Nat → (List SV → Heap → Nat → Prop) → Prop) : Prop :=
  ∀ (id : Nat) (ops : Array Oper) (sl : List SV) (H : Heap) (nx : Nat) (K : List SV → Heap → Nat → Prop) (Q : Exit → Act → World → Prop) (X : Ctx) (a : Act) (w : World), dr ops sl H nx K → Sat X sl H nx a w →
    (∀ sl H nx a w, K sl H nx → Sat X sl H nx a w → Q .normal a w) → (Code.region id ops true).wp P Q a w

theorem wpC_ok {P : Program} {ck : Bool} {dr : Array Oper → List SV → Heap → Nat → (List SV → Heap → Nat → Prop) → Prop} (hdr : DrOK P dr) {X : Ctx} {n0 : Nat} (hn : X.n0 = n0) : ∀ (c : Code) (sl : List SV) (H : Heap) (nx : Nat) (Q : Exit → List SV → Heap → Nat → Prop) (Q' : Exit → Act → World → Prop) (a : Act) (w : World),
    (∀ e sl H nx a w, Q e sl H nx → Sat X sl H nx a w → Q' e a w) → wpC P ck dr n0 c sl H nx Q → Sat X sl H nx a w → c.wp P Q' a w
  | .skip, sl, H, nx, Q, Q', a, w, hQ, h, hs => wp_skip (hQ _ _ _ _ _ _ h hs)
  | .region id ops d, sl, H, nx, Q, Q', a, w, hQ, h, hs => by
    cases d with
    | false => exact wp_region_list (lexK_ok (fun sl H nx a w hk hs => hQ _ _ _ _ _ _ hk hs) ops.toList sl H nx a w h hs)
    | true => exact hdr id ops sl H nx _ Q' X a w h hs fun sl H nx a w hk hs => hQ _ _ _ _ _ _ hk hs
  | .seq x y, sl, H, nx, Q, Q', a, w, hQ, h, hs => by
    refine wp_seq (wpC_ok hdr hn x sl H nx _ _ a w (fun e sl H nx a w he hs => ?_) h hs)
    cases e with
    | normal => exact wpC_ok hdr hn y sl H nx Q Q' a w hQ he hs
    | exit id => exact hQ _ _ _ _ _ _ he hs
    | goto l => exact hQ _ _ _ _ _ _ he hs
    | ret => exact hQ _ _ _ _ _ _ he hs
    | panic ch => exact hQ _ _ _ _ _ _ he hs
    | outgrown => exact hQ _ _ _ _ _ _ he hs
  | .cond c x y, sl, H, nx, Q, Q', a, w, hQ, h, hs => by
    unfold wpC at h
    split at h
    · rename_i t ht
      have hc : a.eval c = .bool t := by
        obtain ⟨V, ρ, hV, h0, hst⟩ := hs
        have := evS_r hst.slots c
        rw [ht] at this
        exact this.1
      exact wp_cond_split hc (fun e => wpC_ok hdr hn x sl H nx Q Q' a w hQ (h.1 e) hs) (fun e => wpC_ok hdr hn y sl H nx Q Q' a w hQ (h.2 e) hs)
    · exact h.elim
  | .block id c, sl, H, nx, Q, Q', a, w, hQ, h, hs => by
    refine wp_block (wpC_ok hdr hn c sl H nx _ _ a w (fun e sl H nx a w he hs => ?_) h hs)
    cases e with
    | exit id' =>
      simp only at he
      unfold Exit.inBlock
      simp only
      split
      · rename_i hid; rw [if_pos hid] at he; exact hQ _ _ _ _ _ _ he hs
      · rename_i hid; rw [if_neg hid] at he; exact hQ _ _ _ _ _ _ he hs
    | normal => exact hQ _ _ _ _ _ _ he hs
    | goto l => exact hQ _ _ _ _ _ _ he hs
    | ret => exact hQ _ _ _ _ _ _ he hs
    | panic ch => exact hQ _ _ _ _ _ _ he hs
    | outgrown => exact hQ _ _ _ _ _ _ he hs
  | .loop c, sl, H, nx, Q, Q', a, w, hQ, h, hs => by
    obtain ⟨I, ⟨m, A, hw, hI⟩, hround⟩ := h
    let J : Nat → Act → World → Prop := fun m a w => ∃ A : List SV × Heap × Nat, I m A.1 A.2.1 A.2.2 ∧ Sat X A.1 A.2.1 A.2.2 a w
    have hmin : ∀ a w, (∃ m, J m a w) → ∃ m, J m a w ∧ ∀ m', J m' a w → m ≤ m' := by
      intro a w ⟨m, hm⟩
      induction m using Nat.strongRecOn with
      | _ m ih =>
        by_cases hl : ∃ m', m' < m ∧ J m' a w
        · obtain ⟨m', h1, h2⟩ := hl
          exact ih m' h1 h2
        · refine ⟨m, hm, fun m' h' => ?_⟩
          rcases Nat.lt_or_ge m' m with h1 | h1
          · exact absurd ⟨m', h1, h'⟩ hl
          · exact h1
    classical
    let μ : Act → World → Nat := fun a w => if h : ∃ m, J m a w then Classical.choose (hmin a w h) else 0
    have hμ : ∀ a w (h : ∃ m, J m a w), J (μ a w) a w ∧ ∀ m', J m' a w → μ a w ≤ m' := by
      intro a w h
      have := Classical.choose_spec (hmin a w h)
      simp only [μ, dif_pos h]
      exact this
    refine wp_loop (fun a w => ∃ m, J m a w) μ ⟨m, A, hI, hw X a w hn hs⟩ fun a w hJ => ?_
    obtain ⟨⟨A, h1, h2⟩, _⟩ := hμ a w hJ
    refine wpC_ok hdr hn c A.1 A.2.1 A.2.2 _ _ a w (fun e sl H nx a' w' he hs => ?_) (hround _ _ _ _ h1) h2
    cases e with
    | normal =>
      obtain ⟨m', A', q1, q2, q3⟩ := he
      have hJ' : J m' a' w' := ⟨A', q3, q2 X a' w' hn hs⟩
      exact ⟨⟨m', hJ'⟩, Nat.lt_of_le_of_lt ((hμ a' w' ⟨m', hJ'⟩).2 m' hJ') q1⟩
    | exit id => exact hQ _ _ _ _ _ _ he hs
    | goto l => exact hQ _ _ _ _ _ _ he hs
    | ret => exact hQ _ _ _ _ _ _ he hs
    | panic ch => exact hQ _ _ _ _ _ _ he hs
    | outgrown => exact hQ _ _ _ _ _ _ he hs
  | .exit id, sl, H, nx, Q, Q', a, w, hQ, h, hs => wp_exit (hQ _ _ _ _ _ _ h hs)
  | .label l, sl, H, nx, Q, Q', a, w, hQ, h, hs => wp_label (hQ _ _ _ _ _ _ h hs)
  | .ret, sl, H, nx, Q, Q', a, w, hQ, h, hs => wp_ret (hQ _ _ _ _ _ _ h hs)
  | .rangeFunc .., sl, H, nx, Q, Q', a, w, hQ, h, hs => h.elim
  | .scope c, sl, H, nx, Q, Q', a, w, hQ, h, hs => h.elim
  | .goto l, sl, H, nx, Q, Q', a, w, hQ, h, hs => h.elim
  | .refuse s, sl, H, nx, Q, Q', a, w, hQ, h, hs => h.elim

end Go.Proofs.Ytmdajpgemcaefaa
