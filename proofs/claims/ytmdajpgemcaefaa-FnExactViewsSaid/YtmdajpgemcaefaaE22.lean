/-
  The engine, twenty-second part: how a call sees the caller's blocks, reckoned; loops that keep what they do not touch. No conditions of its own.
-/
import Derived.Test.YtmdajpgemcaefaaE21
namespace Go.Proofs.Ytmdajpgemcaefaa
set_option linter.unusedSimpArgs false
set_option linter.unusedVariables false
open Go.RowKit

def matC (pre : Heap) : CV → CV → List (Nat × Vw)
  | .sl i _ _ _, .sl g _ b m => [(i, match hget pre i with | some (.ro _) => .ro g b m | _ => .same g)]
  | .sl i sz _ _, .nil => [(i, .emp sz)]
  | .ptr i _ _, .ptr g _ _ => [(i, .same g)]
  | _, _ => []

def matL (pre : Heap) : List CV → List CV → List (Nat × Vw)
  | x :: l, y :: m => matC pre x y ++ matL pre l m
  | _, _ => []

def matT (pre : Heap) : List (CV ⊕ List CV) → List (CV ⊕ List CV) → List (Nat × Vw)
  | .inl x :: l, .inl y :: m => matC pre x y ++ matT pre l m
  | .inr x :: l, .inr y :: m => matL pre x y ++ matT pre l m
  | _, _ => []

def matS (pre : Heap) : SV → SV → List (Nat × Vw)
  | .c x, .c y => matC pre x y
  | .agg l, .agg m => matL pre l m
  | .tup l, .tup m => matT pre l m
  | _, _ => []

def matSs (pre : Heap) : List SV → List SV → List (Nat × Vw)
  | x :: l, y :: m => matS pre x y ++ matSs pre l m
  | _, _ => []

def matB (pre : Heap) : Option Blk → Option Blk → List (Nat × Vw)
  | some (.box _ cs), some (.box _ ds) => matL pre cs ds
  | _, _ => []

def matH (kd pre H : Heap) : List (Nat × Vw) → List (Nat × Vw)
  | [] => []
  | (i, .same g) :: l => matB kd (hget pre i) (hget H g) ++ matH kd pre H l
  | (_, .ro _ _ _) :: l => matH kd pre H l
  | (_, .emp _) :: l => matH kd pre H l

def vwGet : List (Nat × Vw) → Nat → Vw
  | [], i => .same i
  | (j, v) :: l, i => if i = j then v else vwGet l i

def vwFrom (m : List (Nat × Vw)) (i : Nat) : Nat → List Vw
  | 0 => []
  | k + 1 => vwGet m i :: vwFrom m (i + 1) k

def vwMore (kd pre H : Heap) (n : Nat) (m : List (Nat × Vw)) : List Vw := vwFrom (m ++ matH kd pre H m) 0 n
/-- How the blocks of 'pre' are seen in H, found out by the slots; 'kd' tells which of them are only read. -/
def vwAll (kd pre H : Heap) (n : Nat) (xs ys : List SV) : List Vw := vwMore kd pre H n (matSs kd xs ys)

/-- What is to be shown at a call. -/
structure CallK (c : Con) (vs : List Vw) (args : List SV) (H : Heap) (nx : Nat) (KS : Eff → Prop) : Prop where
  len : vs.length = c.n0
  args : args = c.args.map (·.map (mcv (vwl vs)))
  argsW : argsW (vwl vs) c.n0 c.args
  pre : preL H (vwl vs) c.n0 c.pre
  uniq : uniqB (vwl vs) (List.range c.n0) = true
  dom : domL H vs
  own : ownL c.wr
  le : c.n0 ≤ c.n
  k : KS (c.effAt (vwl vs) nx)

theorem call_a {P : Program} {ck : Bool} {o : Oper} {ev : Operand → SV} {H : Heap} {nx : Nat} {KS : Eff → Prop} {cl : Call} {f : FuncId} {c : Con} (hfn : FnOK P f c) (ho : o.op = .call cl) (hcl : cl.callee = .value (.func f))
    (h : ∃ args, args = cl.args.toList.map ev ∧ ∃ vs, vwAll c.pre c.pre H c.n0 c.args args = vs ∧ CallK c vs args H nx KS) : stepK P ck o ev H nx KS := by
  obtain ⟨args, rfl, vs, _, h⟩ := h
  exact call_k vs hfn ho hcl h.args (fits_of vs h.len h.argsW h.pre h.uniq h.dom h.own h.le) h.k

theorem call_go {P : Program} {ck : Bool} {dd : Option Tmp} {tt : TypeId} {pos : String} {af : Array Edge} {g : Option (Nat × Bool)} {f : FuncId} {ars : Array Operand} {ts : Array TypeId} {ev : Operand → SV} {H : Heap} {nx : Nat} {KS : Eff → Prop}
    (h : stepK P ck ⟨dd, .call { callee := .value (.func f), args := ars, argTypes := ts }, tt, pos, af, g⟩ ev H nx KS) : stepK P ck ⟨dd, .call { callee := .value (.func f), args := ars, argTypes := ts }, tt, pos, af, g⟩ ev H nx KS := h

/-- What is to be shown where a state is given up for a weaker one. -/
structure WkK (vs : List Vw) (n0 : Nat) (sl sl' : List SV) (H H' : Heap) (nx' : Nat) : Prop where
  uniq : uniqB (vwl vs) (H'.map (·.1)) = true
  same : (List.range n0).all (fun i => match vwl vs i with | .same g => g == i | _ => false) = true
  le : n0 ≤ nx'
  slots : wkSl (vwl vs) nx' sl' sl
  heap : wkH H (vwl vs) nx' H'

theorem wk_a {sl sl' : List SV} {H H' : Heap} {nx nx' n0 : Nat} (h : ∃ vs, vwAll [] H' H nx' sl' sl = vs ∧ WkK vs n0 sl sl' H H' nx') : Wk n0 (sl, H, nx) (sl', H', nx') := by
  obtain ⟨vs, _, h⟩ := h
  exact wk_by vs h.slots h.heap h.uniq h.same h.le

structure PostK (c : Con) (vs : List Vw) (x : SV) (H : Heap) : Prop where
  uniq : uniqB (vwl vs) (c.wr.map (·.1)) = true
  same : (List.range c.n0).all (fun i => match vwl vs i with | .same g => g == i | _ => false) = true
  r : x = c.r.map (mcv (vwl vs))
  rW : wfs (wfc (vwl vs) c.n) c.r
  heap : wkH H (vwl vs) c.n c.wr

theorem post_a {P : Program} {fn : Func} {c : Con} {e : Exit} {sl : List SV} {H : Heap} {nx : Nat} {rs : List ResultVar} (hres : fn.results.toList = rs) (he : e = .ret ∨ e = .normal)
    (h : ∃ xs, resvs P sl H rs = some xs ∧ ∃ x, x = svRes xs ∧ ∃ vs, vwAll [] c.wr H c.n [c.r] [x] = vs ∧ PostK c vs x H) : Post P fn c e sl H nx := by
  obtain ⟨xs, hxs, x, rfl, vs, _, h⟩ := h
  exact post_by vs he hres hxs h.r h.rW h.heap h.uniq h.same

def opDst (l : List Oper) : List Nat := l.filterMap (·.dst)

def dsts : Code → List Nat
  | .skip => []
  | .region _ ops _ => opDst ops.toList
  | .seq x y => dsts x ++ dsts y
  | .cond _ x y => dsts x ++ dsts y
  | .block _ c => dsts c
  | .loop c => dsts c
  | _ => []

/-- the slots but those in 'd' -/
def keepSl (d : List Nat) : Nat → List SV → List SV
  | _, [] => []
  | i, x :: l => (if d.contains i then .any else x) :: keepSl d (i + 1) l

def setsSl : List SV → List (Nat × SV) → List SV
  | sl, [] => sl
  | sl, (i, x) :: l => setsSl (sl.set i x) l

section
variable {P : Program} {ck : Bool} {dr : Array Oper → List SV → Heap → Nat → (List SV → Heap → Nat → Prop) → Prop} {n0 : Nat} {sl : List SV} {H : Heap} {nx : Nat} {Q : Exit → List SV → Heap → Nat → Prop}

/-- A loop: 'vs' tells the slots that its rounds change, 'hp' its blocks, 'kill' the slots that nobody looks at. -/
theorem loop_v {c : Code} {X : Type} (kill : List Nat) (vs : X → List (Nat × SV)) (hp : X → Heap) (n : Nat) (μ : X → Nat) (x0 : X)
    (h : ∃ s0, s0 = keepSl (kill ++ dsts c) 0 sl ∧ Wk n0 (sl, H, nx) (setsSl s0 (vs x0), hp x0, n) ∧
      ∀ x, ∀ K : Exit → List SV → Heap → Nat → Prop, Rnd (∀ x' sl H nx, μ x' < μ x → Wk n0 (sl, H, nx) (setsSl s0 (vs x'), hp x', n) → K .normal sl H nx) → (∀ id sl H nx, Q (.exit id) sl H nx → K (.exit id) sl H nx) → (∀ sl H nx, Q .ret sl H nx → K .ret sl H nx) →
        wpC P ck dr n0 c (setsSl s0 (vs x)) (hp x) n K) :
    wpC P ck dr n0 (.loop c) sl H nx Q := by
  obtain ⟨s0, _, h1, h2⟩ := h
  exact loop_k (fun x => (setsSl s0 (vs x), hp x, n)) μ x0 h1 h2
end

end Go.Proofs.Ytmdajpgemcaefaa
