/-
  The engine, third part: operations on slots alone. No conditions of its own.
-/
import Derived.Test.YtmdajpgemcaefaaE2
namespace Go.Proofs.Ytmdajpgemcaefaa
set_option linter.unusedSimpArgs false
set_option linter.unusedVariables false
open Go.RowKit

inductive TD where
  | int (k : IntKind)
  | bool
  | str
  | slice (e : Nat)
  | struct (fs : List (Nat × Nat × Bool))
  | other

structure TI where
  d : TD
  size : Nat
  bytes : Nat
  zero : List CV
  row : Bool

def cvOf : Value → CV
  | .slice none 0 0 => .nil
  | x => .v x

def isRowD : Option TypeDesc → Bool
  | some (.struct _) => true
  | some (.array ..) => true
  | _ => false

def szOf (P : Program) (t : TypeId) : Nat := if (P.underlying t).isSome then ((P.info? t).map (·.size)).getD 0 else 0

def tdOf (P : Program) : TypeDesc → TD
  | .int k => .int k
  | .bool => .bool
  | .string => .str
  | .slice e => .slice e
  | .struct fs => .struct (fs.toList.map fun f => (f.offset, szOf P f.type, isRowD (P.underlying f.type)))
  | _ => .other

def tiOf (P : Program) (t : TypeId) : Option TI :=
  match P.info? t, P.underlying t with
  | some i, some d => match i.zero with
    | some z => if z.cells.toList.all (·.oneCell') && z.cells.size == i.size then some ⟨tdOf P d, i.size, i.bytes, z.cells.toList.map cvOf, isRowD (some d)⟩ else none
    | none => none
  | _, _ => none

theorem tiOf_inv {P : Program} {t : TypeId} {ti : TI} (h : tiOf P t = some ti) :
    ∃ i d z, P.info? t = some i ∧ P.underlying t = some d ∧ (i.zero = some z ∧ (∀ x ∈ z.cells.toList, x.oneCell' = true) ∧ z.cells.size = i.size) ∧ ti = ⟨tdOf P d, i.size, i.bytes, z.cells.toList.map cvOf, isRowD (some d)⟩ := by
  unfold tiOf at h
  split at h
  · rename_i i d h1 h2
    split at h
    · rename_i z h3
      split at h
      · rename_i hc
        simp only [Bool.and_eq_true, List.all_eq_true, beq_iff_eq] at hc
        exact ⟨i, d, z, h1, h2, ⟨h3, hc.1, hc.2⟩, (Option.some.inj h).symm⟩
      · cases h
    · cases h
  · cases h

theorem td_int {P : Program} {d : TypeDesc} {k : IntKind} (h : tdOf P d = .int k) : d = .int k := by
  unfold tdOf at h; split at h <;> simp_all
theorem td_str {P : Program} {d : TypeDesc} (h : tdOf P d = .str) : d = .string := by
  unfold tdOf at h; split at h <;> simp_all
theorem td_bool {P : Program} {d : TypeDesc} (h : tdOf P d = .bool) : d = .bool := by
  unfold tdOf at h; split at h <;> simp_all
theorem td_slice {P : Program} {d : TypeDesc} {e : Nat} (h : tdOf P d = .slice e) : d = .slice e := by
  unfold tdOf at h; split at h <;> simp_all
theorem td_struct {P : Program} {d : TypeDesc} {fs : List (Nat × Nat × Bool)} (h : tdOf P d = .struct fs) :
    ∃ fields : Array Field, d = .struct fields ∧ fs = fields.toList.map fun f => (f.offset, szOf P f.type, isRowD (P.underlying f.type)) := by
  unfold tdOf at h; split at h <;> simp_all

def inI (k : IntKind) (x : Int) : Prop :=
  match k with
  | .i64 => -9223372036854775808 ≤ x ∧ x ≤ 9223372036854775807
  | .u8 => 0 ≤ x ∧ x ≤ 255
  | .u32 => 0 ≤ x ∧ x ≤ 4294967295
  | _ => False

theorem inI_wrap {k : IntKind} {x : Int} (h : inI k x) : k.wrap x = x := by
  cases k <;> first | exact IntWalk.i64_in _ h | exact IntWalk.u8_in _ h | exact IntWalk.u32_in _ h | exact h.elim

/-- One number out of two; 'ck': sums must be in range. -/
def arithK (ck : Bool) (op : BinOp) (k : IntKind) (x y : Int) (K : Value → Prop) : Prop :=
  match op with
  | .add => match ck with | true => inI k (x + y) ∧ K (.int k (x + y)) | false => K (.int k (k.wrap (x + y)))
  | .sub => match ck with | true => inI k (x - y) ∧ K (.int k (x - y)) | false => K (.int k (k.wrap (x - y)))
  | .mul => match ck with | true => inI k (x * y) ∧ K (.int k (x * y)) | false => K (.int k (k.wrap (x * y)))
  | .quo => match ck with | true => (0 < y ∧ 0 ≤ x ∧ inI k x) ∧ K (.int k (x / y)) | false => y ≠ 0 ∧ K (.int k (k.wrap (x.tdiv y)))
  | .rem => match ck with | true => (0 < y ∧ 0 ≤ x) ∧ K (.int k (x % y)) | false => y ≠ 0 ∧ K (.int k (x.tmod y))
  | .and => K (.int k (bits .and k x y))
  | .or => K (.int k (bits .or k x y))
  | .xor => K (.int k (bits .xor k x y))
  | .andNot => K (.int k (bits .andNot k x y))
  | .eql => K (.bool (x == y))
  | .neq => K (.bool (x != y))
  | .lss => K (.bool (decide (x < y)))
  | .leq => K (.bool (decide (x ≤ y)))
  | .gtr => K (.bool (decide (y < x)))
  | .geq => K (.bool (decide (y ≤ x)))
  | _ => False

def shiftK (ck : Bool) (op : BinOp) (k : IntKind) (x y : Int) (K : Value → Prop) : Prop :=
  match op with
  | .shl => 0 ≤ y ∧ match ck with
    | true => inI k (x * 2 ^ (min y.toNat k.bits)) ∧ K (.int k (x * 2 ^ (min y.toNat k.bits)))
    | false => K (.int k (k.wrap (x * 2 ^ (min y.toNat k.bits))))
  | .shr => 0 ≤ y ∧ K (.int k (x.fdiv (2 ^ (min y.toNat k.bits))))
  | _ => False

def binK (P : Program) (ck : Bool) (op : BinOp) (t : TypeId) (a b : SV) (K : Value → Prop) : Prop :=
  match op, a, b with
  | .shl, .c (.v (.int k x)), .c (.v (.int _ y)) => shiftK ck .shl k x y K
  | .shr, .c (.v (.int k x)), .c (.v (.int _ y)) => shiftK ck .shr k x y K
  | op, .c (.v (.int k x)), .c (.v (.int k' y)) => k = k' ∧ arithK ck op k x y K
  | .eql, .c (.v (.string x)), .c (.v (.string y)) => K (.bool (x.toList == y.toList))
  | .neq, .c (.v (.string x)), .c (.v (.string y)) => K (.bool (!(x.toList == y.toList)))
  | .add, .c (.v (.string x)), .c (.v (.string y)) => x.size + y.size ≤ 1099511627776 ∧ K (.string (x ++ y))
  | .eql, .c (.v (.bool x)), .c (.v (.bool y)) => (∃ ti, tiOf P t = some ti ∧ ti.d = .bool) ∧ K (.bool (x == y))
  | .neq, .c (.v (.bool x)), .c (.v (.bool y)) => (∃ ti, tiOf P t = some ti ∧ ti.d = .bool) ∧ K (.bool (x != y))
  | _, _, _ => False

theorem arithK_ok {P : Program} {ck : Bool} {op : BinOp} {k : IntKind} {x y : Int} {K : Value → Prop} (h : arithK ck op k x y K) (h1 : op ≠ .shl) (h2 : op ≠ .shr) (t : TypeId) :
    ∃ u, u.oneCell' = true ∧ K u ∧ ∀ w, (binOp op t (.int k x) (.int k y)).run P w = .ok u w := by
  cases op <;> simp only [arithK] at h <;> try exact h.elim
  all_goals try exact absurd rfl h1
  all_goals try exact absurd rfl h2
  case add =>
    cases ck with
    | true => exact ⟨_, rfl, h.2, fun w => by simp [binOp, Op.intArith, inI_wrap h.1]⟩
    | false => exact ⟨_, rfl, h, fun w => by simp [binOp, Op.intArith]⟩
  case sub =>
    cases ck with
    | true => exact ⟨_, rfl, h.2, fun w => by simp [binOp, Op.intArith, inI_wrap h.1]⟩
    | false => exact ⟨_, rfl, h, fun w => by simp [binOp, Op.intArith]⟩
  case mul =>
    cases ck with
    | true => exact ⟨_, rfl, h.2, fun w => by simp [binOp, Op.intArith, inI_wrap h.1]⟩
    | false => exact ⟨_, rfl, h, fun w => by simp [binOp, Op.intArith]⟩
  case quo =>
    cases ck with
    | true =>
      obtain ⟨⟨hy, hx, hi⟩, ha⟩ := h
      have hne : y ≠ 0 := by omega
      have e : k.wrap (x.tdiv y) = x / y := by
        rw [Int.tdiv_eq_ediv_of_nonneg hx]
        apply inI_wrap
        have e1 : 0 ≤ x / y := Int.ediv_nonneg hx (by omega)
        have e2 : x / y ≤ x := Int.ediv_le_self _ hx
        cases k <;> simp only [inI] at hi ⊢ <;> omega
      exact ⟨_, rfl, ha, fun w => by simp [binOp, Op.intDiv, hne, e]⟩
    | false => exact ⟨_, rfl, h.2, fun w => by simp [binOp, Op.intDiv, h.1]⟩
  case rem =>
    cases ck with
    | true =>
      obtain ⟨⟨hy, hx⟩, ha⟩ := h
      have hne : y ≠ 0 := by omega
      exact ⟨_, rfl, ha, fun w => by simp [binOp, Op.intDiv, hne, Int.tmod_eq_emod_of_nonneg hx]⟩
    | false => exact ⟨_, rfl, h.2, fun w => by simp [binOp, Op.intDiv, h.1]⟩
  all_goals
    refine ⟨_, rfl, h, fun w => ?_⟩
    first
      | rfl
      | (simp [binOp, Op.intCmp]; done)
      | (simp [binOp]; rfl)

theorem eqGuard_int {P : Program} (op : BinOp) (t : TypeId) (ox oy : Operand) (k k' : IntKind) (x y : Int) (w : World) : (eqGuard op t ox oy (.int k x) (.int k' y)).run P w = .ok () w := by
  unfold eqGuard; split <;> simp

theorem eqGuard_bool {P : Program} (op : BinOp) (t : TypeId) (ox oy : Operand) (x y : Bool) (w : World) : (eqGuard op t ox oy (.bool x) (.bool y)).run P w = .ok () w := by
  unfold eqGuard; split <;> simp

theorem binK_ok {P : Program} {ck : Bool} {op : BinOp} {t : TypeId} {a b : SV} {K : Value → Prop} (h : binK P ck op t a b K) :
    ∃ u, u.oneCell' = true ∧ K u ∧ ∀ (V : Nat → Prop) (ρ : Nat → At) x y, SVr V ρ a x → SVr V ρ b y → ∀ (ox oy : Operand) w, (do eqGuard op t ox oy x y; binOp op t x y : Sem Value).run P w = .ok u w := by
  unfold binK at h
  split at h
  · rename_i k x k' y
    simp only [shiftK] at h
    obtain ⟨hy, h⟩ := h
    cases ck with
    | true => exact ⟨_, rfl, h.2, fun V ρ x' y' hx' hy' ox oy w => by
        rw [hx'.1, hy'.1]; simp [eqGuard, binOp, Op.shift, show ¬ y < 0 by omega, inI_wrap h.1]⟩
    | false => exact ⟨_, rfl, h, fun V ρ x' y' hx' hy' ox oy w => by
        rw [hx'.1, hy'.1]; simp [eqGuard, binOp, Op.shift, show ¬ y < 0 by omega]⟩
  · rename_i k x k' y
    simp only [shiftK] at h
    exact ⟨_, rfl, h.2, fun V ρ x' y' hx' hy' ox oy w => by
      rw [hx'.1, hy'.1]; simp [eqGuard, binOp, Op.shift, show ¬ y < 0 by omega]⟩
  · rename_i op k x k' y n1 n2
    obtain ⟨rfl, h⟩ := h
    obtain ⟨u, h1, h2, h3⟩ := arithK_ok (P := P) h (by rintro rfl; exact n1 rfl) (by rintro rfl; exact n2 rfl) t
    exact ⟨u, h1, h2, fun V ρ x' y' hx' hy' ox oy w => by
      rw [hx'.1, hy'.1]
      rw [Sem.run_bind, eqGuard_int]; exact h3 w⟩
  · rename_i x y
    exact ⟨_, rfl, h, fun V ρ x' y' hx' hy' ox oy w => by rw [hx'.1, hy'.1]; simp [eqGuard, binOp, Op.stringOp]⟩
  · rename_i x y
    exact ⟨_, rfl, h, fun V ρ x' y' hx' hy' ox oy w => by rw [hx'.1, hy'.1]; simp [eqGuard, binOp, Op.stringOp]⟩
  · rename_i x y
    exact ⟨_, rfl, h.2, fun V ρ x' y' hx' hy' ox oy w => by
      have h0 := h.1
      rw [hx'.1, hy'.1]; simp [eqGuard, binOp, Op.stringOp, IntKind.max, IntKind.signed, IntKind.bits]; omega⟩
  · rename_i x y
    obtain ⟨⟨ti, h1, h2⟩, h⟩ := h
    obtain ⟨i, d, z, e1, e2, e3, rfl⟩ := tiOf_inv h1
    have hd := td_bool h2
    subst hd
    exact ⟨_, rfl, h, fun V ρ x' y' hx' hy' ox oy w => by
      rw [hx'.1, hy'.1, Sem.run_bind, eqGuard_bool]; exact run_eql_bool w t x y e2⟩
  · rename_i x y
    obtain ⟨⟨ti, h1, h2⟩, h⟩ := h
    obtain ⟨i, d, z, e1, e2, e3, rfl⟩ := tiOf_inv h1
    have hd := td_bool h2
    subst hd
    exact ⟨_, rfl, h, fun V ρ x' y' hx' hy' ox oy w => by
      rw [hx'.1, hy'.1, Sem.run_bind, eqGuard_bool]; exact run_neq_bool w t x y e2⟩
  · exact h.elim

def cellsOf : SV → Option (List CV)
  | .c x => some [x]
  | .agg l => some l
  | _ => none

theorem cellsOf_r {V : Nat → Prop} {ρ : Nat → At} {x : SV} {l : List CV} {u : Value} (h : cellsOf x = some l) (hr : SVr V ρ x u) : All2 (CVr V ρ) l u.cells.toList := by
  cases x with
  | any => cases h
  | tup l => cases h
  | c x =>
    cases h
    have h1 : CVr V ρ x u := hr
    have h2 := h1.one
    have : u.cells = #[u] := by cases u <;> first | rfl | (exfalso; simp [Value.oneCell'] at h2)
    rw [this]; exact ⟨h1, trivial⟩
  | agg l =>
    cases h
    obtain ⟨vs, rfl, h2⟩ := hr
    exact h2

/-- a value of a type of 'n' cells out of a row of cells -/
def partS (n : Nat) (row : Bool) (cs : List CV) (c : Nat) : Option SV :=
  if row then (if c + n ≤ cs.length then some (.agg ((cs.drop c).take n)) else none) else (cs[c]?).map .c

def splice (cs : List CV) (c : Nat) (l : List CV) : List CV := cs.take c ++ l ++ cs.drop (c + l.length)

def fillS (place : Nat → Option (Nat × Nat)) (cs : List CV) : List (Nat × List CV) → Option (List CV)
  | [] => some cs
  | (i, l) :: rest => match place i with
    | none => none
    | some (off, n) => if l.length = n ∧ off + n ≤ cs.length then fillS place (splice cs off l) rest else none

def partsOf (ev : Operand → SV) : List (Nat × Operand) → Option (List (Nat × List CV))
  | [] => some []
  | (i, x) :: rest => match cellsOf (ev x), partsOf ev rest with
    | some l, some r => some ((i, l) :: r)
    | _, _ => none

/-- Operations that touch no memory. -/
def pureK (P : Program) (ck : Bool) (o : Oper) (ev : Operand → SV) (K : SV → Prop) : Prop :=
  match o.op with
  | .move x => K (ev x)
  | .assign x => K (ev x)
  | .pick c a b => match ev c with
    | .c (.v (.bool t)) => (t = true → K (ev a)) ∧ (t = false → K (ev b))
    | _ => False
  | .binOp op t x y _ => binK P ck op t (ev x) (ev y) fun u => K (.c (.v u))
  | .unOp op _ x => match op, ev x with
    | .not, .c (.v (.bool b)) => K (.c (.v (.bool !b)))
    | .neg, .c (.v (.int k n)) => inI k (0 - n) ∧ K (.c (.v (.int k (0 - n))))
    | .xor, .c (.v (.int k n)) => K (.c (.v (.int k (bits .xor k (if k.signed then -1 else k.max) n))))
    | _, _ => False
  | .convert src dst x => match ev x with
    | .c (.v (.int _ n)) => (∃ ts, tiOf P src = some ts) ∧ ∃ ti k, tiOf P dst = some ti ∧ ti.d = .int k ∧ match ck, k with
      | true, .i64 => inI .i64 n ∧ K (.c (.v (.int .i64 n)))
      | _, k => K (.c (.v (.int k (k.wrap n))))
    | _ => False
  | .fieldAddr s x f => match ev x with
    | .c (.ptr g i c) => ∃ ti fs off n r, tiOf P s = some ti ∧ ti.d = .struct fs ∧ fs[f]? = some (off, n, r) ∧ n ≠ 0 ∧ K (.c (.ptr g i (c + off)))
    | _ => False
  | .field s x f => match ev x with
    | .agg l => ∃ ti fs off n r y, tiOf P s = some ti ∧ ti.d = .struct fs ∧ fs[f]? = some (off, n, r) ∧ n ≠ 0 ∧ partS n r l off = some y ∧ K y
    | _ => False
  | .indexAddr t x ix => match ev x, ev ix with
    | .c (.sl g sz b n), .c (.v (.int _ k)) => ∃ ti e te, tiOf P t = some ti ∧ ti.d = .slice e ∧ tiOf P e = some te ∧ te.size = sz ∧ (0 ≤ k ∧ k < n) ∧ K (.c (.ptr g (b + k.toNat) 0))
    | _, _ => False
  | .slice t x lo hi none => match ev x with
    | .c (.sl g sz b n) => ∃ ti e te l h, tiOf P t = some ti ∧ ti.d = .slice e ∧ tiOf P e = some te ∧ te.size = sz ∧
        (match lo with | none => l = 0 | some y => ∃ k, ev y = .c (.v (.int k (l : Nat)))) ∧ (match hi with | none => h = n | some y => ∃ k, ev y = .c (.v (.int k (h : Nat)))) ∧
        l ≤ h ∧ h ≤ n ∧ K (.c (.sl g sz (b + l) (h - l)))
    | .c .nil => (∃ ti e te, tiOf P t = some ti ∧ ti.d = .slice e ∧ tiOf P e = some te) ∧
        (match lo with | none => True | some y => ∃ k, ev y = .c (.v (.int k 0))) ∧ (match hi with | none => True | some y => ∃ k, ev y = .c (.v (.int k 0))) ∧ K (.c .nil)
    | _ => False
  | .extract t i => match ev t with
    | .tup l => match l[i]? with
      | some (.inl x) => K (.c x)
      | some (.inr l) => K (.agg l)
      | none => False
    | _ => False
  | .nilCheck x => match ev x with
    | .c (.ptr f i c) => K (.c (.ptr f i c))
    | _ => False
  | .build t parts => ∃ ti fs cs, tiOf P t = some ti ∧ ti.d = .struct fs ∧ (fs.all fun p => p.2.1 != 0) = true ∧ ((partsOf ev parts.toList).bind fun l => fillS (fun i => (fs[i]?).map fun p => (p.1, p.2.1)) ti.zero l) = some cs ∧ K (.agg cs)
  | .call c => match c.callee, c.args.toList, c.argTypes.toList with
    | .builtin .len, [x], [t] => match ev x with
      | .c (.sl _ _ _ n) => (∃ ti e, tiOf P t = some ti ∧ ti.d = .slice e) ∧ K (.c (.v (.int .i64 n)))
      | .c .nil => (∃ ti e, tiOf P t = some ti ∧ ti.d = .slice e) ∧ K (.c (.v (.int .i64 0)))
      | .c (.v (.string s)) => (∃ ti, tiOf P t = some ti ∧ ti.d = .str) ∧ K (.c (.v (.int .i64 s.size)))
      | _ => False
    | .builtin .min, [x, y], _ => match ev x, ev y with
      | .c (.v (.int k a)), .c (.v (.int _ b)) => K (.c (.v (.int k (min a b))))
      | _, _ => False
    | .builtin .max, [x, y], _ => match ev x, ev y with
      | .c (.v (.int k a)), .c (.v (.int _ b)) => K (.c (.v (.int k (max a b))))
      | _, _ => False
    | _, _, _ => False
  | _ => False

def PureOK (P : Program) (o : Oper) (ev : Operand → SV) (r : SV) : Prop :=
  ∀ (V : Nat → Prop) (ρ : Nat → At) (a : Act), (∀ x, SVr V ρ (ev x) (a.eval x)) → ∃ u, SVr V ρ r u ∧ ∀ w, (execOp a.eval o).run P w = .ok (.value u) w

theorem PureOK.eff {P : Program} {o : Oper} {ev : Operand → SV} {r : SV} (h : PureOK P o ev r) (H : Heap) (nx : Nat) : EffOK P o ev H nx ⟨r, [], [], nx⟩ := by
  intro V ρ a w K Q hV hev hm hK
  obtain ⟨u, h1, h2⟩ := h V ρ a hev
  unfold Oper.wp
  rw [h2 w]
  refine hK u ρ w ⟨fun _ _ => rfl, h1.mono fun f hf => ⟨.inl hf, rfl⟩, ⟨fun f blk hb => (by cases hb), fun f g blk blk' _ hb => (by cases hb)⟩, fun f blk hb => (by cases hb), rfl, rfl, rfl, Nat.le_refl _, fun _ _ _ => rfl⟩

theorem fit_pure (H : Heap) (nx : Nat) (r : SV) : Fit H nx ⟨r, [], [], nx⟩ := ⟨Nat.le_refl _, fun f h => (by cases h), fun f b h => (by cases h), by simp⟩

end Go.Proofs.Ytmdajpgemcaefaa
