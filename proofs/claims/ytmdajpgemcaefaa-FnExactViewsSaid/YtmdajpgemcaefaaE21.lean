/-
  The engine, twenty-first part: calls, weaker states and ends, with checks that can be reckoned. No conditions of its own.
-/
import Derived.Test.YtmdajpgemcaefaaE20
namespace Go.Proofs.Ytmdajpgemcaefaa
set_option linter.unusedSimpArgs false
set_option linter.unusedVariables false
open Go.RowKit

def vwl (l : List Vw) (i : Nat) : Vw := (l[i]?).getD (.emp 0)

/-- no block is seen as one's own and as something else -/
def uniqB (π : Nat → Vw) (ks : List Nat) : Bool :=
  ks.all fun i => match π i with
    | .same g => ks.all fun j => i == j || !((π j).blk == some g)
    | _ => true

theorem uniqB_spec {π : Nat → Vw} {ks : List Nat} (h : uniqB π ks = true) {i j g : Nat} (hi : i ∈ ks) (hj : j ∈ ks) (hne : i ≠ j) (hp : π i = .same g) : (π j).blk ≠ some g := by
  unfold uniqB at h
  rw [List.all_eq_true] at h
  have := h i hi
  rw [hp] at this
  simp only [List.all_eq_true] at this
  have := this j hj
  simp only [Bool.or_eq_true, beq_iff_eq, Bool.not_eq_true', beq_eq_false_iff_ne] at this
  exact this.resolve_left hne

def argsW (π : Nat → Vw) (n0 : Nat) : List SV → Prop
  | [] => True
  | x :: l => wfs (wfc π n0) x ∧ argsW π n0 l

def preL (H : Heap) (π : Nat → Vw) (n0 : Nat) : Heap → Prop
  | [] => True
  | (i, some b) :: l => (i < n0 ∧ preOK H π n0 i b) ∧ preL H π n0 l
  | (_, none) :: l => preL H π n0 l

def domL (H : Heap) : List Vw → Prop
  | [] => True
  | v :: l => (match v.blk with | some g => (hget H g).isSome = true | none => True) ∧ domL H l

def ownL : Heap → Prop
  | [] => True
  | (_, some b) :: l => b.own = true ∧ ownL l
  | (_, none) :: l => ownL l

theorem argsW_mem {π : Nat → Vw} {n0 : Nat} : ∀ {l : List SV}, argsW π n0 l → ∀ x ∈ l, wfs (wfc π n0) x
  | y :: l, h, x, hx => by
    rcases List.mem_cons.1 hx with rfl | hx
    · exact h.1
    · exact argsW_mem h.2 x hx

theorem preL_get {H : Heap} {π : Nat → Vw} {n0 : Nat} : ∀ {l : Heap}, preL H π n0 l → ∀ i b, hget l i = some b → i < n0 ∧ preOK H π n0 i b
  | (j, some b') :: l, h, i, b, hb => by
    simp only [hget] at hb
    split at hb
    · rename_i e; subst e; cases hb; exact h.1
    · exact preL_get h.2 i b hb
  | (j, none) :: l, h, i, b, hb => by
    simp only [hget] at hb
    split at hb
    · cases hb
    · exact preL_get (by simpa [preL] using h) i b hb

theorem domL_get {H : Heap} : ∀ {l : List Vw}, domL H l → ∀ (i : Nat) v g, l[i]? = some v → v.blk = some g → ∃ b, hget H g = some b
  | v' :: l, h, 0, v, g, hv, hg => by
    simp at hv; subst hv
    have := h.1
    rw [hg] at this
    exact Option.isSome_iff_exists.1 this
  | v' :: l, h, i + 1, v, g, hv, hg => domL_get h.2 i v g (by simpa using hv) hg

theorem ownL_mem : ∀ {l : Heap}, ownL l → ∀ f b, (f, some b) ∈ l → b.own = true
  | (g, some b') :: l, h, f, b, hm => by
    simp only [List.mem_cons, Prod.mk.injEq, Option.some.injEq] at hm
    rcases hm with ⟨_, rfl⟩ | hm
    · exact h.1
    · exact ownL_mem h.2 f b hm
  | (g, none) :: l, h, f, b, hm => by
    simp only [List.mem_cons, Prod.mk.injEq] at hm
    rcases hm with ⟨_, hc⟩ | hm
    · cases hc
    · exact ownL_mem (by simpa [ownL] using h) f b hm

theorem fits_of {H : Heap} {c : Con} (vs : List Vw) (h0 : vs.length = c.n0) (h1 : argsW (vwl vs) c.n0 c.args) (h2 : preL H (vwl vs) c.n0 c.pre) (h3 : uniqB (vwl vs) (List.range c.n0) = true) (h4 : domL H vs) (h5 : ownL c.wr) (h6 : c.n0 ≤ c.n) : Fits H c (vwl vs) :=
  ⟨argsW_mem h1, preL_get h2, fun i j g hi hj hne hp => uniqB_spec h3 (List.mem_range.2 hi) (List.mem_range.2 hj) hne hp, fun i g hi hg => by
    have : vs[i]? = some (vwl vs i) := by
      have hl : i < vs.length := by omega
      simp [vwl, hl]
    exact domL_get h4 i _ g this hg, ownL_mem h5, h6⟩

/-- The function has a text and keeps to the contract. -/
def FnOK (P : Program) (f : FuncId) (c : Con) : Prop := FnR P f c ∧ Callable P f

theorem call_k {P : Program} {ck : Bool} {o : Oper} {ev : Operand → SV} {H : Heap} {nx : Nat} {KS : Eff → Prop} {cl : Call} {f : FuncId} {c : Con} (vs : List Vw) (hfn : FnOK P f c) (ho : o.op = .call cl) (hcl : cl.callee = .value (.func f))
    (hargs : cl.args.toList.map ev = c.args.map (·.map (mcv (vwl vs)))) (hf : Fits H c (vwl vs)) (h : KS (c.effAt (vwl vs) nx)) : stepK P ck o ev H nx KS := by
  unfold stepK
  rw [ho]
  simp only [hcl]
  exact ⟨c, _, hfn.1, hfn.2, hargs, hf, h⟩

theorem wk_by {sl sl' : List SV} {H H' : Heap} {nx nx' n0 : Nat} (vs : List Vw) (h1 : wkSl (vwl vs) nx' sl' sl) (h2 : wkH H (vwl vs) nx' H') (h3 : uniqB (vwl vs) (H'.map (·.1)) = true) (h4 : (List.range n0).all (fun i => match vwl vs i with | .same g => g == i | _ => false) = true) (h5 : n0 ≤ nx') :
    Wk n0 (sl, H, nx) (sl', H', nx') := by
  refine wk_of (vwl vs) n0 h1 h2 (fun f g b b' k hne hb hb' hp hp' => ?_) (fun i hi => ?_) h5
  · exact uniqB_spec h3 (hget_key hb) (hget_key hb') hne hp (by rw [hp']; rfl)
  · rw [List.all_eq_true] at h4
    have := h4 i (List.mem_range.2 hi)
    split at this
    · rename_i g hg
      rw [hg]
      simp only [beq_iff_eq] at this
      rw [this]
    · cases this

theorem post_by {P : Program} {fn : Func} {c : Con} {e : Exit} {sl : List SV} {H : Heap} {nx : Nat} (vs : List Vw) {rs : List ResultVar} (he : e = .ret ∨ e = .normal) (hres : fn.results.toList = rs) {xs : List (CV ⊕ List CV)} (hxs : resvs P sl H rs = some xs) (h2 : svRes xs = c.r.map (mcv (vwl vs))) (h3 : wfs (wfc (vwl vs) c.n) c.r)
    (h4 : wkH H (vwl vs) c.n c.wr) (h5 : uniqB (vwl vs) (c.wr.map (·.1)) = true) (h6 : (List.range c.n0).all (fun i => match vwl vs i with | .same g => g == i | _ => false) = true) : Post P fn c e sl H nx := by
  refine ⟨he, xs, vwl vs, by rw [hres]; exact hxs, h2, h3, h4, fun f g b b' k hne hb hb' hp hp' => ?_, fun i hi => ?_⟩
  · exact uniqB_spec h5 (hget_key hb) (hget_key hb') hne hp (by rw [hp']; rfl)
  · rw [List.all_eq_true] at h6
    have := h6 i (List.mem_range.2 hi)
    split at this
    · rename_i g hg
      rw [hg]
      simp only [beq_iff_eq] at this
      rw [this]
    · cases this

def conB (c : Con) : Bool :=
  decide (c.n0 ≤ c.n) && c.wr.all (fun p => decide (p.1 < c.n) && (decide (c.n0 ≤ p.1) || (match hget c.pre p.1 with | some b => b.own | none => false)) && (match p.2 with | some b => b.own | none => true)) &&
    decide ((c.wr.map (·.1)).Nodup) && c.pre.all (fun p => (hget c.pre p.1).isSome && (match p.2 with | some b => !b.own || (c.wr.map (·.1)).contains p.1 | none => true))

theorem conB_ok {c : Con} (h : conB c = true) : ConOK c ∧ ∀ f ∈ c.pre.map (·.1), ∃ blk, hget c.pre f = some blk := by
  simp only [conB, Bool.and_eq_true, decide_eq_true_eq, List.all_eq_true] at h
  obtain ⟨⟨⟨h1, h2⟩, h3⟩, h4⟩ := h
  refine ⟨⟨h1, fun f b hb => ?_, h3, fun f blk hb ho => ?_, fun f b hb => ?_⟩, fun f hf => ?_⟩
  · obtain ⟨⟨q1, q2⟩, _⟩ := h2 (f, b) hb
    refine ⟨q1, fun hlt => ?_⟩
    simp only [Bool.or_eq_true, decide_eq_true_eq] at q2
    rcases q2 with q2 | q2
    · omega
    · cases hg : hget c.pre f with
      | none => rw [hg] at q2; cases q2
      | some blk => rw [hg] at q2; exact ⟨blk, rfl, q2⟩
  · have := (h4 (f, some blk) (hget_mem hb)).2
    simp only [ho, Bool.not_true, Bool.false_or, List.contains_eq_mem, decide_eq_true_eq] at this
    exact this
  · exact (h2 (f, some b) hb).2
  · obtain ⟨⟨g, x⟩, q1, q2⟩ := List.mem_map.1 hf
    simp only at q2; subst q2
    exact Option.isSome_iff_exists.1 (h4 _ q1).1

theorem fnOK_of {P : Program} {f : FuncId} {fn : Func} {code : Code} {c : Con} (ck : Bool) (hmix : P.follows .mixedOrders = true) (hfn : P.funcs[f]? = some fn) (hb : fn.body = some code) (hname : (fn.name == "runtime.NumGoroutine") = false) (hc : conB c = true)
    (h : wpC P ck (drawK P ck) c.n0 code (c.args ++ List.replicate (fn.ntmps - c.args.length) .any) c.pre c.n0 (Post P fn c)) : FnOK P f c :=
  ⟨fnR_of (draw_ok hmix) hfn hb (conB_ok hc).1 (conB_ok hc).2 h, fn, hfn, hname, by rw [hb]; rfl⟩

section
variable {P : Program} {ck : Bool} {n0 : Nat} {sl : List SV} {H : Heap} {nx : Nat}

theorem draw_k {id : Nat} {l : List Oper} {Q : Exit → List SV → Heap → Nat → Prop} (h : lexD P ck l.toArray l sl H nx [] fun rs sl H nx => indep l.toArray rs = true ∧ Q .normal sl H nx) : wpC P ck (drawK P ck) n0 (.region id l.toArray true) sl H nx Q := h

theorem lexd_nil {ops : Array Oper} {acc : List (Option Eff)} {K : List SV → Heap → Nat → Prop} (h1 : indep ops acc = true) (h : K sl H nx) : lexD P ck ops [] sl H nx acc fun rs sl H nx => indep ops rs = true ∧ K sl H nx := ⟨h1, h⟩

theorem lexd_cons {ops : Array Oper} {acc : List (Option Eff)} {K : List (Option Eff) → List SV → Heap → Nat → Prop} {d : Option Tmp} {op : Op} {t : TypeId} {pos : String} {af : Array Edge} {l : List Oper}
    (h : ∀ KS : Eff → Prop, (∀ r rd wr nx', lexD P ck ops l (putS sl d r) (hputs H wr) nx' (acc ++ [some ⟨r, rd, wr, nx'⟩]) K → KS ⟨r, rd, wr, nx'⟩) → stepK P ck ⟨d, op, t, pos, af, none⟩ (onOps ⟨d, op, t, pos, af, none⟩ (evS sl)) H nx KS) :
    lexD P ck ops (⟨d, op, t, pos, af, none⟩ :: l) sl H nx acc K :=
  h _ fun r rd wr nx' h => h

theorem guardd_go {ops : Array Oper} {acc : List (Option Eff)} {K : List (Option Eff) → List SV → Heap → Nat → Prop} {dd : Option Tmp} {op : Op} {tt : TypeId} {pos : String} {af : Array Edge} {l : List Oper} {g : Nat × Bool} (h : lexD P ck ops (⟨dd, op, tt, pos, af, some g⟩ :: l) sl H nx acc K) : lexD P ck ops (⟨dd, op, tt, pos, af, some g⟩ :: l) sl H nx acc K := h

theorem lexd_guard {ops : Array Oper} {acc : List (Option Eff)} {K : List (Option Eff) → List SV → Heap → Nat → Prop} {dd : Option Tmp} {op : Op} {tt : TypeId} {pos : String} {af : Array Edge} {l : List Oper} {j : Nat} {want : Bool} {d : Tmp} {t : Bool} (hd : (ops[j]?).bind (·.dst) = some d) (ht : sl[d]? = some (.c (.v (.bool t))))
    (h1 : t = want → ∀ KS : Eff → Prop, (∀ r rd wr nx', lexD P ck ops l (putS sl dd r) (hputs H wr) nx' (acc ++ [some ⟨r, rd, wr, nx'⟩]) K → KS ⟨r, rd, wr, nx'⟩) → stepK P ck ⟨dd, op, tt, pos, af, some (j, want)⟩ (onOps ⟨dd, op, tt, pos, af, some (j, want)⟩ (evS sl)) H nx KS)
    (h2 : t = !want → lexD P ck ops l (putS sl dd .any) H nx (acc ++ [none]) K) : lexD P ck ops (⟨dd, op, tt, pos, af, some (j, want)⟩ :: l) sl H nx acc K := by
  unfold lexD
  simp only [hd, ht]
  exact ⟨fun e => h1 e _ fun r rd wr nx' h => h, h2⟩
end

end Go.Proofs.Ytmdajpgemcaefaa
