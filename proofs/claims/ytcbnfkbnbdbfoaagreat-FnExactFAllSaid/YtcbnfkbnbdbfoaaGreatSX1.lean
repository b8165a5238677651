/-
  What an update of a vertex of a part does: plain words and laws. No conditions of its own.
-/
import Derived.Test.YtcbnfkbnbdbfoaaGreatMW
import Derived.Test.YtcbnfkbnbdbfoaaGreatV1
namespace Go.Proofs.YtcbnfkbnbdbfoaaGreat
set_option linter.unusedSimpArgs false
set_option linter.unusedVariables false
set_option linter.unusedSimpArgs false
set_option linter.unusedVariables false
set_option linter.defProp false
set_option maxRecDepth 20000
open Go.RowKit

def edL (x : LocD) : EdgeD := ⟨x.Edge.From, x.Edge.To, x.Edge.W⟩
def gOf (n : Int) (l : List LocD) : GraphD := ⟨n, l.map edL⟩
def evOf (l : List LocD) : List Int := l.map (·.Edge.Val)
def putV (x : LocD) (z : Int) : LocD := ⟨x.Shard, x.At, ⟨x.Edge.From, x.Edge.To, x.Edge.W, x.Edge.Index, z⟩⟩
def setEv (l : List LocD) (ev : List Int) : List LocD := List.zipWith putV l ev
theorem setEv_len {l : List LocD} {ev : List Int} (h : ev.length = l.length) : (setEv l ev).length = l.length := by
  unfold setEv; rw [List.length_zipWith]; omega
theorem setEv_at {l : List LocD} {ev : List Int} {i : Nat} (h : i < l.length) (he : i < ev.length) : (setEv l ev)[i]'(by unfold setEv; rw [List.length_zipWith]; omega) = putV l[i] ev[i] := by simp [setEv]
theorem setEv_same (l : List LocD) : setEv l (evOf l) = l := by
  unfold setEv evOf
  induction l with
  | nil => rfl
  | cons x l ih => rw [List.map_cons, List.zipWith_cons_cons, ih]; rfl
theorem setEv_set {l : List LocD} {ev : List Int} {i : Nat} {z : Int} (h : i < l.length) (he : ev.length = l.length) : (setEv l ev).set i (putV l[i] z) = setEv l (ev.set i z) := by
  apply List.ext_getElem
  · simp [setEv]
  · intro k h1 h2
    have hk : k < l.length := by rw [List.length_set, setEv_len he] at h1; exact h1
    have hk2 : k < (ev.set i z).length := by rw [List.length_set]; omega
    rw [List.getElem_set, setEv_at hk hk2, List.getElem_set]
    split
    · rename_i e; subst e; rfl
    · rw [setEv_at hk (by omega)]
theorem setEv_ev {l : List LocD} {ev : List Int} (h : ev.length = l.length) : evOf (setEv l ev) = ev := by
  apply List.ext_getElem
  · unfold evOf; rw [List.length_map, setEv_len h]; exact h.symm
  · intro k h1 h2
    have hk : k < l.length := by omega
    have e : (evOf (setEv l ev))[k]'h1 = ((setEv l ev)[k]'(by rw [setEv_len h]; exact hk)).Edge.Val := List.getElem_map ..
    rw [e, setEv_at hk h2]; rfl
theorem setEv_ed {l : List LocD} {ev : List Int} (h : ev.length = l.length) : (setEv l ev).map edL = l.map edL := by
  apply List.ext_getElem
  · rw [List.length_map, setEv_len h, List.length_map]
  · intro k h1 h2
    have hk : k < l.length := by rw [List.length_map] at h2; exact h2
    rw [List.getElem_map, List.getElem_map, setEv_at hk (by omega)]; rfl
theorem setEv_twice {l : List LocD} {ev ev' : List Int} (h : ev.length = l.length) (h' : ev'.length = l.length) : setEv (setEv l ev) ev' = setEv l ev' := by
  apply List.ext_getElem
  · rw [setEv_len (by rw [setEv_len h]; exact h'), setEv_len h, setEv_len h']
  · intro k h1 h2
    have hk : k < l.length := by rw [setEv_len h'] at h2; exact h2
    rw [setEv_at (by rw [setEv_len h]; exact hk) (by omega), setEv_at hk (by omega), setEv_at hk (by omega)]; rfl

theorem svV_eq (l : List LocD) (v : Int) (i : Nat) : svV l v i = vwV (l.map edL) (evOf l) v i := by
  unfold svV vwV evOf
  rw [List.getElem?_map]
  rcases Nat.lt_or_ge i l.length with h | h
  · rw [List.getElem?_eq_getElem h, List.getD_eq_getElem?_getD, List.getElem?_map, List.getElem?_eq_getElem h]; rfl
  · rw [List.getElem?_eq_none h]; rfl
theorem svI_eq (l : List LocD) (v : Int) (i : Nat) : svI l v i = vwI (l.map edL) v i := by
  unfold svI vwI
  rw [List.getElem?_map]
  cases l[i]? <;> rfl
theorem sv_views (n : Int) (l : List LocD) (r : RunD) (h : r.EVals = evOf l) (v : Int) : fm (svV l v) l.length = viewsV (gOf n l) r v ∧ fm (svI l v) l.length = viewsI (gOf n l) v := by
  unfold viewsV viewsI gOf
  rw [h, List.length_map, show svV l v = vwV (l.map edL) (evOf l) v from funext fun i => svV_eq l v i, show svI l v = vwI (l.map edL) v from funext fun i => svI_eq l v i]
  exact ⟨rfl, rfl⟩

/-- What an update asks. -/
structure RunIx (g : GraphD) (r : RunD) : Prop where
  gn : 0 ≤ g.N ∧ g.N ≤ 150 ∧ g.Edges.length ≤ 400
  gw : ∀ e ∈ g.Edges, 0 ≤ e.W ∧ e.W ≤ 1000
  jp : 1 ≤ r.Job.Prog ∧ r.Job.Prog ≤ 4
  vl : (r.Vals.length : Int) = g.N
  el : r.EVals.length = g.Edges.length
  vo : r.Vals.all valOk = true
  eo : r.EVals.all valOk = true
theorem RunIn.ix {g : GraphD} {r : RunD} (h : RunIn g r) : RunIx g r := by
  obtain ⟨h1, h2⟩ := graphOk_out h.go
  exact ⟨h1, fun e he => ⟨(h2 e he).2.2.2.2.1, (h2 e he).2.2.2.2.2⟩, jobOk_out h.jo, h.vl, h.el, h.vo, h.eo⟩

theorem ix_views {g : GraphD} {r : RunD} (h : RunIx g r) (v : Int) : (viewsV g r v).all viewOk = true := by
  rw [List.all_eq_true]
  intro x hx
  obtain ⟨i, h1, h2⟩ := fm_mem hx
  unfold vwV at h2
  rw [List.getElem?_eq_getElem h1] at h2
  simp only [Option.bind_some] at h2
  split at h2
  case isFalse => cases h2
  case isTrue ha =>
    cases h2
    obtain ⟨w1, w2⟩ := h.gw _ (List.getElem_mem h1)
    have hi : i < r.EVals.length := by rw [h.el]; exact h1
    have hv := valOk_out (List.all_eq_true.1 h.eo _ (List.getElem_mem hi))
    refine viewOk_yes ?_ ?_ w1 w2 ?_
    · simp only [edgeView, List.getD, List.getElem?_eq_getElem hi]; exact hv.1
    · simp only [edgeView, List.getD, List.getElem?_eq_getElem hi]; exact hv.2
    · simp only [edgeView, beq_iff_eq]
      rcases ha with ha | ha
      · exact .inr ha
      · exact .inl ha

section
variable {g : GraphD} {r : RunD} {nw : List UInt8} {v : Nat}
theorem ix_val (h : RunIx g r) (hv : (v : Int) < g.N) : 0 ≤ r.Vals.getD v 0 ∧ r.Vals.getD v 0 ≤ 1099511627776 := by
  have hl : v < r.Vals.length := by have := h.vl; omega
  simp only [List.getD, List.getElem?_eq_getElem hl]
  exact valOk_out (List.all_eq_true.1 h.vo _ (List.getElem_mem hl))
theorem ix_valR (h : RunIx g r) (hv : (v : Int) < g.N) : 0 ≤ vxVal g r v ∧ vxVal g r v ≤ 1099511627776 := updVal_rng (ix_val h hv) (ix_views h _)
theorem ix_vals (h : RunIx g r) (hv : (v : Int) < g.N) (k : Nat) : valOk ((vxVals g r v).getD k 0) = true := by
  unfold vxVals updE
  simp only [List.getD, List.getElem?_map]
  cases hx : (viewsV g r v)[k]? with
  | none => rfl
  | some x =>
    have hm := List.mem_of_getElem? hx
    refine valOk_in (edgeV_rng h.jp (ix_valR h hv) (List.all_eq_true.1 (ix_views h v) x hm) fun ho => outsN_pos hm ho)
theorem ix_updOk (h : RunIx g r) (hv : (v : Int) < g.N) : updOk r.Job v (r.Vals.getD v 0) (viewsV g r v) = true := by
  obtain ⟨g1, g2, g3⟩ := h.gn
  have := viewsV_len g r v
  have := ix_val h hv
  obtain ⟨j1, j2⟩ := h.jp
  exact updOk_yes (by omega) (ix_views h _)
theorem ix_upd (h : RunIx g r) (hv : (v : Int) < g.N) : updN r.Job v (r.Vals.getD v 0) (viewsV g r v) = vxVal g r v ∧ updL r.Job v (r.Vals.getD v 0) (viewsV g r v) = vxVals g r v := by
  unfold updN updL
  rw [ix_updOk h hv]
  exact ⟨rfl, rfl⟩
theorem ix_to (h : RunIx g r) (hs : setOk g.N r.Next.Bits = true) (hw : setOk g.N nw = true) (hv : (v : Int) < g.N) (k : Nat) : VxOk g (vxTo g v (viewsI g v) (vxVals g r v) ⟨r.EVals, r.Next.Bits, nw⟩ k) := vxTo_ok ⟨h.el, h.eo, hs, hw⟩ (ix_vals h hv) k
theorem ix_lens (h : RunIx g r) (hs : setOk g.N r.Next.Bits = true) (hw : setOk g.N nw = true) (hv : (v : Int) < g.N) (k : Nat) :
    (vxTo g v (viewsI g v) (vxVals g r v) ⟨r.EVals, r.Next.Bits, nw⟩ k).ev.length = r.EVals.length ∧ (vxTo g v (viewsI g v) (vxVals g r v) ⟨r.EVals, r.Next.Bits, nw⟩ k).nx.length = r.Next.Bits.length ∧ (vxTo g v (viewsI g v) (vxVals g r v) ⟨r.EVals, r.Next.Bits, nw⟩ k).nw.length = nw.length := by
  have hx := ix_to h hs hw hv k
  exact ⟨by rw [hx.el, h.el], setOk_same hx.xo hs, setOk_same hx.wo hw⟩
end

end Go.Proofs.YtcbnfkbnbdbfoaaGreat
