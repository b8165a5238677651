/-
  The engine, texts SX1 SX2 SX3 SX4 in one. No conditions of its own.
-/
import Derived.Test.YtfnhchcgieeedaaGreatGO
import Derived.Test.YtfnhchcgieeedaaGreatMW
import Derived.Test.YtfnhchcgieeedaaGreatZz3
import Derived.Test.YtfnhchcgieeedaaGreatZz2
import Derived.Test.YtfnhchcgieeedaaGreatMRA
namespace Go.Proofs.YtfnhchcgieeedaaGreat
set_option linter.unusedSimpArgs false
set_option linter.unusedVariables false
set_option linter.unusedSimpArgs false
set_option linter.unusedVariables false
set_option linter.defProp false
set_option maxRecDepth 20000
open Go.RowKit

def edL (x : LocD) : EdgeD := ⟨x.Edge.From, x.Edge.To, x.Edge.W⟩
def gOf (n : Int) (l : List LocD) : GraphD := ⟨n, l.map edL⟩
def evOf (l : List LocD) : List Int := l.map (·.Edge.Val)
def putV (x : LocD) (z : Int) : LocD := ⟨x.Shard, x.At, ⟨x.Edge.From, x.Edge.To, x.Edge.W, x.Edge.Index, z⟩⟩
def setEv (l : List LocD) (ev : List Int) : List LocD := List.zipWith putV l ev
theorem setEv_len {l : List LocD} {ev : List Int} (h : ev.length = l.length) : (setEv l ev).length = l.length := by
  unfold setEv; rw [List.length_zipWith]; omega
theorem setEv_at {l : List LocD} {ev : List Int} {i : Nat} (h : i < l.length) (he : i < ev.length) : (setEv l ev)[i]'(by unfold setEv; rw [List.length_zipWith]; omega) = putV l[i] ev[i] := by simp [setEv]
theorem setEv_same (l : List LocD) : setEv l (evOf l) = l := by
  unfold setEv evOf
  induction l with
  | nil => rfl
  | cons x l ih => rw [List.map_cons, List.zipWith_cons_cons, ih]; rfl
theorem setEv_set {l : List LocD} {ev : List Int} {i : Nat} {z : Int} (h : i < l.length) (he : ev.length = l.length) : (setEv l ev).set i (putV l[i] z) = setEv l (ev.set i z) := by
  apply List.ext_getElem
  · simp [setEv]
  · intro k h1 h2
    have hk : k < l.length := by rw [List.length_set, setEv_len he] at h1; exact h1
    have hk2 : k < (ev.set i z).length := by rw [List.length_set]; omega
    rw [List.getElem_set, setEv_at hk hk2, List.getElem_set]
    split
    · rename_i e; subst e; rfl
    · rw [setEv_at hk (by omega)]
theorem setEv_ev {l : List LocD} {ev : List Int} (h : ev.length = l.length) : evOf (setEv l ev) = ev := by
  apply List.ext_getElem
  · unfold evOf; rw [List.length_map, setEv_len h]; exact h.symm
  · intro k h1 h2
    have hk : k < l.length := by omega
    have e : (evOf (setEv l ev))[k]'h1 = ((setEv l ev)[k]'(by rw [setEv_len h]; exact hk)).Edge.Val := List.getElem_map ..
    rw [e, setEv_at hk h2]; rfl
theorem setEv_ed {l : List LocD} {ev : List Int} (h : ev.length = l.length) : (setEv l ev).map edL = l.map edL := by
  apply List.ext_getElem
  · rw [List.length_map, setEv_len h, List.length_map]
  · intro k h1 h2
    have hk : k < l.length := by rw [List.length_map] at h2; exact h2
    rw [List.getElem_map, List.getElem_map, setEv_at hk (by omega)]; rfl
theorem setEv_twice {l : List LocD} {ev ev' : List Int} (h : ev.length = l.length) (h' : ev'.length = l.length) : setEv (setEv l ev) ev' = setEv l ev' := by
  apply List.ext_getElem
  · rw [setEv_len (by rw [setEv_len h]; exact h'), setEv_len h, setEv_len h']
  · intro k h1 h2
    have hk : k < l.length := by rw [setEv_len h'] at h2; exact h2
    rw [setEv_at (by rw [setEv_len h]; exact hk) (by omega), setEv_at hk (by omega), setEv_at hk (by omega)]; rfl

theorem svV_eq (l : List LocD) (v : Int) (i : Nat) : svV l v i = vwV (l.map edL) (evOf l) v i := by
  unfold svV vwV evOf
  rw [List.getElem?_map]
  rcases Nat.lt_or_ge i l.length with h | h
  · rw [List.getElem?_eq_getElem h, List.getD_eq_getElem?_getD, List.getElem?_map, List.getElem?_eq_getElem h]; rfl
  · rw [List.getElem?_eq_none h]; rfl
theorem svI_eq (l : List LocD) (v : Int) (i : Nat) : svI l v i = vwI (l.map edL) v i := by
  unfold svI vwI
  rw [List.getElem?_map]
  cases l[i]? <;> rfl
theorem sv_views (n : Int) (l : List LocD) (r : RunD) (h : r.EVals = evOf l) (v : Int) : fm (svV l v) l.length = viewsV (gOf n l) r v ∧ fm (svI l v) l.length = viewsI (gOf n l) v := by
  unfold viewsV viewsI gOf
  rw [h, List.length_map, show svV l v = vwV (l.map edL) (evOf l) v from funext fun i => svV_eq l v i, show svI l v = vwI (l.map edL) v from funext fun i => svI_eq l v i]
  exact ⟨rfl, rfl⟩

/-- What an update asks. -/
structure RunIx (g : GraphD) (r : RunD) : Prop where
  gn : 0 ≤ g.N ∧ g.N ≤ 150 ∧ g.Edges.length ≤ 400
  gw : ∀ e ∈ g.Edges, 0 ≤ e.W ∧ e.W ≤ 1000
  jp : 1 ≤ r.Job.Prog ∧ r.Job.Prog ≤ 4
  vl : (r.Vals.length : Int) = g.N
  el : r.EVals.length = g.Edges.length
  vo : r.Vals.all valOk = true
  eo : r.EVals.all valOk = true
theorem RunIn.ix {g : GraphD} {r : RunD} (h : RunIn g r) : RunIx g r := by
  obtain ⟨h1, h2⟩ := graphOk_out h.go
  exact ⟨h1, fun e he => ⟨(h2 e he).2.2.2.2.1, (h2 e he).2.2.2.2.2⟩, jobOk_out h.jo, h.vl, h.el, h.vo, h.eo⟩

theorem ix_views {g : GraphD} {r : RunD} (h : RunIx g r) (v : Int) : (viewsV g r v).all viewOk = true := by
  rw [List.all_eq_true]
  intro x hx
  obtain ⟨i, h1, h2⟩ := fm_mem hx
  unfold vwV at h2
  rw [List.getElem?_eq_getElem h1] at h2
  simp only [Option.bind_some] at h2
  split at h2
  case isFalse => cases h2
  case isTrue ha =>
    cases h2
    obtain ⟨w1, w2⟩ := h.gw _ (List.getElem_mem h1)
    have hi : i < r.EVals.length := by rw [h.el]; exact h1
    have hv := valOk_out (List.all_eq_true.1 h.eo _ (List.getElem_mem hi))
    refine viewOk_yes ?_ ?_ w1 w2 ?_
    · simp only [edgeView, List.getD, List.getElem?_eq_getElem hi]; exact hv.1
    · simp only [edgeView, List.getD, List.getElem?_eq_getElem hi]; exact hv.2
    · simp only [edgeView, beq_iff_eq]
      rcases ha with ha | ha
      · exact .inr ha
      · exact .inl ha

section
variable {g : GraphD} {r : RunD} {nw : List UInt8} {v : Nat}
theorem ix_val (h : RunIx g r) (hv : (v : Int) < g.N) : 0 ≤ r.Vals.getD v 0 ∧ r.Vals.getD v 0 ≤ 1099511627776 := by
  have hl : v < r.Vals.length := by have := h.vl; omega
  simp only [List.getD, List.getElem?_eq_getElem hl]
  exact valOk_out (List.all_eq_true.1 h.vo _ (List.getElem_mem hl))
theorem ix_valR (h : RunIx g r) (hv : (v : Int) < g.N) : 0 ≤ vxVal g r v ∧ vxVal g r v ≤ 1099511627776 := updVal_rng (ix_val h hv) (ix_views h _)
theorem ix_vals (h : RunIx g r) (hv : (v : Int) < g.N) (k : Nat) : valOk ((vxVals g r v).getD k 0) = true := by
  unfold vxVals updE
  simp only [List.getD, List.getElem?_map]
  cases hx : (viewsV g r v)[k]? with
  | none => rfl
  | some x =>
    have hm := List.mem_of_getElem? hx
    refine valOk_in (edgeV_rng h.jp (ix_valR h hv) (List.all_eq_true.1 (ix_views h v) x hm) fun ho => outsN_pos hm ho)
theorem ix_updOk (h : RunIx g r) (hv : (v : Int) < g.N) : updOk r.Job v (r.Vals.getD v 0) (viewsV g r v) = true := by
  obtain ⟨g1, g2, g3⟩ := h.gn
  have := viewsV_len g r v
  have := ix_val h hv
  obtain ⟨j1, j2⟩ := h.jp
  exact updOk_yes (by omega) (ix_views h _)
theorem ix_upd (h : RunIx g r) (hv : (v : Int) < g.N) : updN r.Job v (r.Vals.getD v 0) (viewsV g r v) = vxVal g r v ∧ updL r.Job v (r.Vals.getD v 0) (viewsV g r v) = vxVals g r v := by
  unfold updN updL
  rw [ix_updOk h hv]
  exact ⟨rfl, rfl⟩
theorem ix_to (h : RunIx g r) (hs : setOk g.N r.Next.Bits = true) (hw : setOk g.N nw = true) (hv : (v : Int) < g.N) (k : Nat) : VxOk g (vxTo g v (viewsI g v) (vxVals g r v) ⟨r.EVals, r.Next.Bits, nw⟩ k) := vxTo_ok ⟨h.el, h.eo, hs, hw⟩ (ix_vals h hv) k
theorem ix_lens (h : RunIx g r) (hs : setOk g.N r.Next.Bits = true) (hw : setOk g.N nw = true) (hv : (v : Int) < g.N) (k : Nat) :
    (vxTo g v (viewsI g v) (vxVals g r v) ⟨r.EVals, r.Next.Bits, nw⟩ k).ev.length = r.EVals.length ∧ (vxTo g v (viewsI g v) (vxVals g r v) ⟨r.EVals, r.Next.Bits, nw⟩ k).nx.length = r.Next.Bits.length ∧ (vxTo g v (viewsI g v) (vxVals g r v) ⟨r.EVals, r.Next.Bits, nw⟩ k).nw.length = nw.length := by
  have hx := ix_to h hs hw hv k
  exact ⟨by rw [hx.el, h.el], setOk_same hx.xo hs, setOk_same hx.wo hw⟩
end

end Go.Proofs.YtfnhchcgieeedaaGreat

namespace Go.Proofs.YtfnhchcgieeedaaGreat
set_option linter.unusedSimpArgs false
set_option linter.unusedVariables false
set_option linter.defProp false
set_option maxRecDepth 20000
open Go.RowKit
attribute [local irreducible] lexD

set_option maxHeartbeats 2000000 in
/-- 'add' on the set in a farm's run. -/
theorem addF_k (x : FRunD) (l : List UInt8) (v : Int) (hx : l.length = x.Next.Bits.length) (hl : x.Next.N ≤ 8 * l.length) (hb : l.length ≤ 1048576) :
    FnOK Tryz.prog 88 ⟨5, [(0, some (.box 44 [.v (.int .i64 x.Job.Prog), .v (.int .i64 x.Job.Src), .v (.int .i64 x.Iter), .v (.bool x.Done), .sl 1 1 0 (x.Vals).length, .v (.int .i64 x.Next.N), .sl 2 1 0 (x.Next.Bits).length, .v (.int .i64 x.Farm.N), .sl 3 1 0 (x.Farm.Ends).length, .sl 4 3 0 (x.Farm.Shards).length])), (2, some (.row 5 (l.map bytK)))], [.c (.ptr 0 0 5), .c (.v (.int .i64 v))], .tup [],
      [(0, some (.box 44 [.v (.int .i64 x.Job.Prog), .v (.int .i64 x.Job.Src), .v (.int .i64 x.Iter), .v (.bool x.Done), .sl 1 1 0 (x.Vals).length, .v (.int .i64 x.Next.N), .sl 2 1 0 (x.Next.Bits).length, .v (.int .i64 x.Farm.N), .sl 3 1 0 (x.Farm.Ends).length, .sl 4 3 0 (x.Farm.Shards).length])), (2, some (.row 5 ((addL x.Next.N l v).map bytK)))], 5⟩ := by
  obtain ⟨⟨jp, js⟩, it, d, va, ⟨n, lx⟩, ⟨fn, fe, fs⟩⟩ := x
  dsimp only at hx hl hb ⊢
  by_cases hv : 0 ≤ v ∧ v < n
  · obtain ⟨k, rfl⟩ := Int.eq_ofNat_of_zero_le hv.1
    have hk : k / 8 < l.length := by omega
    have q2 : ((k : Int) / 8).toNat = k / 8 := by omega
    have q3 := setBit_row l k hk
    have q4 := or_bitW (l[k / 8]) k
    obtain ⟨hw1, hw2⟩ := bitW_le k
    have q5 := shl_bitW k
    rw [addL_in hv.2]
    refine fnOK_of true mixed Tryz.func88 rfl (by rfl) (by rfl) ?_
    have hres := congrArg Array.toList Tryz.results88
    simp only [Tryz.ntmps88, BGB, seval]
    (have gx := And.intro (@List.length_map.{0,0}) (And.intro (@List.getElem_map.{0,0}) (And.intro (@bytK.eq_1) (And.intro (@q2) (And.intro (@q5) (And.intro @q4 @q3))))); refine go ?_; (repeat' first | exact Ef.mk | apply Lf.mk | refine fun (K : KT) hK hE hT => ?_ | refine fun (KS : KE) hKS => ?_ | refine fun (D : KD) hD => ?_ | refine fun (hg : (_ : Prop)) => ?_ | fail); all_goals (first | (refine Wr.mk ?_; (try clear gx); repeat first | clear hK hE hT K | clear hR hE hT K) | assumption | skip))
    (refine post_a hres (by first | exact .inl rfl | exact .inr rfl) ?_; simp only [RSB, ENB, seval, tiAll, q3]; simp only [MAB, seval]; refine ⟨rfl, rfl, ?_, ?_, ?_⟩ <;> (first | rfl | (simp [WKB, Nat.add_comm, q3]; done) | (simp only [WKB, seval])))
  · rw [addL_out hv]
    refine fnOK_of true mixed Tryz.func88 rfl (by rfl) (by rfl) ?_
    have hres := congrArg Array.toList Tryz.results88
    simp only [Tryz.ntmps88, BGB, seval]
    (have gx := And.intro (@List.length_map.{0,0}) (And.intro @List.getElem_map.{0,0} @bytK.eq_1); refine go ?_; (repeat' first | exact Ef.mk | apply Lf.mk | refine fun (K : KT) hK hE hT => ?_ | refine fun (KS : KE) hKS => ?_ | refine fun (D : KD) hD => ?_ | refine fun (hg : (_ : Prop)) => ?_ | fail); all_goals (first | (refine Wr.mk ?_; (try clear gx); repeat first | clear hK hE hT K | clear hR hE hT K) | assumption | skip))
    all_goals (refine post_a hres (by first | exact .inl rfl | exact .inr rfl) ?_; simp only [RSB, ENB, seval, tiAll, true_and]; simp only [MAB, seval]; refine ⟨rfl, rfl, ?_, ?_, ?_⟩ <;> (first | rfl | (simp [WKB, Nat.add_comm, true_and]; done) | (simp only [WKB, seval])))

set_option maxHeartbeats 4000000 in
theorem wakeF_k (x : FRunD) (va : List Int) (nx nw : List UInt8) (n : Int) (m : Nat) (v u : Int) (hx : nx.length = x.Next.Bits.length) (hx8 : x.Next.N ≤ 8 * nx.length) (bx : nx.length ≤ 1048576) (hm : nw.length = m) (hw8 : n ≤ 8 * nw.length) (bw : nw.length ≤ 1048576) :
    FnOK Tryz.prog 73 ⟨7, [(0, some (.box 32 [.v (.int .i64 n), .sl 1 1 0 m])), (1, some (.row 5 (nw.map bytK))), (2, some (.box 44 [.v (.int .i64 x.Job.Prog), .v (.int .i64 x.Job.Src), .v (.int .i64 x.Iter), .v (.bool x.Done), .sl 3 1 0 (x.Vals).length, .v (.int .i64 x.Next.N), .sl 4 1 0 (x.Next.Bits).length, .v (.int .i64 x.Farm.N), .sl 5 1 0 (x.Farm.Ends).length, .sl 6 3 0 (x.Farm.Shards).length])), (3, some (.row 3 (va.map intK))), (4, some (.row 5 (nx.map bytK))), (5, some (.row 3 (x.Farm.Ends.map intK))), (6, some (.nst 97 (x.Farm.Shards.map (ShardD.k 101)) none))], [.c (.ptr 0 0 0), .c (.ptr 2 0 5), .c (.v (.int .i64 v)), .c (.v (.int .i64 u))], .tup [],
      [(0, some (.box 32 [.v (.int .i64 n), .sl 1 1 0 m])), (1, some (.row 5 ((wakeW n nw v u).map bytK))), (2, some (.box 44 [.v (.int .i64 x.Job.Prog), .v (.int .i64 x.Job.Src), .v (.int .i64 x.Iter), .v (.bool x.Done), .sl 3 1 0 (x.Vals).length, .v (.int .i64 x.Next.N), .sl 4 1 0 (x.Next.Bits).length, .v (.int .i64 x.Farm.N), .sl 5 1 0 (x.Farm.Ends).length, .sl 6 3 0 (x.Farm.Shards).length])), (3, some (.row 3 (va.map intK))), (4, some (.row 5 ((wakeX x.Next.N nx v u).map bytK))), (5, some (.row 3 (x.Farm.Ends.map intK))), (6, some (.nst 97 (x.Farm.Shards.map (ShardD.k 101)) none))], 7⟩ := by
  have c1 := add_k n nw u hw8 bw
  rw [hm] at c1
  have c2 := addF_k x nx u hx hx8 bx
  unfold wakeW wakeX
  by_cases h : v < u
  · rw [if_pos h, if_pos h]
    refine fnOK_of true mixed Tryz.func73 rfl (by rfl) (by rfl) ?_
    have hres := congrArg Array.toList Tryz.results73
    simp only [Tryz.ntmps73, BGB, seval]
    (have gx := And.intro (@List.length_map.{0,0}) (And.intro @List.getElem_map.{0,0} @bytK.eq_1); have q1 := c1; have q2 := c2; refine go ?_; (repeat' first | exact Ef.mk | apply Lf.mk | refine fun (K : KT) hK hE hT => ?_ | refine fun (KS : KE) hKS => ?_ | refine fun (D : KD) hD => ?_ | refine fun (hg : (_ : Prop)) => ?_ | fail); all_goals (first | (refine Wr.mk ?_; (try clear gx q1 q2); repeat first | clear hK hE hT K | clear hR hE hT K) | assumption | skip))
    all_goals (refine post_a hres (by first | exact .inl rfl | exact .inr rfl) ?_; simp only [RSB, ENB, seval, tiAll, true_and]; simp only [MAB, seval]; refine ⟨rfl, rfl, ?_, ?_, ?_⟩ <;> (first | rfl | (simp [WKB, Nat.add_comm, true_and]; done) | (simp only [WKB, seval])))
  · rw [if_neg h, if_neg h]
    refine fnOK_of true mixed Tryz.func73 rfl (by rfl) (by rfl) ?_
    have hres := congrArg Array.toList Tryz.results73
    simp only [Tryz.ntmps73, BGB, seval]
    (have gx := And.intro (@List.length_map.{0,0}) (And.intro @List.getElem_map.{0,0} @bytK.eq_1); have q1 := c1; have q2 := c2; refine go ?_; (repeat' first | exact Ef.mk | apply Lf.mk | refine fun (K : KT) hK hE hT => ?_ | refine fun (KS : KE) hKS => ?_ | refine fun (D : KD) hD => ?_ | refine fun (hg : (_ : Prop)) => ?_ | fail); all_goals (first | (refine Wr.mk ?_; (try clear gx q1 q2); repeat first | clear hK hE hT K | clear hR hE hT K) | assumption | skip))
    all_goals (refine post_a hres (by first | exact .inl rfl | exact .inr rfl) ?_; simp only [RSB, ENB, seval, tiAll, true_and]; simp only [MAB, seval]; refine ⟨rfl, rfl, ?_, ?_, ?_⟩ <;> (first | rfl | (simp [WKB, Nat.add_comm, true_and]; done) | (simp only [WKB, seval])))

theorem otherEnd2_k (e : SEdgeD) (v : Int) : FnOK Tryz.prog 74 ⟨0, [], [.c (.v (.int .i64 e.From)), .c (.v (.int .i64 e.To)), .c (.v (.int .i64 v))], .c (.v (.int .i64 (otherI ⟨e.From, e.To, e.W⟩ v))), [], 0⟩ := otherEnd_k ⟨e.From, e.To, e.W⟩ v

/-- The run that an update in a part works on. -/
def rOf (f : FRunD) (l : List LocD) : RunD := ⟨f.Job, f.Iter, f.Done, f.Vals, evOf l, f.Next⟩

set_option maxHeartbeats 16000000 in
theorem fupd_k (f : FRunD) (s : SubD) (w : List UInt8) (v : Nat) (g : GraphD) (y : RunD) (hgd : g = gOf f.Farm.N s.Locs) (hyd : y = rOf f s.Locs) (h : RunIx g y) (hso : setOk g.N y.Next.Bits = true) (hw : setOk g.N w = true) (hsn : f.Next.N = f.Farm.N) (hv : (v : Int) < g.N) :
    FnOK Tryz.prog 59 ⟨9, [(0, some (.box 32 [.v (.int .i64 f.Farm.N), .sl 1 1 0 w.length])), (1, some (.row 5 (w.map bytK))), (2, some (.box 116 [.v (.int .i64 s.P), .v (.int .i64 s.Lo), .v (.int .i64 s.Hi), .sl 3 7 0 (s.Locs).length, .v (.int .i64 s.Reads)])), (3, some (.row 133 (s.Locs.map LocD.k))), (4, some (.box 44 [.v (.int .i64 f.Job.Prog), .v (.int .i64 f.Job.Src), .v (.int .i64 f.Iter), .v (.bool f.Done), .sl 5 1 0 (f.Vals).length, .v (.int .i64 f.Next.N), .sl 6 1 0 (f.Next.Bits).length, .v (.int .i64 f.Farm.N), .sl 7 1 0 (f.Farm.Ends).length, .sl 8 3 0 (f.Farm.Shards).length])), (5, some (.row 3 (f.Vals.map intK))), (6, some (.row 5 (f.Next.Bits.map bytK))), (7, some (.row 3 (f.Farm.Ends.map intK))), (8, some (.nst 97 (f.Farm.Shards.map (ShardD.k 101)) none))],
      [.c (.ptr 4 0 0), .c (.ptr 2 0 0), .c (.ptr 0 0 0), .c (.v (.int .i64 (v : Int)))], .tup [],
      [(0, some (.box 32 [.v (.int .i64 f.Farm.N), .sl 1 1 0 w.length])), (1, some (.row 5 ((vxEnd g y w v).nw.map bytK))), (2, some (.box 116 [.v (.int .i64 s.P), .v (.int .i64 s.Lo), .v (.int .i64 s.Hi), .sl 3 7 0 (s.Locs).length, .v (.int .i64 s.Reads)])), (3, some (.row 133 ((setEv s.Locs (vxEnd g y w v).ev).map LocD.k))), (4, some (.box 44 [.v (.int .i64 f.Job.Prog), .v (.int .i64 f.Job.Src), .v (.int .i64 f.Iter), .v (.bool f.Done), .sl 5 1 0 (f.Vals).length, .v (.int .i64 f.Next.N), .sl 6 1 0 (f.Next.Bits).length, .v (.int .i64 f.Farm.N), .sl 7 1 0 (f.Farm.Ends).length, .sl 8 3 0 (f.Farm.Shards).length])), (5, some (.row 3 ((f.Vals.set v (vxVal g y v)).map intK))), (6, some (.row 5 ((vxEnd g y w v).nx.map bytK))), (7, some (.row 3 (f.Farm.Ends.map intK))), (8, some (.nst 97 (f.Farm.Shards.map (ShardD.k 101)) none))], 9⟩ := by
  obtain ⟨g1, g2, g3⟩ := h.gn
  have hvl := h.vl
  have hel := h.el
  have hgN : g.N = f.Farm.N := by rw [hgd]; rfl
  have hge : g.Edges.length = s.Locs.length := by rw [hgd]; simp [gOf]
  have hyV : y.Vals = f.Vals := by rw [hyd]; rfl
  have hyJ : y.Job = f.Job := by rw [hyd]; rfl
  have hyX : y.Next.Bits = f.Next.Bits := by rw [hyd]; rfl
  have hyE : y.EVals = evOf s.Locs := by rw [hyd]; rfl
  rw [hyX] at hso
  rw [hyV] at hvl
  obtain ⟨_, _, b3, b4⟩ := setOk_len hso
  obtain ⟨_, _, b5, b6⟩ := setOk_len hw
  have hvv : v < f.Vals.length := by omega
  have e0 : y.Vals.getD v 0 = f.Vals[v] := by rw [hyV]; simp [List.getD, hvv]
  have cv := implSubViews_k s (v : Int) (by omega)
  obtain ⟨sv1, sv2⟩ := sv_views f.Farm.N s.Locs y hyE (v : Int)
  rw [sv1, sv2, ← hgd] at cv
  have cl := viewsV_len g y (v : Int)
  have ci := viewsI_len g (v : Int)
  have cu := implUpdate_k y.Job (v : Int) (y.Vals.getD v 0) (viewsV g y (v : Int)) (by omega)
  rw [(ix_upd h hv).1, (ix_upd h hv).2, e0, hyJ] at cu
  have hml : (vxVals g y v).length = (viewsI g (v : Int)).length := vxVals_len
  have hse : (vxTo g v (viewsI g v) (vxVals g y v) ⟨y.EVals, y.Next.Bits, w⟩ 0) = ⟨evOf s.Locs, f.Next.Bits, w⟩ := by rw [← hyE, ← hyX]; rfl
  have hs0 := setEv_same s.Locs
  have hxl := fun k => ix_lens (nw := w) h (by rw [hyX]; exact hso) hw hv k
  rw [hyX] at hxl
  have lev : (evOf s.Locs).length = s.Locs.length := by simp [evOf]
  rw [hyE, lev] at hxl
  rw [hyX] at hse
  have hve : vxEnd g y w v = vxTo g v (viewsI g v) (vxVals g y v) ⟨y.EVals, y.Next.Bits, w⟩ (viewsI g (v : Int)).length := rfl
  rw [hyE, hyX] at hve
  rw [hyE] at hse
  rw [hve]
  have hstp : ∀ k, vxTo g v (viewsI g v) (vxVals g y v) ⟨evOf s.Locs, f.Next.Bits, w⟩ (k + 1) = vxStep g v (viewsI g v) (vxVals g y v) (vxTo g v (viewsI g v) (vxVals g y v) ⟨evOf s.Locs, f.Next.Bits, w⟩ k) k := fun k => rfl
  obtain ⟨VX, hVX⟩ : ∃ VX : Nat → VxD, VX = vxTo g v (viewsI g v) (vxVals g y v) ⟨evOf s.Locs, f.Next.Bits, w⟩ := ⟨_, rfl⟩
  simp only [← hVX] at hse hxl hstp ⊢
  obtain ⟨I, hI⟩ : ∃ I, I = viewsI g (v : Int) := ⟨_, rfl⟩
  have hIm := fun a => viewsI_mem (g := g) (v := (v : Int)) (a := a)
  obtain ⟨Z, hZ⟩ : ∃ Z, Z = vxVals g y v := ⟨_, rfl⟩
  obtain ⟨W, hWd⟩ : ∃ W, W = viewsV g y (v : Int) := ⟨_, rfl⟩
  obtain ⟨nv, hnv⟩ : ∃ n, n = vxVal g y v := ⟨_, rfl⟩
  simp only [← hI, ← hZ, ← hWd, ← hnv] at cv cu cl ci hml hxl hstp hIm ⊢
  have hfs : (s.Locs.map LocD.k).length = s.Locs.length := List.length_map _
  have hoth : ∀ i (hi : i < s.Locs.length), g.Edges.getD i edge0 = ⟨s.Locs[i].Edge.From, s.Locs[i].Edge.To, s.Locs[i].Edge.W⟩ := fun i hi => by
    rw [hgd]
    simp [gOf, edL, List.getElem?_map, List.getElem?_eq_getElem hi]
  clear hve hVX hI hZ hWd hnv sv1 sv2 hyd
  refine fnOK_of true mixed Tryz.func59 rfl (by rfl) (by rfl) ?_
  have hres := congrArg Array.toList Tryz.results59
  simp only [Tryz.ntmps59, BGB, seval]
  (have gx := And.intro (@List.length_map.{0,0}) (And.intro @List.getElem_map.{0,0} @intK.eq_1); have q1 := cv; have q2 := cu; refine go ?_; (repeat' first | exact Ef.mk | apply Lf.mk | refine fun (K : KT) hK hE hT => ?_ | refine fun (KS : KE) hKS => ?_ | refine fun (D : KD) hD => ?_ | refine fun (hg : (_ : Prop)) => ?_ | fail); all_goals (first | (refine Wr.mk ?_; (try clear gx q1 q2); repeat first | clear hK hE hT K | clear hR hE hT K) | assumption | skip))
  refine loop_v (X := {k : Nat // k ≤ I.length}) [] (fun x => [(49, .c (.v (.int .i64 ((x.1 : Nat) : Int))))]) (fun x => [(0, some (.box 32 [.v (.int .i64 f.Farm.N), .sl 1 1 0 w.length])), (1, some (.row 5 ((VX x.1).nw.map bytK))), (2, some (.box 116 [.v (.int .i64 s.P), .v (.int .i64 s.Lo), .v (.int .i64 s.Hi), .sl 3 7 0 (s.Locs).length, .v (.int .i64 s.Reads)])), (3, some (.row 133 ((setEv s.Locs (VX x.1).ev).map LocD.k))), (4, some (.box 44 [.v (.int .i64 f.Job.Prog), .v (.int .i64 f.Job.Src), .v (.int .i64 f.Iter), .v (.bool f.Done), .sl 5 1 0 (f.Vals).length, .v (.int .i64 f.Next.N), .sl 6 1 0 (f.Next.Bits).length, .v (.int .i64 f.Farm.N), .sl 7 1 0 (f.Farm.Ends).length, .sl 8 3 0 (f.Farm.Shards).length])), (5, some (.row 3 ((f.Vals.set v nv).map intK))), (6, some (.row 5 ((VX x.1).nx.map bytK))), (7, some (.row 3 (f.Farm.Ends.map intK))), (8, some (.nst 97 (f.Farm.Shards.map (ShardD.k 101)) none)), (9, some (.row 162 (W.map ViewD.k))), (10, some (.row 3 (I.map intK))), (11, some (.row 3 (Z.map intK)))]) 12 (fun x => I.length - x.1) ⟨0, by omega⟩ ?_
  simp only [KPB, seval]
  refine ⟨?_, ?_⟩
  · (refine wk_a ?_; simp only [MAB, seval]; refine ⟨rfl, rfl, (by decide), ?_, ?_⟩; all_goals (first | (simp only [WKB, seval, hse, hs0, List.map_set, intK]; done) | (simp [WKB, seval, hse, hs0, List.map_set, intK]; done) | simp only [WKB, seval]))
  · rintro ⟨k, hk⟩ K hR hE hT
    obtain ⟨t1, t2, t3⟩ := hxl k
    have hst := hstp k
    obtain ⟨⟨ev, nx, nw⟩, hV⟩ : ∃ V, V = VX k := ⟨_, rfl⟩
    simp only [← hV] at t1 t2 t3 hst ⊢
    have sl := setEv_len t1
    rcases Nat.lt_or_ge k I.length with hlt | hge
    case inr =>
      obtain rfl : k = I.length := by omega
      (have gx := And.intro (@List.length_map.{0,0}) (And.intro @List.getElem_map.{0,0} @intK.eq_1); refine go ?_; (repeat' first | exact Ef.mk | apply Lf.mk | refine fun (K : KT) hK hE hT => ?_ | refine fun (KS : KE) hKS => ?_ | refine fun (D : KD) hD => ?_ | refine fun (hg : (_ : Prop)) => ?_ | fail); all_goals (first | (refine Wr.mk ?_; (try clear gx); repeat first | clear hK hE hT K | clear hR hE hT K) | assumption | skip))
      (refine post_a hres (by first | exact .inl rfl | exact .inr rfl) ?_; simp only [RSB, ENB, seval, tiAll, ← hV]; simp only [MAB, seval]; refine ⟨rfl, rfl, ?_, ?_, ?_⟩ <;> (first | rfl | (simp [WKB, Nat.add_comm, ← hV]; done) | (simp only [WKB, seval])))
    case inl =>
      obtain ⟨i, hi, hil⟩ := hIm _ (List.getElem_mem hlt)
      rw [hge] at hil
      have d1 : I.getD k 0 = i := by simp [List.getD, hlt, hi]
      obtain ⟨z, hz⟩ : ∃ z, z = Z[k]'(by omega) := ⟨_, rfl⟩
      have d2 : Z.getD k 0 = z := by simp [List.getD, hml, hlt, hz]
      obtain ⟨q, hq⟩ : ∃ q, q = ev[i]'(by omega) := ⟨_, rfl⟩
      have d3 : ev.getD i 0 = q := by simp [List.getD, t1, hil, hq]
      have d4 := hoth i hil
      obtain ⟨p, hp⟩ : ∃ p, p = s.Locs[i] := ⟨_, rfl⟩
      rw [← hp] at d4
      have gp : (setEv s.Locs ev)[i]'(by omega) = ⟨p.Shard, p.At, ⟨p.Edge.From, p.Edge.To, p.Edge.W, p.Edge.Index, q⟩⟩ := by rw [setEv_at hil (by omega), ← hp, ← hq]; rfl
      by_cases hs : z = q
      · have e := hst.trans (vxStep_same d1 (by rw [d2, d3]; exact hs))
        (have gx := And.intro (@List.length_map.{0,0}) (And.intro (@List.getElem_map.{0,0}) (And.intro (@intK.eq_1) (And.intro (@hi) (And.intro (@gp) (And.intro (@LocD.k.eq_1) (And.intro (hz).symm (hq).symm)))))); refine go ?_; (repeat' first | exact Ef.mk | apply Lf.mk | refine fun (K : KT) hK hE hT => ?_ | refine fun (KS : KE) hKS => ?_ | refine fun (D : KD) hD => ?_ | refine fun (hg : (_ : Prop)) => ?_ | fail); all_goals (first | (refine Wr.mk ?_; (try clear gx); repeat first | clear hK hE hT K | clear hR hE hT K) | assumption | skip))
        (refine hR.out ⟨k + 1, by omega⟩ _ _ _ (by simp only; omega) ?_; (refine wk_a ?_; simp only [MAB, seval]; refine ⟨rfl, rfl, (by decide), ?_, ?_⟩; all_goals (first | (simp only [WKB, seval, e]; done) | (simp [WKB, seval, e]; done) | simp only [WKB, seval])))
      · have co := otherEnd2_k p.Edge (v : Int)
        obtain ⟨o, ho⟩ : ∃ o, o = otherI ⟨p.Edge.From, p.Edge.To, p.Edge.W⟩ (v : Int) := ⟨_, rfl⟩
        rw [← ho] at co
        have cw := wakeF_k f (f.Vals.set v nv) nx nw f.Farm.N w.length (v : Int) o t2 (by omega) (by omega) t3 (by omega) (by omega)
        have gsl : ∀ (l : List (List DC)) (i : Nat) (x : List DC), (l.set i x).length = l.length := fun l i x => List.length_set ..
        have gss : ∀ (l : List (List DC)) (i : Nat) (x : List DC) (h : i < (l.set i x).length), (l.set i x)[i] = x := fun l i x h => List.getElem_set_self ..
        have er : ((setEv s.Locs ev).map LocD.k).set i [.v (.int .i64 p.Shard), .v (.int .i64 p.At), .v (.int .i64 p.Edge.From), .v (.int .i64 p.Edge.To), .v (.int .i64 p.Edge.W), .v (.int .i64 p.Edge.Index), .v (.int .i64 z)] = (setEv s.Locs (ev.set i z)).map LocD.k := by
          rw [← setEv_set hil t1, List.map_set, ← hp]; rfl
        by_cases hu : (v : Int) < o
        · have e := hst.trans (vxStep_now d1 (by rw [d2, d3]; exact hs) (by rw [d4, ← ho]; exact hu))
          rw [d2, d4, ← ho, hgN] at e
          have ew : wakeW f.Farm.N nw (v : Int) o = addL f.Farm.N nw o := if_pos hu
          have ex : wakeX f.Next.N nx (v : Int) o = nx := if_pos hu
          rw [ew, ex] at cw
          (have gx := And.intro (@List.length_map.{0,0}) (And.intro (@List.getElem_map.{0,0}) (And.intro (@intK.eq_1) (And.intro (@hi) (And.intro (@gp) (And.intro (@gss) (And.intro (@gsl) (And.intro (@sl) (And.intro (@LocD.k.eq_1) (And.intro (hz).symm (hq).symm))))))))); have q1 := co; have q2 := cw; refine go ?_; (repeat' first | exact Ef.mk | apply Lf.mk | refine fun (K : KT) hK hE hT => ?_ | refine fun (KS : KE) hKS => ?_ | refine fun (D : KD) hD => ?_ | refine fun (hg : (_ : Prop)) => ?_ | fail); all_goals (first | (refine Wr.mk ?_; (try clear gx q1 q2); repeat first | clear hK hE hT K | clear hR hE hT K) | assumption | skip))
          (refine hR.out ⟨k + 1, by omega⟩ _ _ _ (by simp only; omega) ?_; (refine wk_a ?_; simp only [MAB, seval]; refine ⟨rfl, rfl, (by decide), ?_, ?_⟩; all_goals (first | (simp only [WKB, seval, e, er]; done) | (simp [WKB, seval, e, er]; done) | simp only [WKB, seval])))
        · have e := hst.trans (vxStep_next d1 (by rw [d2, d3]; exact hs) (by rw [d4, ← ho]; exact hu))
          rw [d2, d4, ← ho, hgN] at e
          have ew : wakeW f.Farm.N nw (v : Int) o = nw := if_neg hu
          have ex : wakeX f.Next.N nx (v : Int) o = addL f.Farm.N nx o := by rw [hsn]; exact if_neg hu
          rw [ew, ex] at cw
          (have gx := And.intro (@List.length_map.{0,0}) (And.intro (@List.getElem_map.{0,0}) (And.intro (@intK.eq_1) (And.intro (@hi) (And.intro (@gp) (And.intro (@gss) (And.intro (@gsl) (And.intro (@sl) (And.intro (@LocD.k.eq_1) (And.intro (hz).symm (hq).symm))))))))); have q1 := co; have q2 := cw; refine go ?_; (repeat' first | exact Ef.mk | apply Lf.mk | refine fun (K : KT) hK hE hT => ?_ | refine fun (KS : KE) hKS => ?_ | refine fun (D : KD) hD => ?_ | refine fun (hg : (_ : Prop)) => ?_ | fail); all_goals (first | (refine Wr.mk ?_; (try clear gx q1 q2); repeat first | clear hK hE hT K | clear hR hE hT K) | assumption | skip))
          (refine hR.out ⟨k + 1, by omega⟩ _ _ _ (by simp only; omega) ?_; (refine wk_a ?_; simp only [MAB, seval]; refine ⟨rfl, rfl, (by decide), ?_, ?_⟩; all_goals (first | (simp only [WKB, seval, e, er]; done) | (simp [WKB, seval, e, er]; done) | simp only [WKB, seval])))

end Go.Proofs.YtfnhchcgieeedaaGreat

namespace Go.Proofs.YtfnhchcgieeedaaGreat
set_option linter.unusedSimpArgs false
set_option linter.unusedVariables false
set_option linter.defProp false
set_option maxRecDepth 20000
open Go.RowKit
attribute [local irreducible] lexD

end Go.Proofs.YtfnhchcgieeedaaGreat

namespace Go.Proofs.YtfnhchcgieeedaaGreat
set_option linter.unusedSimpArgs false
set_option linter.unusedVariables false
set_option linter.defProp false
set_option maxRecDepth 20000
open Go.RowKit
attribute [local irreducible] lexD

def locE (x : LocD) : Prop := (0 ≤ x.Edge.Val ∧ x.Edge.Val ≤ 1099511627776) ∧ 0 ≤ x.Edge.W ∧ x.Edge.W ≤ 1000
instance (x : LocD) : Decidable (locE x) := inferInstanceAs (Decidable (_ ∧ _))
def locsOk (l : List LocD) (k : Nat) : Prop := ∀ i (h : i < l.length), i < k → locE l[i]
theorem fg_n {f : FarmD} (h : FarmOk f) : (fgR f).N = f.N := by
  unfold fgR; rw [pB_t h]; rfl
/-- What a valid run in a farm tells. -/
structure FrIn (f : FRunD) : Prop where
  fo : FarmOk f.Farm
  jp : 1 ≤ f.Job.Prog ∧ f.Job.Prog ≤ 4
  vl : (f.Vals.length : Int) = f.Farm.N
  vo : f.Vals.all valOk = true
  so : setOk f.Farm.N f.Next.Bits = true
  sn : f.Next.N = f.Farm.N
  it : 0 ≤ f.Iter ∧ f.Iter ≤ 1000
theorem fr_in {f : FRunD} (h : FrOk f) : FrIn f := by
  obtain ⟨h1, h2⟩ := h
  obtain ⟨hin, hit, _⟩ := runOk_in h2
  have e := fg_n h1
  have a := hin.vl
  have b := hin.so
  have c := hin.sn
  rw [e] at a b c
  exact ⟨h1, jobOk_out hin.jo, a, hin.vo, b, c, hit⟩
theorem ix_of {f : FRunD} {l : List LocD} (h : FrIn f) (hl : l.length ≤ 400) (ho : locsOk l l.length) : RunIx (gOf f.Farm.N l) (rOf f l) := by
  have hn := (gf_ok h.fo).n
  refine ⟨⟨hn.1, hn.2, by simp [gOf]; exact hl⟩, fun e he => ?_, h.jp, h.vl, by simp [rOf, evOf, gOf], h.vo, ?_⟩
  · obtain ⟨x, hx, rfl⟩ := List.mem_map.1 he
    obtain ⟨i, hi, rfl⟩ := List.getElem_of_mem hx
    exact (ho i hi hi).2
  · rw [List.all_eq_true]
    intro z hz
    obtain ⟨x, hx, rfl⟩ := List.mem_map.1 hz
    obtain ⟨i, hi, rfl⟩ := List.getElem_of_mem hx
    exact valOk_in (ho i hi hi).1
set_option maxHeartbeats 8000000 in
theorem copyFRun_k (x : FRunD) (h : (x.Vals).length ≤ 1048576 ∧ (x.Next.Bits).length ≤ 1048576 ∧ (x.Farm.Ends).length ≤ 1048576 ∧ (x.Farm.Shards).length ≤ 1048576 ∧ (∀ s ∈ x.Farm.Shards, s.Edges.length ≤ 1048576)) : FnOK Tryz.prog 36 ⟨4, [(0, some (.ro ((x.Vals).map intK))), (1, some (.ro ((x.Next.Bits).map bytK))), (2, some (.ro ((x.Farm.Ends).map intK))), (3, some (.ro ((x.Farm.Shards).map (ShardD.k 101))))], [.agg [.v (.int .i64 x.Job.Prog), .v (.int .i64 x.Job.Src), .v (.int .i64 x.Iter), .v (.bool x.Done), .sl 0 1 0 (x.Vals).length, .v (.int .i64 x.Next.N), .sl 1 1 0 (x.Next.Bits).length, .v (.int .i64 x.Farm.N), .sl 2 1 0 (x.Farm.Ends).length, .sl 3 3 0 (x.Farm.Shards).length]], .agg [.v (.int .i64 x.Job.Prog), .v (.int .i64 x.Job.Src), .v (.int .i64 x.Iter), .v (.bool x.Done), .sl 4 1 0 (x.Vals).length, .v (.int .i64 x.Next.N), .sl 5 1 0 (x.Next.Bits).length, .v (.int .i64 x.Farm.N), .sl 6 1 0 (x.Farm.Ends).length, .sl 7 3 0 (x.Farm.Shards).length], [(4, some (.row 3 ((x.Vals).map intK))), (5, some (.row 5 ((x.Next.Bits).map bytK))), (6, some (.row 3 ((x.Farm.Ends).map intK))), (7, some (.nst 97 ((x.Farm.Shards).map (ShardD.k 101)) none))], 8⟩ := by
  obtain ⟨h0, h1, h2, h3, h4⟩ := h
  have c1 := copyInts_k x.Vals h0
  have c2 := copySet_k x.Next h1
  have c3 := copyFarm_k x.Farm ⟨h2, h3, h4⟩
  refine fnOK_of true mixed Tryz.func36 rfl (by rfl) (by rfl) ?_
  have hres := congrArg Array.toList Tryz.results36
  simp only [Tryz.ntmps36, BGB, seval]
  (have gx := @List.length_map.{0,0}; have q1 := c1; have q2 := c2; have q3 := c3; refine go ?_; (repeat' first | exact Ef.mk | apply Lf.mk | refine fun (K : KT) hK hE hT => ?_ | refine fun (KS : KE) hKS => ?_ | refine fun (D : KD) hD => ?_ | refine fun (hg : (_ : Prop)) => ?_ | fail); all_goals (first | (refine Wr.mk ?_; (try clear gx q1 q2 q3); repeat first | clear hK hE hT K | clear hR hE hT K) | assumption | skip))
  (refine post_a hres (.inl rfl) ?_; simp only [RSB, ENB, seval, tiAll, true_and]; simp only [MAB, seval]; refine ⟨rfl, rfl, ?_, ?_, ?_⟩ <;> (first | rfl | (simp [WKB, Nat.add_comm, true_and]; done) | (simp only [WKB, seval])))

end Go.Proofs.YtfnhchcgieeedaaGreat

