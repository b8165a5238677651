/-
  The engine, texts K9 W1 W2 W3 W7 in one. No conditions of its own.
-/
import Derived.Test.YtfnhchcgieeedaaGreatGO
import Derived.Test.YtfnhchcgieeedaaGreatMKA
import Derived.Test.YtfnhchcgieeedaaGreatZz1
import Derived.Test.YtfnhchcgieeedaaGreatMU
namespace Go.Proofs.YtfnhchcgieeedaaGreat
set_option linter.unusedSimpArgs false
set_option linter.unusedVariables false
set_option linter.unusedSimpArgs false
set_option linter.unusedVariables false
set_option linter.defProp false
open Go.RowKit

def edgeAt (v : Int) (x : EdgeD) : Prop := x.From = v ∨ x.To = v
instance (v : Int) (x : EdgeD) : Decidable (edgeAt v x) := inferInstanceAs (Decidable (_ ∨ _))
def edgeView (v : Int) (x : EdgeD) (z : Int) : ViewD := ⟨x.To == v, x.From == v, x.W, z⟩
def vwV (l : List EdgeD) (ev : List Int) (v : Int) (i : Nat) : Option ViewD := (l[i]?).bind fun x => if edgeAt v x then some (edgeView v x (ev.getD i 0)) else none
def vwI (l : List EdgeD) (v : Int) (i : Nat) : Option Int := (l[i]?).bind fun x => if edgeAt v x then some (i : Int) else none
def viewsV (g : GraphD) (r : RunD) (v : Int) : List ViewD := fm (vwV g.Edges r.EVals v) g.Edges.length
def viewsI (g : GraphD) (v : Int) : List Int := fm (vwI g.Edges v) g.Edges.length

theorem vw_hit {l : List EdgeD} {ev : List Int} {v : Int} {k : Nat} (h : k < l.length) (he : k < ev.length) (hv : l[k].From = v ∨ l[k].To = v) :
    vwV l ev v k = some (edgeView v l[k] ev[k]) ∧ vwI l v k = some (k : Int) := by
  have : edgeAt v l[k] := hv
  simp [vwV, vwI, h, this, List.getD, he]
theorem vw_miss {l : List EdgeD} {ev : List Int} {v : Int} {k : Nat} (h : k < l.length) (h1 : ¬ l[k].From = v) (h2 : ¬ l[k].To = v) :
    vwV l ev v k = none ∧ vwI l v k = none := by
  have : ¬ edgeAt v l[k] := fun h => h.elim h1 h2
  simp [vwV, vwI, h, this]

theorem viewsV_len (g : GraphD) (r : RunD) (v : Int) : (viewsV g r v).length ≤ g.Edges.length := fm_len _ _
theorem viewsI_len (g : GraphD) (v : Int) : (viewsI g v).length ≤ g.Edges.length := fm_len _ _


set_option maxHeartbeats 4000000 in
theorem implviews_k (g : GraphD) (r : RunD) (v : Int) (hg : (g.Edges).length ≤ 1048576) (hr : (r.Vals).length ≤ 1048576 ∧ (r.EVals).length ≤ 1048576 ∧ (r.Next.Bits).length ≤ 1048576) (he : r.EVals.length = g.Edges.length) : FnOK Tryz.prog 75 ⟨4, [(0, some (.ro ((g.Edges).map EdgeD.k))), (1, some (.ro ((r.Vals).map intK))), (2, some (.ro ((r.EVals).map intK))), (3, some (.ro ((r.Next.Bits).map bytK)))], [.agg [.v (.int .i64 g.N), .sl 0 3 0 (g.Edges).length], .agg [.v (.int .i64 r.Job.Prog), .v (.int .i64 r.Job.Src), .v (.int .i64 r.Iter), .v (.bool r.Done), .sl 1 1 0 (r.Vals).length, .sl 2 1 0 (r.EVals).length, .v (.int .i64 r.Next.N), .sl 3 1 0 (r.Next.Bits).length], .c (.v (.int .i64 v))], .tup [.inl (.sl 4 4 0 (viewsV g r v).length), .inl (.sl 5 1 0 (viewsI g v).length)],
    [(4, some (.row 162 ((viewsV g r v).map ViewD.k))), (5, some (.row 3 ((viewsI g v).map intK)))], 6⟩ := by
  obtain ⟨n, l⟩ := g
  obtain ⟨⟨jp, js⟩, it, d, va, ev, ⟨sn, sb⟩⟩ := r
  obtain ⟨h0, h1, h2⟩ := hr
  unfold viewsV viewsI
  dsimp only at hg he h0 h1 h2 ⊢
  refine fnOK_of true mixed Tryz.func75 rfl (by rfl) (by rfl) ?_
  have hres := congrArg Array.toList Tryz.results75
  simp only [Tryz.ntmps75, BGB, seval]
  (have gx := true_and True; refine go ?_; (repeat' first | exact Ef.mk | apply Lf.mk | refine fun (K : KT) hK hE hT => ?_ | refine fun (KS : KE) hKS => ?_ | refine fun (D : KD) hD => ?_ | refine fun (hg : (_ : Prop)) => ?_ | fail); all_goals (first | (refine Wr.mk ?_; (try clear gx); repeat first | clear hK hE hT K | clear hR hE hT K) | assumption | skip))
  refine loop_v (X := {k : Nat // k ≤ l.length}) [] (fun x => [(8, .c (.sl 6 4 0 (fm (vwV l ev v) x.1).length)), (9, .c (.sl 7 1 0 (fm (vwI l v) x.1).length)), (15, .c (.v (.int .i64 ((x.1 : Nat) : Int))))]) (fun x => [(0, some (.ro (((⟨n, l⟩ : GraphD).Edges).map EdgeD.k))), (1, some (.ro (((⟨⟨jp, js⟩, it, d, va, ev, ⟨sn, sb⟩⟩ : RunD).Vals).map intK))), (2, some (.ro (((⟨⟨jp, js⟩, it, d, va, ev, ⟨sn, sb⟩⟩ : RunD).EVals).map intK))), (3, some (.ro (((⟨⟨jp, js⟩, it, d, va, ev, ⟨sn, sb⟩⟩ : RunD).Next.Bits).map bytK))), (4, some (.box 25 [.v (.int .i64 n), .sl 0 3 0 l.length])), (5, some (.box 34 [.v (.int .i64 jp), .v (.int .i64 js), .v (.int .i64 it), .v (.bool d), .sl 1 1 0 va.length, .sl 2 1 0 ev.length, .v (.int .i64 sn), .sl 3 1 0 sb.length])), (6, some (.row 162 ((fm (vwV l ev v) x.1).map ViewD.k))), (7, some (.row 3 ((fm (vwI l v) x.1).map intK)))]) 8 (fun x => l.length - x.1) ⟨0, by omega⟩ ?_
  simp only [KPB, seval]
  refine ⟨?_, ?_⟩
  · (refine wk_a ?_; simp only [MAB, seval]; refine ⟨rfl, rfl, (by decide), ?_, ?_⟩; all_goals (first | (simp only [WKB, seval, fm_zero]; done) | (simp [WKB, seval, fm_zero]; done) | simp only [WKB, seval]))
  · rintro ⟨k, hk⟩ K hR hE hT
    have l1 := fm_len (vwV l ev v) k
    have l2 := fm_len (vwI l v) k
    (have gx := And.intro (@List.length_map.{0,0}) (And.intro (@List.getElem_map.{0,0}) (And.intro @EdgeD.k.eq_1 @intK.eq_1)); refine go ?_; (repeat' first | exact Ef.mk | apply Lf.mk | refine fun (K : KT) hK hE hT => ?_ | refine fun (KS : KE) hKS => ?_ | refine fun (D : KD) hD => ?_ | refine fun (hg : (_ : Prop)) => ?_ | fail); all_goals (first | (refine Wr.mk ?_; (try clear gx); repeat first | clear hK hE hT K | clear hR hE hT K) | assumption | skip))
    · obtain ⟨e1, e2⟩ := vw_hit (l := l) (ev := ev) (v := v) (k := k) (by omega) (by omega) (.inr (by assumption))
      (refine hR.out ⟨k + 1, by omega⟩ _ _ _ (by simp only; omega) ?_; (refine wk_a ?_; simp only [MAB, seval]; refine ⟨rfl, rfl, (by decide), ?_, ?_⟩; all_goals (first | (simp only [WKB, seval, fm_some e1, fm_some e2, ViewD.k, intK, edgeView]; done) | (simp [WKB, seval, fm_some e1, fm_some e2, ViewD.k, intK, edgeView]; done) | simp only [WKB, seval])))
    · obtain ⟨e1, e2⟩ := vw_miss (l := l) (ev := ev) (v := v) (k := k) (by omega) (by assumption) (by assumption)
      (refine hR.out ⟨k + 1, by omega⟩ _ _ _ (by simp only; omega) ?_; (refine wk_a ?_; simp only [MAB, seval]; refine ⟨rfl, rfl, (by decide), ?_, ?_⟩; all_goals (first | (simp only [WKB, seval, fm_none e1, fm_none e2]; done) | (simp [WKB, seval, fm_none e1, fm_none e2]; done) | simp only [WKB, seval])))
    · obtain ⟨e1, e2⟩ := vw_hit (l := l) (ev := ev) (v := v) (k := k) (by omega) (by omega) (.inl (by assumption))
      (refine hR.out ⟨k + 1, by omega⟩ _ _ _ (by simp only; omega) ?_; (refine wk_a ?_; simp only [MAB, seval]; refine ⟨rfl, rfl, (by decide), ?_, ?_⟩; all_goals (first | (simp only [WKB, seval, fm_some e1, fm_some e2, ViewD.k, intK, edgeView]; done) | (simp [WKB, seval, fm_some e1, fm_some e2, ViewD.k, intK, edgeView]; done) | simp only [WKB, seval])))
    · obtain rfl : k = l.length := by omega
      (refine post_a hres (.inl rfl) ?_; simp only [RSB, ENB, seval, tiAll, true_and]; simp only [MAB, seval]; refine ⟨rfl, rfl, ?_, ?_, ?_⟩ <;> (first | rfl | (simp [WKB, Nat.add_comm, true_and]; done) | (simp only [WKB, seval])))

end Go.Proofs.YtfnhchcgieeedaaGreat

namespace Go.Proofs.YtfnhchcgieeedaaGreat
set_option linter.unusedSimpArgs false
set_option linter.unusedVariables false
set_option linter.defProp false
open Go.RowKit

section
variable {α β : Type}
theorem fm_mem {f : Nat → Option α} : ∀ {n : Nat} {a : α}, a ∈ fm f n → ∃ i, i < n ∧ f i = some a
  | 0, a, h => by simp [fm_zero] at h
  | n + 1, a, h => by
    cases e : f n with
    | none =>
      rw [fm_none e] at h
      obtain ⟨i, h1, h2⟩ := fm_mem h
      exact ⟨i, by omega, h2⟩
    | some x =>
      rw [fm_some e, List.mem_append] at h
      rcases h with h | h
      · obtain ⟨i, h1, h2⟩ := fm_mem h
        exact ⟨i, by omega, h2⟩
      · simp at h; subst h; exact ⟨n, by omega, e⟩
theorem fm_len_eq {f : Nat → Option α} {f' : Nat → Option β} (h : ∀ i, (f i).isSome = (f' i).isSome) : ∀ n, (fm f n).length = (fm f' n).length
  | 0 => rfl
  | n + 1 => by
    have ih := fm_len_eq h n
    have hn := h n
    cases e : f n with
    | none =>
      rw [e] at hn
      have e' : f' n = none := by cases h' : f' n <;> simp_all
      rw [fm_none e, fm_none e', ih]
    | some x =>
      rw [e] at hn
      obtain ⟨y, e'⟩ : ∃ y, f' n = some y := by cases h' : f' n <;> simp_all
      rw [fm_some e, fm_some e', List.length_append, List.length_append, ih]; rfl
end

theorem vw_some (l : List EdgeD) (ev : List Int) (v : Int) (i : Nat) : (vwV l ev v i).isSome = (vwI l v i).isSome := by
  unfold vwV vwI
  cases l[i]? with
  | none => rfl
  | some x =>
    simp only [Option.bind_some]
    split <;> rfl

theorem views_len (g : GraphD) (r : RunD) (v : Int) : (viewsV g r v).length = (viewsI g v).length := fm_len_eq (vw_some _ _ _) _

theorem viewsI_mem {g : GraphD} {v a : Int} (h : a ∈ viewsI g v) : ∃ i : Nat, a = i ∧ i < g.Edges.length := by
  obtain ⟨i, h1, h2⟩ := fm_mem h
  unfold vwI at h2
  rw [List.getElem?_eq_getElem h1] at h2
  simp only [Option.bind_some] at h2
  split at h2
  · cases h2; exact ⟨i, rfl, h1⟩
  · cases h2

/-- The parts of a valid run but for its end. -/
structure RunIn (g : GraphD) (r : RunD) : Prop where
  go : graphOk g = true
  jo : jobOk g.N r.Job = true
  vl : (r.Vals.length : Int) = g.N
  el : r.EVals.length = g.Edges.length
  vo : r.Vals.all valOk = true
  eo : r.EVals.all valOk = true
  so : setOk g.N r.Next.Bits = true
  sn : r.Next.N = g.N

theorem runOk_in {g : GraphD} {r : RunD} (h : runOk g r = true) : RunIn g r ∧ (0 ≤ r.Iter ∧ r.Iter ≤ 1000) ∧ r.Done = emptyL r.Next.Bits := by
  unfold runOk at h
  simp only [Bool.and_eq_true, decide_eq_true_eq, beq_iff_eq] at h
  obtain ⟨⟨⟨⟨⟨⟨⟨h1, h2⟩, h3⟩, h4⟩, h5⟩, h6⟩, h7⟩, h8⟩ := h
  exact ⟨⟨h1, h2, h3.2.2.1, h3.2.2.2, h4, h5, by rw [← h7]; exact h6, h7⟩, ⟨h3.1, h3.2.1⟩, h8⟩

theorem RunIn.ok {g : GraphD} {r : RunD} (h : RunIn g r) (hi : 0 ≤ r.Iter ∧ r.Iter ≤ 1000) (hd : r.Done = emptyL r.Next.Bits) : runOk g r = true := by
  unfold runOk
  rw [h.go, h.jo, h.vo, h.eo, h.sn, h.so, decide_eq_true ⟨hi.1, hi.2, h.vl, h.el⟩, hd]
  simp

theorem graphOk_out {g : GraphD} (h : graphOk g = true) : (0 ≤ g.N ∧ g.N ≤ 150 ∧ g.Edges.length ≤ 400) ∧ ∀ e ∈ g.Edges, 0 ≤ e.From ∧ e.From < g.N ∧ 0 ≤ e.To ∧ e.To < g.N ∧ 0 ≤ e.W ∧ e.W ≤ 1000 := by
  unfold graphOk at h
  simp only [Bool.and_eq_true, decide_eq_true_eq, List.all_eq_true, edgeOk] at h
  exact h

theorem valOk_out {z : Int} (h : valOk z = true) : 0 ≤ z ∧ z ≤ 1099511627776 := by unfold valOk at h; simpa using h
theorem valOk_in {z : Int} (h : 0 ≤ z ∧ z ≤ 1099511627776) : valOk z = true := by unfold valOk; simpa using h

theorem jobOk_out {n : Int} {j : JobD} (h : jobOk n j = true) : 1 ≤ j.Prog ∧ j.Prog ≤ 4 := by
  unfold jobOk at h
  simp only [decide_eq_true_eq] at h
  exact ⟨h.1, h.2.1⟩

theorem views_ok {g : GraphD} {r : RunD} (h : RunIn g r) (v : Int) : (viewsV g r v).all viewOk = true := by
  rw [List.all_eq_true]
  intro x hx
  obtain ⟨i, h1, h2⟩ := fm_mem hx
  unfold vwV at h2
  rw [List.getElem?_eq_getElem h1] at h2
  simp only [Option.bind_some] at h2
  split at h2
  case isFalse => cases h2
  case isTrue ha =>
    cases h2
    obtain ⟨_, he⟩ := graphOk_out h.go
    obtain ⟨_, _, _, _, w1, w2⟩ := he _ (List.getElem_mem h1)
    have hi : i < r.EVals.length := by rw [h.el]; exact h1
    have hv := valOk_out (List.all_eq_true.1 h.eo _ (List.getElem_mem hi))
    refine viewOk_yes ?_ ?_ w1 w2 ?_
    · simp only [edgeView, List.getD, List.getElem?_eq_getElem hi]; exact hv.1
    · simp only [edgeView, List.getD, List.getElem?_eq_getElem hi]; exact hv.2
    · simp only [edgeView, beq_iff_eq]
      rcases ha with ha | ha
      · exact .inr ha
      · exact .inl ha

def otherI (e : EdgeD) (v : Int) : Int := if e.From = v then e.To else e.From

/-- The edges' values, the next set and the present set, while a vertex is updated. -/
structure VxD where
  ev : List Int
  nx : List UInt8
  nw : List UInt8

def edge0 : EdgeD := ⟨0, 0, 0⟩
def vxStep (g : GraphD) (v : Int) (at_ vs : List Int) (s : VxD) (k : Nat) : VxD :=
  if vs.getD k 0 = s.ev.getD (at_.getD k 0).toNat 0 then s
  else if v < otherI (g.Edges.getD (at_.getD k 0).toNat edge0) v then ⟨s.ev.set (at_.getD k 0).toNat (vs.getD k 0), s.nx, addL g.N s.nw (otherI (g.Edges.getD (at_.getD k 0).toNat edge0) v)⟩
  else ⟨s.ev.set (at_.getD k 0).toNat (vs.getD k 0), addL g.N s.nx (otherI (g.Edges.getD (at_.getD k 0).toNat edge0) v), s.nw⟩
def vxTo (g : GraphD) (v : Int) (at_ vs : List Int) (s : VxD) : Nat → VxD
  | 0 => s
  | k + 1 => vxStep g v at_ vs (vxTo g v at_ vs s k) k

section
variable {g : GraphD} {v : Int} {at_ vs : List Int} {s : VxD}
theorem vxStep_same {k i : Nat} (h1 : at_.getD k 0 = i) (h : vs.getD k 0 = s.ev.getD i 0) : vxStep g v at_ vs s k = s := by
  unfold vxStep; rw [h1, Int.toNat_natCast, if_pos h]
theorem vxStep_now {k i : Nat} (h1 : at_.getD k 0 = i) (h : ¬ vs.getD k 0 = s.ev.getD i 0) (h2 : v < otherI (g.Edges.getD i edge0) v) : vxStep g v at_ vs s k = ⟨s.ev.set i (vs.getD k 0), s.nx, addL g.N s.nw (otherI (g.Edges.getD i edge0) v)⟩ := by
  unfold vxStep; rw [h1, Int.toNat_natCast, if_neg h, if_pos h2]
theorem vxStep_next {k i : Nat} (h1 : at_.getD k 0 = i) (h : ¬ vs.getD k 0 = s.ev.getD i 0) (h2 : ¬ v < otherI (g.Edges.getD i edge0) v) : vxStep g v at_ vs s k = ⟨s.ev.set i (vs.getD k 0), addL g.N s.nx (otherI (g.Edges.getD i edge0) v), s.nw⟩ := by
  unfold vxStep; rw [h1, Int.toNat_natCast, if_neg h, if_neg h2]
theorem vxStep_or (k : Nat) : vxStep g v at_ vs s k = s ∨ ∃ u, vxStep g v at_ vs s k = ⟨s.ev.set (at_.getD k 0).toNat (vs.getD k 0), s.nx, addL g.N s.nw u⟩ ∨ vxStep g v at_ vs s k = ⟨s.ev.set (at_.getD k 0).toNat (vs.getD k 0), addL g.N s.nx u, s.nw⟩ := by
  unfold vxStep
  split
  · exact .inl rfl
  · split
    · exact .inr ⟨_, .inl rfl⟩
    · exact .inr ⟨_, .inr rfl⟩
end

theorem addL_ok {n : Int} {l : List UInt8} (u : Int) (h : setOk n l = true) : setOk n (addL n l u) = true := by
  obtain ⟨m, rfl⟩ := Int.eq_ofNat_of_zero_le (setOk_len h).1
  unfold addL
  split
  · rename_i hu
    obtain ⟨k, rfl⟩ := Int.eq_ofNat_of_zero_le hu.1
    rw [Int.toNat_natCast]
    exact setBit_ok h (by omega)
  · exact h

/-- What holds of the three lists all the way. -/
structure VxOk (g : GraphD) (s : VxD) : Prop where
  el : s.ev.length = g.Edges.length
  eo : s.ev.all valOk = true
  xo : setOk g.N s.nx = true
  wo : setOk g.N s.nw = true

theorem all_set {l : List Int} {i : Nat} {x : Int} (h : l.all valOk = true) (hx : valOk x = true) : (l.set i x).all valOk = true := by
  rw [List.all_eq_true] at h ⊢
  intro y hy
  rcases List.mem_or_eq_of_mem_set hy with h1 | rfl
  · exact h y h1
  · exact hx

theorem vxTo_ok {g : GraphD} {v : Int} {at_ vs : List Int} {s : VxD} (h : VxOk g s) (hv : ∀ k, valOk (vs.getD k 0) = true) : ∀ k, VxOk g (vxTo g v at_ vs s k)
  | 0 => h
  | k + 1 => by
    have ih := vxTo_ok (v := v) (at_ := at_) h hv k
    show VxOk g (vxStep g v at_ vs (vxTo g v at_ vs s k) k)
    rcases vxStep_or (g := g) (v := v) (at_ := at_) (vs := vs) (s := vxTo g v at_ vs s k) k with e | ⟨u, e | e⟩
    · rw [e]; exact ih
    · rw [e]; exact ⟨by simpa using ih.el, all_set ih.eo (hv k), ih.xo, addL_ok u ih.wo⟩
    · rw [e]; exact ⟨by simpa using ih.el, all_set ih.eo (hv k), addL_ok u ih.xo, ih.wo⟩

def vxVal (g : GraphD) (r : RunD) (v : Nat) : Int := updVal r.Job.Prog (r.Vals.getD v 0) (viewsV g r v)
def vxVals (g : GraphD) (r : RunD) (v : Nat) : List Int := updE r.Job.Prog (r.Vals.getD v 0) (viewsV g r v)
def vxEnd (g : GraphD) (r : RunD) (nw : List UInt8) (v : Nat) : VxD := vxTo g v (viewsI g v) (vxVals g r v) ⟨r.EVals, r.Next.Bits, nw⟩ (viewsI g v).length
/-- The run behind the update of a vertex; the present set. -/
def runV (g : GraphD) (r : RunD) (nw : List UInt8) (v : Nat) : RunD := ⟨r.Job, r.Iter, r.Done, r.Vals.set v (vxVal g r v), (vxEnd g r nw v).ev, ⟨r.Next.N, (vxEnd g r nw v).nx⟩⟩
def nowV (g : GraphD) (r : RunD) (nw : List UInt8) (v : Nat) : List UInt8 := (vxEnd g r nw v).nw

theorem edgeV_rng {p n o : Int} {x : ViewD} (hp : 1 ≤ p ∧ p ≤ 4) (hn : 0 ≤ n ∧ n ≤ 1099511627776) (hx : viewOk x = true) (ho : x.Out = true → 0 < o) : 0 ≤ edgeV p n o x ∧ edgeV p n o x ≤ 1099511627776 := by
  have hv := viewOk_out hx
  rcases (by omega : p = 1 ∨ p = 2 ∨ p = 3 ∨ p = 4) with rfl | rfl | rfl | rfl
  · rcases Bool.eq_false_or_eq_true x.Out with h | h
    · rw [edge1_out h]
      have := ho h
      exact ⟨Int.ediv_nonneg hn.1 (by omega), Int.le_trans (Int.ediv_le_self _ hn.1) hn.2⟩
    · rw [edge1_in h]; exact ⟨hv.1, hv.2.1⟩
  · rw [edge2]; omega
  · rcases Bool.eq_false_or_eq_true x.Out with h | h
    · rw [edge3_out h]; exact hn
    · rw [edge3_in h]; exact ⟨hv.1, hv.2.1⟩
  · rw [edge4]; exact labE_rng hn hx

theorem outsN_pos {l : List ViewD} {x : ViewD} (hx : x ∈ l) (ho : x.Out = true) : 0 < outsN l := by
  obtain ⟨k, hk, rfl⟩ := List.getElem_of_mem hx
  exact outs_pos hk ho

section
variable {g : GraphD} {r : RunD} {nw : List UInt8} {v : Nat}
theorem RunIn.val (h : RunIn g r) (hv : (v : Int) < g.N) : 0 ≤ r.Vals.getD v 0 ∧ r.Vals.getD v 0 ≤ 1099511627776 := by
  have hl : v < r.Vals.length := by have := h.vl; omega
  simp only [List.getD, List.getElem?_eq_getElem hl]
  exact valOk_out (List.all_eq_true.1 h.vo _ (List.getElem_mem hl))
theorem vxVal_rng (h : RunIn g r) (hv : (v : Int) < g.N) : 0 ≤ vxVal g r v ∧ vxVal g r v ≤ 1099511627776 := updVal_rng (h.val hv) (views_ok h _)
theorem vxVals_ok (h : RunIn g r) (hv : (v : Int) < g.N) (k : Nat) : valOk ((vxVals g r v).getD k 0) = true := by
  unfold vxVals updE
  simp only [List.getD, List.getElem?_map]
  cases hx : (viewsV g r v)[k]? with
  | none => rfl
  | some x =>
    have hm := List.mem_of_getElem? hx
    refine valOk_in (edgeV_rng (jobOk_out h.jo) (vxVal_rng h hv) (List.all_eq_true.1 (views_ok h v) x hm) fun ho => outsN_pos hm ho)
theorem vxVals_len : (vxVals g r v).length = (viewsI g v).length := by unfold vxVals updE; rw [List.length_map, views_len]
theorem vxUpd_ok (h : RunIn g r) (hv : (v : Int) < g.N) : updOk r.Job v (r.Vals.getD v 0) (viewsV g r v) = true := by
  obtain ⟨⟨g1, g2, g3⟩, _⟩ := graphOk_out h.go
  have := viewsV_len g r v
  have := h.val hv
  obtain ⟨j1, j2⟩ := jobOk_out h.jo
  exact updOk_yes (by omega) (views_ok h _)
theorem vxUpd (h : RunIn g r) (hv : (v : Int) < g.N) : updN r.Job v (r.Vals.getD v 0) (viewsV g r v) = vxVal g r v ∧ updL r.Job v (r.Vals.getD v 0) (viewsV g r v) = vxVals g r v := by
  unfold updN updL
  rw [vxUpd_ok h hv]
  exact ⟨rfl, rfl⟩
theorem vx0_ok (h : RunIn g r) (hw : setOk g.N nw = true) : VxOk g ⟨r.EVals, r.Next.Bits, nw⟩ := ⟨h.el, h.eo, h.so, hw⟩
theorem vxEnd_ok (h : RunIn g r) (hw : setOk g.N nw = true) (hv : (v : Int) < g.N) : VxOk g (vxEnd g r nw v) := vxTo_ok (vx0_ok h hw) (vxVals_ok h hv) _
theorem runV_in (h : RunIn g r) (hw : setOk g.N nw = true) (hv : (v : Int) < g.N) : RunIn g (runV g r nw v) ∧ setOk g.N (nowV g r nw v) = true := by
  have hx := vxEnd_ok h hw hv
  exact ⟨⟨h.go, h.jo, by simp only [runV, List.length_set]; exact h.vl, hx.el, all_set h.vo (valOk_in (vxVal_rng h hv)), hx.eo, hx.xo, h.sn⟩, hx.wo⟩
end

def zeroRun : RunD := ⟨⟨0, 0⟩, 0, false, [], [], ⟨0, []⟩⟩

end Go.Proofs.YtfnhchcgieeedaaGreat

namespace Go.Proofs.YtfnhchcgieeedaaGreat
set_option linter.unusedSimpArgs false
set_option linter.unusedVariables false
set_option linter.defProp false
open Go.RowKit

theorem otherEnd_k (e : EdgeD) (v : Int) : FnOK Tryz.prog 74 ⟨0, [], [.c (.v (.int .i64 e.From)), .c (.v (.int .i64 e.To)), .c (.v (.int .i64 v))], .c (.v (.int .i64 (otherI e v))), [], 0⟩ := by
  unfold otherI
  by_cases h : e.From = v
  · rw [if_pos h]
    refine fnOK_of true mixed Tryz.func74 rfl (by rfl) (by rfl) ?_
    have hres := congrArg Array.toList Tryz.results74
    simp only [Tryz.ntmps74, BGB, seval]
    (have gx := true_and True; refine go ?_; (repeat' first | exact Ef.mk | apply Lf.mk | refine fun (K : KT) hK hE hT => ?_ | refine fun (KS : KE) hKS => ?_ | refine fun (D : KD) hD => ?_ | refine fun (hg : (_ : Prop)) => ?_ | fail); all_goals (first | (refine Wr.mk ?_; (try clear gx); repeat first | clear hK hE hT K | clear hR hE hT K) | assumption | skip))
    all_goals (refine post_a hres (.inl rfl) ?_; simp only [RSB, ENB, seval, tiAll, true_and]; simp only [MAB, seval]; refine ⟨rfl, rfl, ?_, ?_, ?_⟩ <;> (first | rfl | (simp [WKB, Nat.add_comm, true_and]; done) | (simp only [WKB, seval])))
  · rw [if_neg h]
    refine fnOK_of true mixed Tryz.func74 rfl (by rfl) (by rfl) ?_
    have hres := congrArg Array.toList Tryz.results74
    simp only [Tryz.ntmps74, BGB, seval]
    (have gx := true_and True; refine go ?_; (repeat' first | exact Ef.mk | apply Lf.mk | refine fun (K : KT) hK hE hT => ?_ | refine fun (KS : KE) hKS => ?_ | refine fun (D : KD) hD => ?_ | refine fun (hg : (_ : Prop)) => ?_ | fail); all_goals (first | (refine Wr.mk ?_; (try clear gx); repeat first | clear hK hE hT K | clear hR hE hT K) | assumption | skip))
    all_goals (refine post_a hres (.inl rfl) ?_; simp only [RSB, ENB, seval, tiAll, true_and]; simp only [MAB, seval]; refine ⟨rfl, rfl, ?_, ?_, ?_⟩ <;> (first | rfl | (simp [WKB, Nat.add_comm, true_and]; done) | (simp only [WKB, seval])))

set_option maxHeartbeats 2000000 in
/-- 'add' on the set in a run. -/
theorem addR_k (x : RunD) (l : List UInt8) (v : Int) (hx : l.length = x.Next.Bits.length) (hl : x.Next.N ≤ 8 * l.length) (hb : l.length ≤ 1048576) :
    FnOK Tryz.prog 88 ⟨4, [(0, some (.box 34 [.v (.int .i64 x.Job.Prog), .v (.int .i64 x.Job.Src), .v (.int .i64 x.Iter), .v (.bool x.Done), .sl 1 1 0 (x.Vals).length, .sl 2 1 0 (x.EVals).length, .v (.int .i64 x.Next.N), .sl 3 1 0 (x.Next.Bits).length])), (3, some (.row 5 (l.map bytK)))], [.c (.ptr 0 0 6), .c (.v (.int .i64 v))], .tup [],
      [(0, some (.box 34 [.v (.int .i64 x.Job.Prog), .v (.int .i64 x.Job.Src), .v (.int .i64 x.Iter), .v (.bool x.Done), .sl 1 1 0 (x.Vals).length, .sl 2 1 0 (x.EVals).length, .v (.int .i64 x.Next.N), .sl 3 1 0 (x.Next.Bits).length])), (3, some (.row 5 ((addL x.Next.N l v).map bytK)))], 4⟩ := by
  obtain ⟨⟨jp, js⟩, it, d, va, ev, ⟨n, lx⟩⟩ := x
  dsimp only at hx hl hb ⊢
  by_cases hv : 0 ≤ v ∧ v < n
  · obtain ⟨k, rfl⟩ := Int.eq_ofNat_of_zero_le hv.1
    have hk : k / 8 < l.length := by omega
    have q2 : ((k : Int) / 8).toNat = k / 8 := by omega
    have q3 := setBit_row l k hk
    have q4 := or_bitW (l[k / 8]) k
    obtain ⟨hw1, hw2⟩ := bitW_le k
    have q5 := shl_bitW k
    rw [addL_in hv.2]
    refine fnOK_of true mixed Tryz.func88 rfl (by rfl) (by rfl) ?_
    have hres := congrArg Array.toList Tryz.results88
    simp only [Tryz.ntmps88, BGB, seval]
    (have gx := And.intro (@List.length_map.{0,0}) (And.intro (@List.getElem_map.{0,0}) (And.intro (@bytK.eq_1) (And.intro (@q2) (And.intro (@q5) (And.intro @q4 @q3))))); refine go ?_; (repeat' first | exact Ef.mk | apply Lf.mk | refine fun (K : KT) hK hE hT => ?_ | refine fun (KS : KE) hKS => ?_ | refine fun (D : KD) hD => ?_ | refine fun (hg : (_ : Prop)) => ?_ | fail); all_goals (first | (refine Wr.mk ?_; (try clear gx); repeat first | clear hK hE hT K | clear hR hE hT K) | assumption | skip))
    (refine post_a hres (by first | exact .inl rfl | exact .inr rfl) ?_; simp only [RSB, ENB, seval, tiAll, q3]; simp only [MAB, seval]; refine ⟨rfl, rfl, ?_, ?_, ?_⟩ <;> (first | rfl | (simp [WKB, Nat.add_comm, q3]; done) | (simp only [WKB, seval])))
  · rw [addL_out hv]
    refine fnOK_of true mixed Tryz.func88 rfl (by rfl) (by rfl) ?_
    have hres := congrArg Array.toList Tryz.results88
    simp only [Tryz.ntmps88, BGB, seval]
    (have gx := And.intro (@List.length_map.{0,0}) (And.intro @List.getElem_map.{0,0} @bytK.eq_1); refine go ?_; (repeat' first | exact Ef.mk | apply Lf.mk | refine fun (K : KT) hK hE hT => ?_ | refine fun (KS : KE) hKS => ?_ | refine fun (D : KD) hD => ?_ | refine fun (hg : (_ : Prop)) => ?_ | fail); all_goals (first | (refine Wr.mk ?_; (try clear gx); repeat first | clear hK hE hT K | clear hR hE hT K) | assumption | skip))
    all_goals (refine post_a hres (by first | exact .inl rfl | exact .inr rfl) ?_; simp only [RSB, ENB, seval, tiAll, true_and]; simp only [MAB, seval]; refine ⟨rfl, rfl, ?_, ?_, ?_⟩ <;> (first | rfl | (simp [WKB, Nat.add_comm, true_and]; done) | (simp only [WKB, seval])))

def wakeW (n : Int) (nw : List UInt8) (v u : Int) : List UInt8 := if v < u then addL n nw u else nw
def wakeX (n : Int) (nx : List UInt8) (v u : Int) : List UInt8 := if v < u then nx else addL n nx u

set_option maxHeartbeats 4000000 in
theorem wake_k (x : RunD) (va ve : List Int) (nx nw : List UInt8) (n : Int) (m : Nat) (v u : Int) (hx : nx.length = x.Next.Bits.length) (hx8 : x.Next.N ≤ 8 * nx.length) (bx : nx.length ≤ 1048576) (hm : nw.length = m) (hw8 : n ≤ 8 * nw.length) (bw : nw.length ≤ 1048576) :
    FnOK Tryz.prog 73 ⟨6, [(0, some (.box 32 [.v (.int .i64 n), .sl 1 1 0 m])), (1, some (.row 5 (nw.map bytK))), (2, some (.box 34 [.v (.int .i64 x.Job.Prog), .v (.int .i64 x.Job.Src), .v (.int .i64 x.Iter), .v (.bool x.Done), .sl 3 1 0 (x.Vals).length, .sl 4 1 0 (x.EVals).length, .v (.int .i64 x.Next.N), .sl 5 1 0 (x.Next.Bits).length])), (3, some (.row 3 (va.map intK))), (4, some (.row 3 (ve.map intK))), (5, some (.row 5 (nx.map bytK)))], [.c (.ptr 0 0 0), .c (.ptr 2 0 6), .c (.v (.int .i64 v)), .c (.v (.int .i64 u))], .tup [],
      [(0, some (.box 32 [.v (.int .i64 n), .sl 1 1 0 m])), (1, some (.row 5 ((wakeW n nw v u).map bytK))), (2, some (.box 34 [.v (.int .i64 x.Job.Prog), .v (.int .i64 x.Job.Src), .v (.int .i64 x.Iter), .v (.bool x.Done), .sl 3 1 0 (x.Vals).length, .sl 4 1 0 (x.EVals).length, .v (.int .i64 x.Next.N), .sl 5 1 0 (x.Next.Bits).length])), (3, some (.row 3 (va.map intK))), (4, some (.row 3 (ve.map intK))), (5, some (.row 5 ((wakeX x.Next.N nx v u).map bytK)))], 6⟩ := by
  have c1 := add_k n nw u hw8 bw
  rw [hm] at c1
  have c2 := addR_k x nx u hx hx8 bx
  unfold wakeW wakeX
  by_cases h : v < u
  · rw [if_pos h, if_pos h]
    refine fnOK_of true mixed Tryz.func73 rfl (by rfl) (by rfl) ?_
    have hres := congrArg Array.toList Tryz.results73
    simp only [Tryz.ntmps73, BGB, seval]
    (have gx := And.intro (@List.length_map.{0,0}) (And.intro @List.getElem_map.{0,0} @bytK.eq_1); have q1 := c1; have q2 := c2; refine go ?_; (repeat' first | exact Ef.mk | apply Lf.mk | refine fun (K : KT) hK hE hT => ?_ | refine fun (KS : KE) hKS => ?_ | refine fun (D : KD) hD => ?_ | refine fun (hg : (_ : Prop)) => ?_ | fail); all_goals (first | (refine Wr.mk ?_; (try clear gx q1 q2); repeat first | clear hK hE hT K | clear hR hE hT K) | assumption | skip))
    all_goals (refine post_a hres (by first | exact .inl rfl | exact .inr rfl) ?_; simp only [RSB, ENB, seval, tiAll, true_and]; simp only [MAB, seval]; refine ⟨rfl, rfl, ?_, ?_, ?_⟩ <;> (first | rfl | (simp [WKB, Nat.add_comm, true_and]; done) | (simp only [WKB, seval])))
  · rw [if_neg h, if_neg h]
    refine fnOK_of true mixed Tryz.func73 rfl (by rfl) (by rfl) ?_
    have hres := congrArg Array.toList Tryz.results73
    simp only [Tryz.ntmps73, BGB, seval]
    (have gx := And.intro (@List.length_map.{0,0}) (And.intro @List.getElem_map.{0,0} @bytK.eq_1); have q1 := c1; have q2 := c2; refine go ?_; (repeat' first | exact Ef.mk | apply Lf.mk | refine fun (K : KT) hK hE hT => ?_ | refine fun (KS : KE) hKS => ?_ | refine fun (D : KD) hD => ?_ | refine fun (hg : (_ : Prop)) => ?_ | fail); all_goals (first | (refine Wr.mk ?_; (try clear gx q1 q2); repeat first | clear hK hE hT K | clear hR hE hT K) | assumption | skip))
    all_goals (refine post_a hres (by first | exact .inl rfl | exact .inr rfl) ?_; simp only [RSB, ENB, seval, tiAll, true_and]; simp only [MAB, seval]; refine ⟨rfl, rfl, ?_, ?_, ?_⟩ <;> (first | rfl | (simp [WKB, Nat.add_comm, true_and]; done) | (simp only [WKB, seval])))

theorem setOk_same {n : Int} {l m : List UInt8} (h : setOk n l = true) (h' : setOk n m = true) : l.length = m.length := by rw [(setOk_len h).2.2.1, (setOk_len h').2.2.1]

theorem vxTo_lens {g : GraphD} {y : RunD} {w : List UInt8} {v : Nat} (h : RunIn g y) (hw : setOk g.N w = true) (hv : (v : Int) < g.N) (k : Nat) :
    (vxTo g v (viewsI g v) (vxVals g y v) ⟨y.EVals, y.Next.Bits, w⟩ k).ev.length = y.EVals.length ∧ (vxTo g v (viewsI g v) (vxVals g y v) ⟨y.EVals, y.Next.Bits, w⟩ k).nx.length = y.Next.Bits.length ∧ (vxTo g v (viewsI g v) (vxVals g y v) ⟨y.EVals, y.Next.Bits, w⟩ k).nw.length = w.length := by
  have hx := vxTo_ok (v := (v : Int)) (at_ := viewsI g v) (vx0_ok h hw) (vxVals_ok h hv) k
  exact ⟨by rw [hx.el, h.el], setOk_same hx.xo h.so, setOk_same hx.wo hw⟩

set_option maxHeartbeats 16000000 in
theorem update_k (g : GraphD) (y : RunD) (w : List UInt8) (v : Nat) (h : RunIn g y) (hw : setOk g.N w = true) (hv : (v : Int) < g.N) :
    FnOK Tryz.prog 61 ⟨7, [(0, some (.ro ((g.Edges).map EdgeD.k))), (1, some (.box 32 [.v (.int .i64 g.N), .sl 2 1 0 w.length])), (2, some (.row 5 (w.map bytK))), (3, some (.box 34 [.v (.int .i64 y.Job.Prog), .v (.int .i64 y.Job.Src), .v (.int .i64 y.Iter), .v (.bool y.Done), .sl 4 1 0 (y.Vals).length, .sl 5 1 0 (y.EVals).length, .v (.int .i64 y.Next.N), .sl 6 1 0 (y.Next.Bits).length])), (4, some (.row 3 ((y.Vals).map intK))), (5, some (.row 3 ((y.EVals).map intK))), (6, some (.row 5 ((y.Next.Bits).map bytK)))],
      [.c (.ptr 3 0 0), .agg [.v (.int .i64 g.N), .sl 0 3 0 (g.Edges).length], .c (.ptr 1 0 0), .c (.v (.int .i64 (v : Int)))], .tup [],
      [(1, some (.box 32 [.v (.int .i64 g.N), .sl 2 1 0 w.length])), (2, some (.row 5 ((vxEnd g y w v).nw.map bytK))), (3, some (.box 34 [.v (.int .i64 y.Job.Prog), .v (.int .i64 y.Job.Src), .v (.int .i64 y.Iter), .v (.bool y.Done), .sl 4 1 0 (y.Vals).length, .sl 5 1 0 (y.EVals).length, .v (.int .i64 y.Next.N), .sl 6 1 0 (y.Next.Bits).length])), (4, some (.row 3 ((y.Vals.set v (vxVal g y v)).map intK))), (5, some (.row 3 ((vxEnd g y w v).ev.map intK))), (6, some (.row 5 ((vxEnd g y w v).nx.map bytK)))], 7⟩ := by
  obtain ⟨⟨g1, g2, g3⟩, _⟩ := graphOk_out h.go
  have hvl := h.vl
  have hel := h.el
  have hsn := h.sn
  obtain ⟨_, _, b3, b4⟩ := setOk_len h.so
  obtain ⟨_, _, b5, b6⟩ := setOk_len hw
  have bg : (g.Edges).length ≤ 1048576 := by omega
  have br : (y.Vals).length ≤ 1048576 ∧ (y.EVals).length ≤ 1048576 ∧ (y.Next.Bits).length ≤ 1048576 := ⟨by omega, by omega, by omega⟩
  have hvv : v < y.Vals.length := by omega
  have e0 : y.Vals.getD v 0 = y.Vals[v] := by simp [List.getD, hvv]
  have cv := implviews_k g y (v : Int) bg br hel
  have cl := viewsV_len g y (v : Int)
  have ci := viewsI_len g (v : Int)
  have cu := implUpdate_k y.Job (v : Int) (y.Vals.getD v 0) (viewsV g y (v : Int)) (by omega)
  rw [(vxUpd h hv).1, (vxUpd h hv).2, e0] at cu
  have hml : (vxVals g y v).length = (viewsI g (v : Int)).length := vxVals_len
  refine fnOK_of true mixed Tryz.func61 rfl (by rfl) (by rfl) ?_
  have hres := congrArg Array.toList Tryz.results61
  simp only [Tryz.ntmps61, BGB, seval]
  (have gx := And.intro (@List.length_map.{0,0}) (And.intro @List.getElem_map.{0,0} @intK.eq_1); have q1 := cv; have q2 := cu; refine go ?_; (repeat' first | exact Ef.mk | apply Lf.mk | refine fun (K : KT) hK hE hT => ?_ | refine fun (KS : KE) hKS => ?_ | refine fun (D : KD) hD => ?_ | refine fun (hg : (_ : Prop)) => ?_ | fail); all_goals (first | (refine Wr.mk ?_; (try clear gx q1 q2); repeat first | clear hK hE hT K | clear hR hE hT K) | assumption | skip))
  refine loop_v (X := {k : Nat // k ≤ (viewsI g (v : Int)).length}) [] (fun x => [(49, .c (.v (.int .i64 ((x.1 : Nat) : Int))))]) (fun x => [(0, some (.ro ((g.Edges).map EdgeD.k))), (1, some (.box 32 [.v (.int .i64 g.N), .sl 2 1 0 w.length])), (2, some (.row 5 ((vxTo g v (viewsI g v) (vxVals g y v) ⟨y.EVals, y.Next.Bits, w⟩ x.1).nw.map bytK))), (3, some (.box 34 [.v (.int .i64 y.Job.Prog), .v (.int .i64 y.Job.Src), .v (.int .i64 y.Iter), .v (.bool y.Done), .sl 4 1 0 (y.Vals).length, .sl 5 1 0 (y.EVals).length, .v (.int .i64 y.Next.N), .sl 6 1 0 (y.Next.Bits).length])), (4, some (.row 3 ((y.Vals.set v (vxVal g y v)).map intK))), (5, some (.row 3 ((vxTo g v (viewsI g v) (vxVals g y v) ⟨y.EVals, y.Next.Bits, w⟩ x.1).ev.map intK))), (6, some (.row 5 ((vxTo g v (viewsI g v) (vxVals g y v) ⟨y.EVals, y.Next.Bits, w⟩ x.1).nx.map bytK))), (7, some (.box 25 [.v (.int .i64 g.N), .sl 0 3 0 (g.Edges).length])), (8, some (.row 162 ((viewsV g y v).map ViewD.k))), (9, some (.row 3 ((viewsI g v).map intK))), (10, some (.row 3 ((vxVals g y v).map intK)))]) 11 (fun x => (viewsI g (v : Int)).length - x.1) ⟨0, by omega⟩ ?_
  simp only [KPB, seval]
  refine ⟨?_, ?_⟩
  · (refine wk_a ?_; simp only [MAB, seval]; refine ⟨rfl, rfl, (by decide), ?_, ?_⟩; all_goals (first | (simp only [WKB, seval, vxTo, List.map_set, intK]; done) | (simp [WKB, seval, vxTo, List.map_set, intK]; done) | simp only [WKB, seval]))
  · rintro ⟨k, hk⟩ K hR hE hT
    obtain ⟨t1, t2, t3⟩ := vxTo_lens h hw hv k
    have sok := vxTo_ok (v := (v : Int)) (at_ := viewsI g v) (vx0_ok h hw) (vxVals_ok h hv) k
    rcases Nat.lt_or_ge k (viewsI g (v : Int)).length with hlt | hge
    case inr =>
      obtain rfl : k = (viewsI g (v : Int)).length := by omega
      (have gx := And.intro (@List.length_map.{0,0}) (And.intro @List.getElem_map.{0,0} @intK.eq_1); refine go ?_; (repeat' first | exact Ef.mk | apply Lf.mk | refine fun (K : KT) hK hE hT => ?_ | refine fun (KS : KE) hKS => ?_ | refine fun (D : KD) hD => ?_ | refine fun (hg : (_ : Prop)) => ?_ | fail); all_goals (first | (refine Wr.mk ?_; (try clear gx); repeat first | clear hK hE hT K | clear hR hE hT K) | assumption | skip))
      (refine post_a hres (by first | exact .inl rfl | exact .inr rfl) ?_; simp only [RSB, ENB, seval, tiAll, vxEnd]; simp only [MAB, seval]; refine ⟨rfl, rfl, ?_, ?_, ?_⟩ <;> (first | rfl | (simp [WKB, Nat.add_comm, vxEnd]; done) | (simp only [WKB, seval])))
    case inl =>
      obtain ⟨i, hi, hil⟩ := viewsI_mem (List.getElem_mem hlt)
      have d1 : (viewsI g (v : Int)).getD k 0 = i := by simp [List.getD, hlt, hi]
      have d2 : (vxVals g y v).getD k 0 = (vxVals g y v)[k]'(by omega) := by simp [List.getD, hml, hlt]
      have d3 : (vxTo g v (viewsI g v) (vxVals g y v) ⟨y.EVals, y.Next.Bits, w⟩ k).ev.getD i 0 = (vxTo g v (viewsI g v) (vxVals g y v) ⟨y.EVals, y.Next.Bits, w⟩ k).ev[i]'(by omega) := by simp [List.getD, t1, hel, hil]
      have d4 : g.Edges.getD i edge0 = g.Edges[i] := by simp [List.getD, hil]
      have hst : (vxTo g v (viewsI g v) (vxVals g y v) ⟨y.EVals, y.Next.Bits, w⟩ (k + 1)) = vxStep g v (viewsI g v) (vxVals g y v) (vxTo g v (viewsI g v) (vxVals g y v) ⟨y.EVals, y.Next.Bits, w⟩ k) k := rfl
      by_cases hs : (vxVals g y v)[k]'(by omega) = (vxTo g v (viewsI g v) (vxVals g y v) ⟨y.EVals, y.Next.Bits, w⟩ k).ev[i]'(by omega)
      · have e := hst.trans (vxStep_same d1 (by rw [d2, d3]; exact hs))
        (have gx := And.intro (@List.length_map.{0,0}) (And.intro (@List.getElem_map.{0,0}) (And.intro @intK.eq_1 @hi)); refine go ?_; (repeat' first | exact Ef.mk | apply Lf.mk | refine fun (K : KT) hK hE hT => ?_ | refine fun (KS : KE) hKS => ?_ | refine fun (D : KD) hD => ?_ | refine fun (hg : (_ : Prop)) => ?_ | fail); all_goals (first | (refine Wr.mk ?_; (try clear gx); repeat first | clear hK hE hT K | clear hR hE hT K) | assumption | skip))
        (refine hR.out ⟨k + 1, by omega⟩ _ _ _ (by simp only; omega) ?_; (refine wk_a ?_; simp only [MAB, seval]; refine ⟨rfl, rfl, (by decide), ?_, ?_⟩; all_goals (first | (simp only [WKB, seval, e]; done) | (simp [WKB, seval, e]; done) | simp only [WKB, seval])))
      · have co := otherEnd_k g.Edges[i] (v : Int)
        have cw := wake_k y (y.Vals.set v (vxVal g y v)) ((vxTo g v (viewsI g v) (vxVals g y v) ⟨y.EVals, y.Next.Bits, w⟩ k).ev.set i ((vxVals g y v)[k]'(by omega))) (vxTo g v (viewsI g v) (vxVals g y v) ⟨y.EVals, y.Next.Bits, w⟩ k).nx (vxTo g v (viewsI g v) (vxVals g y v) ⟨y.EVals, y.Next.Bits, w⟩ k).nw g.N w.length (v : Int) (otherI g.Edges[i] v) t2 (by omega) (by omega) t3 (by omega) (by omega)
        by_cases hu : (v : Int) < otherI g.Edges[i] v
        · have e := hst.trans (vxStep_now d1 (by rw [d2, d3]; exact hs) (by rw [d4]; exact hu))
          rw [d2, d4] at e
          have ew : wakeW g.N (vxTo g v (viewsI g v) (vxVals g y v) ⟨y.EVals, y.Next.Bits, w⟩ k).nw (v : Int) (otherI g.Edges[i] v) = addL g.N (vxTo g v (viewsI g v) (vxVals g y v) ⟨y.EVals, y.Next.Bits, w⟩ k).nw (otherI g.Edges[i] v) := if_pos hu
          have ex : wakeX y.Next.N (vxTo g v (viewsI g v) (vxVals g y v) ⟨y.EVals, y.Next.Bits, w⟩ k).nx (v : Int) (otherI g.Edges[i] v) = (vxTo g v (viewsI g v) (vxVals g y v) ⟨y.EVals, y.Next.Bits, w⟩ k).nx := if_pos hu
          rw [ew, ex] at cw
          (have gx := And.intro (@List.length_map.{0,0}) (And.intro (@List.getElem_map.{0,0}) (And.intro (@intK.eq_1) (And.intro @EdgeD.k.eq_1 @hi))); have q1 := co; have q2 := cw; refine go ?_; (repeat' first | exact Ef.mk | apply Lf.mk | refine fun (K : KT) hK hE hT => ?_ | refine fun (KS : KE) hKS => ?_ | refine fun (D : KD) hD => ?_ | refine fun (hg : (_ : Prop)) => ?_ | fail); all_goals (first | (refine Wr.mk ?_; (try clear gx q1 q2); repeat first | clear hK hE hT K | clear hR hE hT K) | assumption | skip))
          (refine hR.out ⟨k + 1, by omega⟩ _ _ _ (by simp only; omega) ?_; (refine wk_a ?_; simp only [MAB, seval]; refine ⟨rfl, rfl, (by decide), ?_, ?_⟩; all_goals (first | (simp only [WKB, seval, e, List.map_set, intK]; done) | (simp [WKB, seval, e, List.map_set, intK]; done) | simp only [WKB, seval])))
        · have e := hst.trans (vxStep_next d1 (by rw [d2, d3]; exact hs) (by rw [d4]; exact hu))
          rw [d2, d4] at e
          have ew : wakeW g.N (vxTo g v (viewsI g v) (vxVals g y v) ⟨y.EVals, y.Next.Bits, w⟩ k).nw (v : Int) (otherI g.Edges[i] v) = (vxTo g v (viewsI g v) (vxVals g y v) ⟨y.EVals, y.Next.Bits, w⟩ k).nw := if_neg hu
          have ex : wakeX y.Next.N (vxTo g v (viewsI g v) (vxVals g y v) ⟨y.EVals, y.Next.Bits, w⟩ k).nx (v : Int) (otherI g.Edges[i] v) = addL g.N (vxTo g v (viewsI g v) (vxVals g y v) ⟨y.EVals, y.Next.Bits, w⟩ k).nx (otherI g.Edges[i] v) := by rw [hsn]; exact if_neg hu
          rw [ew, ex] at cw
          (have gx := And.intro (@List.length_map.{0,0}) (And.intro (@List.getElem_map.{0,0}) (And.intro (@intK.eq_1) (And.intro @EdgeD.k.eq_1 @hi))); have q1 := co; have q2 := cw; refine go ?_; (repeat' first | exact Ef.mk | apply Lf.mk | refine fun (K : KT) hK hE hT => ?_ | refine fun (KS : KE) hKS => ?_ | refine fun (D : KD) hD => ?_ | refine fun (hg : (_ : Prop)) => ?_ | fail); all_goals (first | (refine Wr.mk ?_; (try clear gx q1 q2); repeat first | clear hK hE hT K | clear hR hE hT K) | assumption | skip))
          (refine hR.out ⟨k + 1, by omega⟩ _ _ _ (by simp only; omega) ?_; (refine wk_a ?_; simp only [MAB, seval]; refine ⟨rfl, rfl, (by decide), ?_, ?_⟩; all_goals (first | (simp only [WKB, seval, e, List.map_set, intK]; done) | (simp [WKB, seval, e, List.map_set, intK]; done) | simp only [WKB, seval])))

end Go.Proofs.YtfnhchcgieeedaaGreat

namespace Go.Proofs.YtfnhchcgieeedaaGreat
set_option linter.unusedSimpArgs false
set_option linter.unusedVariables false
set_option linter.defProp false
open Go.RowKit

end Go.Proofs.YtfnhchcgieeedaaGreat

namespace Go.Proofs.YtfnhchcgieeedaaGreat
set_option linter.unusedSimpArgs false
set_option linter.unusedVariables false
set_option linter.defProp false
open Go.RowKit

set_option maxHeartbeats 2000000 in
theorem copyRun_k (x : RunD) (h : (x.Vals).length ≤ 1048576 ∧ (x.EVals).length ≤ 1048576 ∧ (x.Next.Bits).length ≤ 1048576) : FnOK Tryz.prog 34 ⟨3, [(0, some (.ro ((x.Vals).map intK))), (1, some (.ro ((x.EVals).map intK))), (2, some (.ro ((x.Next.Bits).map bytK)))], [.agg [.v (.int .i64 x.Job.Prog), .v (.int .i64 x.Job.Src), .v (.int .i64 x.Iter), .v (.bool x.Done), .sl 0 1 0 (x.Vals).length, .sl 1 1 0 (x.EVals).length, .v (.int .i64 x.Next.N), .sl 2 1 0 (x.Next.Bits).length]], .agg [.v (.int .i64 x.Job.Prog), .v (.int .i64 x.Job.Src), .v (.int .i64 x.Iter), .v (.bool x.Done), .sl 3 1 0 (x.Vals).length, .sl 4 1 0 (x.EVals).length, .v (.int .i64 x.Next.N), .sl 5 1 0 (x.Next.Bits).length], [(3, some (.row 3 ((x.Vals).map intK))), (4, some (.row 3 ((x.EVals).map intK))), (5, some (.row 5 ((x.Next.Bits).map bytK)))], 6⟩ := by
  obtain ⟨h0, h1, h2⟩ := h
  refine fnOK_of true mixed Tryz.func34 rfl (by rfl) (by rfl) ?_
  have hres := congrArg Array.toList Tryz.results34
  simp only [Tryz.ntmps34, BGB, seval]
  (have gx := @List.length_map.{0,0}; have q1 := copyInts_k x.Vals h0; have q2 := copyInts_k x.EVals h1; have q3 := copySet_k x.Next h2; refine go ?_; (repeat' first | exact Ef.mk | apply Lf.mk | refine fun (K : KT) hK hE hT => ?_ | refine fun (KS : KE) hKS => ?_ | refine fun (D : KD) hD => ?_ | refine fun (hg : (_ : Prop)) => ?_ | fail); all_goals (first | (refine Wr.mk ?_; (try clear gx q1 q2 q3); repeat first | clear hK hE hT K | clear hR hE hT K) | assumption | skip))
  (refine post_a hres (.inl rfl) ?_; simp only [RSB, ENB, seval, tiAll, true_and]; simp only [MAB, seval]; refine ⟨rfl, rfl, ?_, ?_, ?_⟩ <;> (first | rfl | (simp [WKB, Nat.add_comm, true_and]; done) | (simp only [WKB, seval])))

theorem vxEnd_lens {g : GraphD} {y : RunD} {w : List UInt8} {v : Nat} (h : RunIn g y) (hw : setOk g.N w = true) (hv : (v : Int) < g.N) :
    (vxEnd g y w v).ev.length = y.EVals.length ∧ (vxEnd g y w v).nx.length = y.Next.Bits.length ∧ (vxEnd g y w v).nw.length = w.length := vxTo_lens h hw hv _

end Go.Proofs.YtfnhchcgieeedaaGreat

