/-
  The engine, texts K9 W1 W2 W3 W7 in one. No conditions of its own.
-/
import Derived.Test.YtcbnfkbnbdbfoaaGreatGO
import Derived.Test.YtcbnfkbnbdbfoaaGreatMKA
import Derived.Test.YtcbnfkbnbdbfoaaGreatDF
import Derived.Test.YtcbnfkbnbdbfoaaGreatU5
namespace Go.Proofs.YtcbnfkbnbdbfoaaGreat
set_option linter.unusedSimpArgs false
set_option linter.unusedVariables false
set_option linter.unusedSimpArgs false
set_option linter.unusedVariables false
set_option linter.defProp false
open Go.RowKit

def edgeAt (v : Int) (x : EdgeD) : Prop := x.From = v ∨ x.To = v
instance (v : Int) (x : EdgeD) : Decidable (edgeAt v x) := inferInstanceAs (Decidable (_ ∨ _))
def edgeView (v : Int) (x : EdgeD) (z : Int) : ViewD := ⟨x.To == v, x.From == v, x.W, z⟩
def vwV (l : List EdgeD) (ev : List Int) (v : Int) (i : Nat) : Option ViewD := (l[i]?).bind fun x => if edgeAt v x then some (edgeView v x (ev.getD i 0)) else none
def vwI (l : List EdgeD) (v : Int) (i : Nat) : Option Int := (l[i]?).bind fun x => if edgeAt v x then some (i : Int) else none
def viewsV (g : GraphD) (r : RunD) (v : Int) : List ViewD := fm (vwV g.Edges r.EVals v) g.Edges.length
def viewsI (g : GraphD) (v : Int) : List Int := fm (vwI g.Edges v) g.Edges.length

theorem viewsV_len (g : GraphD) (r : RunD) (v : Int) : (viewsV g r v).length ≤ g.Edges.length := fm_len _ _
theorem viewsI_len (g : GraphD) (v : Int) : (viewsI g v).length ≤ g.Edges.length := fm_len _ _


end Go.Proofs.YtcbnfkbnbdbfoaaGreat

namespace Go.Proofs.YtcbnfkbnbdbfoaaGreat
set_option linter.unusedSimpArgs false
set_option linter.unusedVariables false
set_option linter.defProp false
open Go.RowKit

section
variable {α β : Type}
theorem fm_mem {f : Nat → Option α} : ∀ {n : Nat} {a : α}, a ∈ fm f n → ∃ i, i < n ∧ f i = some a
  | 0, a, h => by simp [fm_zero] at h
  | n + 1, a, h => by
    cases e : f n with
    | none =>
      rw [fm_none e] at h
      obtain ⟨i, h1, h2⟩ := fm_mem h
      exact ⟨i, by omega, h2⟩
    | some x =>
      rw [fm_some e, List.mem_append] at h
      rcases h with h | h
      · obtain ⟨i, h1, h2⟩ := fm_mem h
        exact ⟨i, by omega, h2⟩
      · simp at h; subst h; exact ⟨n, by omega, e⟩
theorem fm_len_eq {f : Nat → Option α} {f' : Nat → Option β} (h : ∀ i, (f i).isSome = (f' i).isSome) : ∀ n, (fm f n).length = (fm f' n).length
  | 0 => rfl
  | n + 1 => by
    have ih := fm_len_eq h n
    have hn := h n
    cases e : f n with
    | none =>
      rw [e] at hn
      have e' : f' n = none := by cases h' : f' n <;> simp_all
      rw [fm_none e, fm_none e', ih]
    | some x =>
      rw [e] at hn
      obtain ⟨y, e'⟩ : ∃ y, f' n = some y := by cases h' : f' n <;> simp_all
      rw [fm_some e, fm_some e', List.length_append, List.length_append, ih]; rfl
end

theorem vw_some (l : List EdgeD) (ev : List Int) (v : Int) (i : Nat) : (vwV l ev v i).isSome = (vwI l v i).isSome := by
  unfold vwV vwI
  cases l[i]? with
  | none => rfl
  | some x =>
    simp only [Option.bind_some]
    split <;> rfl

theorem views_len (g : GraphD) (r : RunD) (v : Int) : (viewsV g r v).length = (viewsI g v).length := fm_len_eq (vw_some _ _ _) _

theorem viewsI_mem {g : GraphD} {v a : Int} (h : a ∈ viewsI g v) : ∃ i : Nat, a = i ∧ i < g.Edges.length := by
  obtain ⟨i, h1, h2⟩ := fm_mem h
  unfold vwI at h2
  rw [List.getElem?_eq_getElem h1] at h2
  simp only [Option.bind_some] at h2
  split at h2
  · cases h2; exact ⟨i, rfl, h1⟩
  · cases h2

/-- The parts of a valid run but for its end. -/
structure RunIn (g : GraphD) (r : RunD) : Prop where
  go : graphOk g = true
  jo : jobOk g.N r.Job = true
  vl : (r.Vals.length : Int) = g.N
  el : r.EVals.length = g.Edges.length
  vo : r.Vals.all valOk = true
  eo : r.EVals.all valOk = true
  so : setOk g.N r.Next.Bits = true
  sn : r.Next.N = g.N

theorem runOk_in {g : GraphD} {r : RunD} (h : runOk g r = true) : RunIn g r ∧ (0 ≤ r.Iter ∧ r.Iter ≤ 1000) ∧ r.Done = emptyL r.Next.Bits := by
  unfold runOk at h
  simp only [Bool.and_eq_true, decide_eq_true_eq, beq_iff_eq] at h
  obtain ⟨⟨⟨⟨⟨⟨⟨h1, h2⟩, h3⟩, h4⟩, h5⟩, h6⟩, h7⟩, h8⟩ := h
  exact ⟨⟨h1, h2, h3.2.2.1, h3.2.2.2, h4, h5, by rw [← h7]; exact h6, h7⟩, ⟨h3.1, h3.2.1⟩, h8⟩

theorem RunIn.ok {g : GraphD} {r : RunD} (h : RunIn g r) (hi : 0 ≤ r.Iter ∧ r.Iter ≤ 1000) (hd : r.Done = emptyL r.Next.Bits) : runOk g r = true := by
  unfold runOk
  rw [h.go, h.jo, h.vo, h.eo, h.sn, h.so, decide_eq_true ⟨hi.1, hi.2, h.vl, h.el⟩, hd]
  simp

theorem graphOk_out {g : GraphD} (h : graphOk g = true) : (0 ≤ g.N ∧ g.N ≤ 150 ∧ g.Edges.length ≤ 400) ∧ ∀ e ∈ g.Edges, 0 ≤ e.From ∧ e.From < g.N ∧ 0 ≤ e.To ∧ e.To < g.N ∧ 0 ≤ e.W ∧ e.W ≤ 1000 := by
  unfold graphOk at h
  simp only [Bool.and_eq_true, decide_eq_true_eq, List.all_eq_true, edgeOk] at h
  exact h

theorem valOk_out {z : Int} (h : valOk z = true) : 0 ≤ z ∧ z ≤ 1099511627776 := by unfold valOk at h; simpa using h
theorem valOk_in {z : Int} (h : 0 ≤ z ∧ z ≤ 1099511627776) : valOk z = true := by unfold valOk; simpa using h

theorem jobOk_out {n : Int} {j : JobD} (h : jobOk n j = true) : 1 ≤ j.Prog ∧ j.Prog ≤ 4 := by
  unfold jobOk at h
  simp only [decide_eq_true_eq] at h
  exact ⟨h.1, h.2.1⟩

def otherI (e : EdgeD) (v : Int) : Int := if e.From = v then e.To else e.From

/-- The edges' values, the next set and the present set, while a vertex is updated. -/
structure VxD where
  ev : List Int
  nx : List UInt8
  nw : List UInt8

def edge0 : EdgeD := ⟨0, 0, 0⟩
def vxStep (g : GraphD) (v : Int) (at_ vs : List Int) (s : VxD) (k : Nat) : VxD :=
  if vs.getD k 0 = s.ev.getD (at_.getD k 0).toNat 0 then s
  else if v < otherI (g.Edges.getD (at_.getD k 0).toNat edge0) v then ⟨s.ev.set (at_.getD k 0).toNat (vs.getD k 0), s.nx, addL g.N s.nw (otherI (g.Edges.getD (at_.getD k 0).toNat edge0) v)⟩
  else ⟨s.ev.set (at_.getD k 0).toNat (vs.getD k 0), addL g.N s.nx (otherI (g.Edges.getD (at_.getD k 0).toNat edge0) v), s.nw⟩
def vxTo (g : GraphD) (v : Int) (at_ vs : List Int) (s : VxD) : Nat → VxD
  | 0 => s
  | k + 1 => vxStep g v at_ vs (vxTo g v at_ vs s k) k

section
variable {g : GraphD} {v : Int} {at_ vs : List Int} {s : VxD}
theorem vxStep_same {k i : Nat} (h1 : at_.getD k 0 = i) (h : vs.getD k 0 = s.ev.getD i 0) : vxStep g v at_ vs s k = s := by
  unfold vxStep; rw [h1, Int.toNat_natCast, if_pos h]
theorem vxStep_now {k i : Nat} (h1 : at_.getD k 0 = i) (h : ¬ vs.getD k 0 = s.ev.getD i 0) (h2 : v < otherI (g.Edges.getD i edge0) v) : vxStep g v at_ vs s k = ⟨s.ev.set i (vs.getD k 0), s.nx, addL g.N s.nw (otherI (g.Edges.getD i edge0) v)⟩ := by
  unfold vxStep; rw [h1, Int.toNat_natCast, if_neg h, if_pos h2]
theorem vxStep_next {k i : Nat} (h1 : at_.getD k 0 = i) (h : ¬ vs.getD k 0 = s.ev.getD i 0) (h2 : ¬ v < otherI (g.Edges.getD i edge0) v) : vxStep g v at_ vs s k = ⟨s.ev.set i (vs.getD k 0), addL g.N s.nx (otherI (g.Edges.getD i edge0) v), s.nw⟩ := by
  unfold vxStep; rw [h1, Int.toNat_natCast, if_neg h, if_neg h2]
theorem vxStep_or (k : Nat) : vxStep g v at_ vs s k = s ∨ ∃ u, vxStep g v at_ vs s k = ⟨s.ev.set (at_.getD k 0).toNat (vs.getD k 0), s.nx, addL g.N s.nw u⟩ ∨ vxStep g v at_ vs s k = ⟨s.ev.set (at_.getD k 0).toNat (vs.getD k 0), addL g.N s.nx u, s.nw⟩ := by
  unfold vxStep
  split
  · exact .inl rfl
  · split
    · exact .inr ⟨_, .inl rfl⟩
    · exact .inr ⟨_, .inr rfl⟩
end

theorem addL_ok {n : Int} {l : List UInt8} (u : Int) (h : setOk n l = true) : setOk n (addL n l u) = true := by
  obtain ⟨m, rfl⟩ := Int.eq_ofNat_of_zero_le (setOk_len h).1
  unfold addL
  split
  · rename_i hu
    obtain ⟨k, rfl⟩ := Int.eq_ofNat_of_zero_le hu.1
    rw [Int.toNat_natCast]
    exact setBit_ok h (by omega)
  · exact h

/-- What holds of the three lists all the way. -/
structure VxOk (g : GraphD) (s : VxD) : Prop where
  el : s.ev.length = g.Edges.length
  eo : s.ev.all valOk = true
  xo : setOk g.N s.nx = true
  wo : setOk g.N s.nw = true

theorem all_set {l : List Int} {i : Nat} {x : Int} (h : l.all valOk = true) (hx : valOk x = true) : (l.set i x).all valOk = true := by
  rw [List.all_eq_true] at h ⊢
  intro y hy
  rcases List.mem_or_eq_of_mem_set hy with h1 | rfl
  · exact h y h1
  · exact hx

theorem vxTo_ok {g : GraphD} {v : Int} {at_ vs : List Int} {s : VxD} (h : VxOk g s) (hv : ∀ k, valOk (vs.getD k 0) = true) : ∀ k, VxOk g (vxTo g v at_ vs s k)
  | 0 => h
  | k + 1 => by
    have ih := vxTo_ok (v := v) (at_ := at_) h hv k
    show VxOk g (vxStep g v at_ vs (vxTo g v at_ vs s k) k)
    rcases vxStep_or (g := g) (v := v) (at_ := at_) (vs := vs) (s := vxTo g v at_ vs s k) k with e | ⟨u, e | e⟩
    · rw [e]; exact ih
    · rw [e]; exact ⟨by simpa using ih.el, all_set ih.eo (hv k), ih.xo, addL_ok u ih.wo⟩
    · rw [e]; exact ⟨by simpa using ih.el, all_set ih.eo (hv k), addL_ok u ih.xo, ih.wo⟩

def vxVal (g : GraphD) (r : RunD) (v : Nat) : Int := updVal r.Job.Prog (r.Vals.getD v 0) (viewsV g r v)
def vxVals (g : GraphD) (r : RunD) (v : Nat) : List Int := updE r.Job.Prog (r.Vals.getD v 0) (viewsV g r v)
def vxEnd (g : GraphD) (r : RunD) (nw : List UInt8) (v : Nat) : VxD := vxTo g v (viewsI g v) (vxVals g r v) ⟨r.EVals, r.Next.Bits, nw⟩ (viewsI g v).length
/-- The run behind the update of a vertex; the present set. -/
def runV (g : GraphD) (r : RunD) (nw : List UInt8) (v : Nat) : RunD := ⟨r.Job, r.Iter, r.Done, r.Vals.set v (vxVal g r v), (vxEnd g r nw v).ev, ⟨r.Next.N, (vxEnd g r nw v).nx⟩⟩
def nowV (g : GraphD) (r : RunD) (nw : List UInt8) (v : Nat) : List UInt8 := (vxEnd g r nw v).nw

theorem edgeV_rng {p n o : Int} {x : ViewD} (hp : 1 ≤ p ∧ p ≤ 4) (hn : 0 ≤ n ∧ n ≤ 1099511627776) (hx : viewOk x = true) (ho : x.Out = true → 0 < o) : 0 ≤ edgeV p n o x ∧ edgeV p n o x ≤ 1099511627776 := by
  have hv := viewOk_out hx
  rcases (by omega : p = 1 ∨ p = 2 ∨ p = 3 ∨ p = 4) with rfl | rfl | rfl | rfl
  · rcases Bool.eq_false_or_eq_true x.Out with h | h
    · rw [edge1_out h]
      have := ho h
      exact ⟨Int.ediv_nonneg hn.1 (by omega), Int.le_trans (Int.ediv_le_self _ hn.1) hn.2⟩
    · rw [edge1_in h]; exact ⟨hv.1, hv.2.1⟩
  · rw [edge2]; omega
  · rcases Bool.eq_false_or_eq_true x.Out with h | h
    · rw [edge3_out h]; exact hn
    · rw [edge3_in h]; exact ⟨hv.1, hv.2.1⟩
  · rw [edge4]; exact labE_rng hn hx

theorem outsN_pos {l : List ViewD} {x : ViewD} (hx : x ∈ l) (ho : x.Out = true) : 0 < outsN l := by
  obtain ⟨k, hk, rfl⟩ := List.getElem_of_mem hx
  exact outs_pos hk ho

section
variable {g : GraphD} {r : RunD} {nw : List UInt8} {v : Nat}
theorem RunIn.val (h : RunIn g r) (hv : (v : Int) < g.N) : 0 ≤ r.Vals.getD v 0 ∧ r.Vals.getD v 0 ≤ 1099511627776 := by
  have hl : v < r.Vals.length := by have := h.vl; omega
  simp only [List.getD, List.getElem?_eq_getElem hl]
  exact valOk_out (List.all_eq_true.1 h.vo _ (List.getElem_mem hl))
theorem vxVals_len : (vxVals g r v).length = (viewsI g v).length := by unfold vxVals updE; rw [List.length_map, views_len]
end

end Go.Proofs.YtcbnfkbnbdbfoaaGreat

namespace Go.Proofs.YtcbnfkbnbdbfoaaGreat
set_option linter.unusedSimpArgs false
set_option linter.unusedVariables false
set_option linter.defProp false
open Go.RowKit

theorem otherEnd_k (e : EdgeD) (v : Int) : FnOK Tryz.prog 131 ⟨0, [], [.c (.v (.int .i64 e.From)), .c (.v (.int .i64 e.To)), .c (.v (.int .i64 v))], .c (.v (.int .i64 (otherI e v))), [], 0⟩ := by
  unfold otherI
  by_cases h : e.From = v
  · rw [if_pos h]
    refine fnOK_of true mixed Tryz.func131 rfl (by rfl) (by rfl) ?_
    have hres := congrArg Array.toList Tryz.results131
    simp only [Tryz.ntmps131, BGB, seval]
    (have gx := true_and True; refine go ?_; (repeat' (first | exact Ef.mk | refine Lf.mk ?_ ?_ | refine fun (K : KT) hK hE hT => ?_ | refine fun (KS : Eff → Prop) hKS => ?_ | refine fun (D : List Keys → Prop) hD => ?_ | refine fun (hg : (_ : Prop)) => ?_ | fail)); all_goals (first | (refine Wr.mk ?_; (try clear gx); repeat (first | (clear hK hE hT; clear K) | (clear hR hE hT; clear K))) | assumption | skip))
    all_goals (refine post_a hres (.inl rfl) ?_; simp only [RSB, ENB, seval, tiAll, true_and]; simp only [MAB, seval]; refine ⟨rfl, rfl, ?_, ?_, ?_⟩ <;> (first | rfl | (simp [WKB, Nat.add_comm, true_and]; done) | (simp only [WKB, seval])))
  · rw [if_neg h]
    refine fnOK_of true mixed Tryz.func131 rfl (by rfl) (by rfl) ?_
    have hres := congrArg Array.toList Tryz.results131
    simp only [Tryz.ntmps131, BGB, seval]
    (have gx := true_and True; refine go ?_; (repeat' (first | exact Ef.mk | refine Lf.mk ?_ ?_ | refine fun (K : KT) hK hE hT => ?_ | refine fun (KS : Eff → Prop) hKS => ?_ | refine fun (D : List Keys → Prop) hD => ?_ | refine fun (hg : (_ : Prop)) => ?_ | fail)); all_goals (first | (refine Wr.mk ?_; (try clear gx); repeat (first | (clear hK hE hT; clear K) | (clear hR hE hT; clear K))) | assumption | skip))
    all_goals (refine post_a hres (.inl rfl) ?_; simp only [RSB, ENB, seval, tiAll, true_and]; simp only [MAB, seval]; refine ⟨rfl, rfl, ?_, ?_, ?_⟩ <;> (first | rfl | (simp [WKB, Nat.add_comm, true_and]; done) | (simp only [WKB, seval])))

def wakeW (n : Int) (nw : List UInt8) (v u : Int) : List UInt8 := if v < u then addL n nw u else nw
def wakeX (n : Int) (nx : List UInt8) (v u : Int) : List UInt8 := if v < u then nx else addL n nx u

theorem setOk_same {n : Int} {l m : List UInt8} (h : setOk n l = true) (h' : setOk n m = true) : l.length = m.length := by rw [(setOk_len h).2.2.1, (setOk_len h').2.2.1]

end Go.Proofs.YtcbnfkbnbdbfoaaGreat

namespace Go.Proofs.YtcbnfkbnbdbfoaaGreat
set_option linter.unusedSimpArgs false
set_option linter.unusedVariables false
set_option linter.defProp false
open Go.RowKit

theorem l11Other_k (e : EdgeD) (v : Int) : FnOK Tryz.prog 121 ⟨0, [], [.agg [.v (.int .i64 e.From), .v (.int .i64 e.To), .v (.int .i64 e.W)], .c (.v (.int .i64 v))], .c (.v (.int .i64 (otherI e v))), [], 0⟩ := by
  unfold otherI
  by_cases h : e.From = v
  · rw [if_pos h]
    refine fnOK_of true mixed Tryz.func121 rfl (by rfl) (by rfl) ?_
    have hres := congrArg Array.toList Tryz.results121
    simp only [Tryz.ntmps121, BGB, seval]
    (have gx := true_and True; refine go ?_; (repeat' (first | exact Ef.mk | refine Lf.mk ?_ ?_ | refine fun (K : KT) hK hE hT => ?_ | refine fun (KS : Eff → Prop) hKS => ?_ | refine fun (D : List Keys → Prop) hD => ?_ | refine fun (hg : (_ : Prop)) => ?_ | fail)); all_goals (first | (refine Wr.mk ?_; (try clear gx); repeat (first | (clear hK hE hT; clear K) | (clear hR hE hT; clear K))) | assumption | skip))
    all_goals (refine post_a hres (.inl rfl) ?_; simp only [RSB, ENB, seval, tiAll, true_and]; simp only [MAB, seval]; refine ⟨rfl, rfl, ?_, ?_, ?_⟩ <;> (first | rfl | (simp [WKB, Nat.add_comm, true_and]; done) | (simp only [WKB, seval])))
  · rw [if_neg h]
    refine fnOK_of true mixed Tryz.func121 rfl (by rfl) (by rfl) ?_
    have hres := congrArg Array.toList Tryz.results121
    simp only [Tryz.ntmps121, BGB, seval]
    (have gx := true_and True; refine go ?_; (repeat' (first | exact Ef.mk | refine Lf.mk ?_ ?_ | refine fun (K : KT) hK hE hT => ?_ | refine fun (KS : Eff → Prop) hKS => ?_ | refine fun (D : List Keys → Prop) hD => ?_ | refine fun (hg : (_ : Prop)) => ?_ | fail)); all_goals (first | (refine Wr.mk ?_; (try clear gx); repeat (first | (clear hK hE hT; clear K) | (clear hR hE hT; clear K))) | assumption | skip))
    all_goals (refine post_a hres (.inl rfl) ?_; simp only [RSB, ENB, seval, tiAll, true_and]; simp only [MAB, seval]; refine ⟨rfl, rfl, ?_, ?_, ?_⟩ <;> (first | rfl | (simp [WKB, Nat.add_comm, true_and]; done) | (simp only [WKB, seval])))

end Go.Proofs.YtcbnfkbnbdbfoaaGreat

namespace Go.Proofs.YtcbnfkbnbdbfoaaGreat
set_option linter.unusedSimpArgs false
set_option linter.unusedVariables false
set_option linter.defProp false
open Go.RowKit

end Go.Proofs.YtcbnfkbnbdbfoaaGreat

