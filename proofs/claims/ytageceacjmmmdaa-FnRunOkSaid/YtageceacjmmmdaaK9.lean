/-
  Contracts: the views of a run's edges at a vertex. No conditions of its own.
-/
import Derived.Test.YtageceacjmmmdaaK4
import Derived.Test.YtageceacjmmmdaaG3d
namespace Go.Proofs.Ytageceacjmmmdaa
set_option linter.unusedSimpArgs false
set_option linter.unusedVariables false
set_option linter.unusedSimpArgs false
set_option linter.unusedVariables false
set_option linter.defProp false
open Go.RowKit

def edgeAt (v : Int) (x : EdgeD) : Prop := x.From = v ∨ x.To = v
instance (v : Int) (x : EdgeD) : Decidable (edgeAt v x) := inferInstanceAs (Decidable (_ ∨ _))
def edgeView (v : Int) (x : EdgeD) (z : Int) : ViewD := ⟨x.To == v, x.From == v, x.W, z⟩
def vwV (l : List EdgeD) (ev : List Int) (v : Int) (i : Nat) : Option ViewD := (l[i]?).bind fun x => if edgeAt v x then some (edgeView v x (ev.getD i 0)) else none
def vwI (l : List EdgeD) (v : Int) (i : Nat) : Option Int := (l[i]?).bind fun x => if edgeAt v x then some (i : Int) else none
def viewsV (g : GraphD) (r : RunD) (v : Int) : List ViewD := fm (vwV g.Edges r.EVals v) g.Edges.length
def viewsI (g : GraphD) (v : Int) : List Int := fm (vwI g.Edges v) g.Edges.length

theorem vw_hit {l : List EdgeD} {ev : List Int} {v : Int} {k : Nat} (h : k < l.length) (he : k < ev.length) (hv : l[k].From = v ∨ l[k].To = v) :
    vwV l ev v k = some (edgeView v l[k] ev[k]) ∧ vwI l v k = some (k : Int) := by
  have : edgeAt v l[k] := hv
  simp [vwV, vwI, h, this, List.getD, he]
theorem vw_miss {l : List EdgeD} {ev : List Int} {v : Int} {k : Nat} (h : k < l.length) (h1 : ¬ l[k].From = v) (h2 : ¬ l[k].To = v) :
    vwV l ev v k = none ∧ vwI l v k = none := by
  have : ¬ edgeAt v l[k] := fun h => h.elim h1 h2
  simp [vwV, vwI, h, this]

theorem viewsV_len (g : GraphD) (r : RunD) (v : Int) : (viewsV g r v).length ≤ g.Edges.length := fm_len _ _
theorem viewsI_len (g : GraphD) (v : Int) : (viewsI g v).length ≤ g.Edges.length := fm_len _ _


set_option maxHeartbeats 4000000 in
theorem implviews_k (g : GraphD) (r : RunD) (v : Int) (hg : (g.Edges).length ≤ 1048576) (hr : (r.Vals).length ≤ 1048576 ∧ (r.EVals).length ≤ 1048576 ∧ (r.Next.Bits).length ≤ 1048576) (he : r.EVals.length = g.Edges.length) : FnOK Try.prog 182 ⟨4, [(0, some (.ro ((g.Edges).map EdgeD.k))), (1, some (.ro ((r.Vals).map intK))), (2, some (.ro ((r.EVals).map intK))), (3, some (.ro ((r.Next.Bits).map bytK)))], [.agg [.v (.int .i64 g.N), .sl 0 3 0 (g.Edges).length], .agg [.v (.int .i64 r.Job.Prog), .v (.int .i64 r.Job.Src), .v (.int .i64 r.Iter), .v (.bool r.Done), .sl 1 1 0 (r.Vals).length, .sl 2 1 0 (r.EVals).length, .v (.int .i64 r.Next.N), .sl 3 1 0 (r.Next.Bits).length], .c (.v (.int .i64 v))], .tup [.inl (.sl 4 4 0 (viewsV g r v).length), .inl (.sl 5 1 0 (viewsI g v).length)],
    [(4, some (.row 32 ((viewsV g r v).map ViewD.k))), (5, some (.row 3 ((viewsI g v).map intK)))], 6⟩ := by
  obtain ⟨n, l⟩ := g
  obtain ⟨⟨jp, js⟩, it, d, va, ev, ⟨sn, sb⟩⟩ := r
  obtain ⟨h0, h1, h2⟩ := hr
  unfold viewsV viewsI
  dsimp only at hg he h0 h1 h2 ⊢
  refine fnOK_of true mixed Try.func182 rfl (by rfl) (by rfl) ?_
  have hres := congrArg Array.toList Try.results182
  simp only [Try.ntmps182, BGB, seval]
  repeat' (first | (with_reducible first | refine seq_k fun K hK hE hT => ?_ | refine block_k fun K hK hE hT => ?_ | refine region_k ?_ | refine lex_nil ?_ | fail) | ((with_reducible refine draw_k ?_ ?_); focus (first | rfl | kernel_rfl)) | ((with_reducible first | refine lex_move ?_ | refine lex_assign ?_); simp only [EVB, seval]) | (with_reducible first | refine lex_cons fun KS hKS => ?_ | refine lexd_cons fun KS hKS => ?_ | refine skip_k ?_ | refine exit_k ?_ | refine ret_k ?_ | fail) | ((with_reducible refine call_go ?_); fail) | ((with_reducible refine step_go ?_); (fail_if_success with_reducible refine call_go ?_); simp only [ENB, seval, tiAll, true_and]) | ((with_reducible refine lexd_nil ?_ ?_); focus (first | kernel_rfl | with_unfolding_all rfl)) | ((with_reducible refine guard_go ?_); refine lex_gone rfl rfl ?_; simp only [EVB, seval]) | ((first | ((with_reducible refine guard_go ?_); refine lex_guard rfl rfl (fun hg KS hKS => ?_) (fun hg => ?_)) | ((with_reducible refine guardd_go ?_); refine lexd_guard rfl rfl (fun hg KS hKS => ?_) (fun hg => ?_)) | ((with_reducible refine cond_go ?_); refine cond_k rfl (fun hg => ?_) (fun hg => ?_)) | (with_reducible refine And.intro (fun hg => ?_) (fun hg => ?_)) | fail) <;> first | (exact absurd hg (by decide)) | ((try simp only [CNL] at hg) <;> first | (exfalso; omega) | (exact (tf (by assumption) hg).elim) | (exact (tf hg (by assumption)).elim) | ((try with_reducible (have hT0 : True := hg; clear hT0 hg)); first | (with_reducible refine wpc_go ?_) | (try simp only [EVB, seval])))) | ((with_reducible refine hKS _ _ _ _ ?_); clear hKS; clear KS; simp only [EVB, seval]) | ((with_reducible refine And.intro ?_ ?_); focus (first | omega | exact u8_le _ | exact flat_intK _ | exact flat_bytK _ | (fail) | decide | (simp only [true_and]; done))) | ((with_reducible refine ex_p ?_ (fun hh => ?_)); focus (first | omega | (simp only [true_and]; omega))) | ((with_reducible refine hK _ _ _ ?_); clear hK hE hT; clear K) | ((with_reducible first | refine hE _ _ _ _ ?_ | refine hT _ _ _ ?_ | fail); (first | (clear hK hE hT; clear K) | (clear hR hE hT; clear K) | skip); try simp only [IFB, seval]) | ((with_reducible apply_assumption -symm -exfalso); try simp only [IFB, seval]) | fail)
  refine loop_v (X := {k : Nat // k ≤ l.length}) [] (fun x => [(8, .c (.sl 6 4 0 (fm (vwV l ev v) x.1).length)), (9, .c (.sl 7 1 0 (fm (vwI l v) x.1).length)), (15, .c (.v (.int .i64 ((x.1 : Nat) : Int))))]) (fun x => [(0, some (.ro (((⟨n, l⟩ : GraphD).Edges).map EdgeD.k))), (1, some (.ro (((⟨⟨jp, js⟩, it, d, va, ev, ⟨sn, sb⟩⟩ : RunD).Vals).map intK))), (2, some (.ro (((⟨⟨jp, js⟩, it, d, va, ev, ⟨sn, sb⟩⟩ : RunD).EVals).map intK))), (3, some (.ro (((⟨⟨jp, js⟩, it, d, va, ev, ⟨sn, sb⟩⟩ : RunD).Next.Bits).map bytK))), (4, some (.box 64 [.v (.int .i64 n), .sl 0 3 0 l.length])), (5, some (.box 66 [.v (.int .i64 jp), .v (.int .i64 js), .v (.int .i64 it), .v (.bool d), .sl 1 1 0 va.length, .sl 2 1 0 ev.length, .v (.int .i64 sn), .sl 3 1 0 sb.length])), (6, some (.row 32 ((fm (vwV l ev v) x.1).map ViewD.k))), (7, some (.row 3 ((fm (vwI l v) x.1).map intK)))]) 8 (fun x => l.length - x.1) ⟨0, by omega⟩ ?_
  simp only [KPB, seval]
  refine ⟨?_, ?_⟩
  · (refine wk_a ?_; simp only [MAB, seval]; refine ⟨rfl, rfl, (by decide), ?_, ?_⟩; all_goals (first | (simp only [WKB, seval, fm_zero, Nat.reduceLT, Nat.zero_lt_succ]; done) | (simp [WKB, seval, fm_zero]; done) | simp only [WKB, seval]))
  · rintro ⟨k, hk⟩ K hR hE hT
    have l1 := fm_len (vwV l ev v) k
    have l2 := fm_len (vwI l v) k
    repeat' (first | (with_reducible first | refine seq_k fun K hK hE hT => ?_ | refine block_k fun K hK hE hT => ?_ | refine region_k ?_ | refine lex_nil ?_ | fail) | ((with_reducible refine draw_k ?_ ?_); focus (first | rfl | kernel_rfl)) | ((with_reducible first | refine lex_move ?_ | refine lex_assign ?_); simp only [EVB, seval]) | (with_reducible first | refine lex_cons fun KS hKS => ?_ | refine lexd_cons fun KS hKS => ?_ | refine skip_k ?_ | refine exit_k ?_ | refine ret_k ?_ | fail) | ((with_reducible refine call_go ?_); fail) | ((with_reducible refine step_go ?_); (fail_if_success with_reducible refine call_go ?_); simp only [ENB, seval, tiAll, List.length_map, List.getElem_map, EdgeD.k, intK]) | ((with_reducible refine lexd_nil ?_ ?_); focus (first | kernel_rfl | with_unfolding_all rfl)) | ((with_reducible refine guard_go ?_); refine lex_gone rfl rfl ?_; simp only [EVB, seval]) | ((first | ((with_reducible refine guard_go ?_); refine lex_guard rfl rfl (fun hg KS hKS => ?_) (fun hg => ?_)) | ((with_reducible refine guardd_go ?_); refine lexd_guard rfl rfl (fun hg KS hKS => ?_) (fun hg => ?_)) | ((with_reducible refine cond_go ?_); refine cond_k rfl (fun hg => ?_) (fun hg => ?_)) | (with_reducible refine And.intro (fun hg => ?_) (fun hg => ?_)) | fail) <;> first | (exact absurd hg (by decide)) | ((try simp only [CNL] at hg) <;> first | (exfalso; omega) | (exact (tf (by assumption) hg).elim) | (exact (tf hg (by assumption)).elim) | ((try with_reducible (have hT0 : True := hg; clear hT0 hg)); first | (with_reducible refine wpc_go ?_) | (try simp only [EVB, seval])))) | ((with_reducible refine hKS _ _ _ _ ?_); clear hKS; clear KS; simp only [EVB, seval]) | ((with_reducible refine And.intro ?_ ?_); focus (first | omega | exact u8_le _ | exact flat_intK _ | exact flat_bytK _ | (fail) | decide | (simp only [List.length_map, List.getElem_map, EdgeD.k, intK]; done))) | ((with_reducible refine ex_p ?_ (fun hh => ?_)); focus (first | omega | (simp only [List.length_map, List.getElem_map, EdgeD.k, intK]; omega))) | ((with_reducible refine hK _ _ _ ?_); clear hK hE hT; clear K) | ((with_reducible first | refine hE _ _ _ _ ?_ | refine hT _ _ _ ?_ | fail); (first | (clear hK hE hT; clear K) | (clear hR hE hT; clear K) | skip); try simp only [IFB, seval]) | ((with_reducible apply_assumption -symm -exfalso); try simp only [IFB, seval]) | fail)
    · obtain ⟨e1, e2⟩ := vw_hit (l := l) (ev := ev) (v := v) (k := k) (by omega) (by omega) (.inr (by assumption))
      (refine hR.out ⟨k + 1, by omega⟩ _ _ _ (by simp only; omega) ?_; (refine wk_a ?_; simp only [MAB, seval]; refine ⟨rfl, rfl, (by decide), ?_, ?_⟩; all_goals (first | (simp only [WKB, seval, fm_some e1, fm_some e2, ViewD.k, intK, edgeView, Nat.reduceLT, Nat.zero_lt_succ]; done) | (simp [WKB, seval, fm_some e1, fm_some e2, ViewD.k, intK, edgeView]; done) | simp only [WKB, seval])))
    · obtain ⟨e1, e2⟩ := vw_miss (l := l) (ev := ev) (v := v) (k := k) (by omega) (by assumption) (by assumption)
      (refine hR.out ⟨k + 1, by omega⟩ _ _ _ (by simp only; omega) ?_; (refine wk_a ?_; simp only [MAB, seval]; refine ⟨rfl, rfl, (by decide), ?_, ?_⟩; all_goals (first | (simp only [WKB, seval, fm_none e1, fm_none e2, Nat.reduceLT, Nat.zero_lt_succ]; done) | (simp [WKB, seval, fm_none e1, fm_none e2]; done) | simp only [WKB, seval])))
    · obtain ⟨e1, e2⟩ := vw_hit (l := l) (ev := ev) (v := v) (k := k) (by omega) (by omega) (.inl (by assumption))
      (refine hR.out ⟨k + 1, by omega⟩ _ _ _ (by simp only; omega) ?_; (refine wk_a ?_; simp only [MAB, seval]; refine ⟨rfl, rfl, (by decide), ?_, ?_⟩; all_goals (first | (simp only [WKB, seval, fm_some e1, fm_some e2, ViewD.k, intK, edgeView, Nat.reduceLT, Nat.zero_lt_succ]; done) | (simp [WKB, seval, fm_some e1, fm_some e2, ViewD.k, intK, edgeView]; done) | simp only [WKB, seval])))
    · obtain rfl : k = l.length := by omega
      (refine post_a hres (.inl rfl) ?_; simp only [RSB, ENB, seval, tiAll, true_and]; simp only [MAB, seval]; refine ⟨rfl, rfl, ?_, ?_, ?_⟩ <;> (first | rfl | (simp [WKB, Nat.add_comm, true_and]; done) | (simp only [WKB, seval])))

set_option maxHeartbeats 4000000 in
theorem specl11Views_k (g : GraphD) (r : RunD) (v : Int) (hg : (g.Edges).length ≤ 1048576) (hr : (r.Vals).length ≤ 1048576 ∧ (r.EVals).length ≤ 1048576 ∧ (r.Next.Bits).length ≤ 1048576) (he : r.EVals.length = g.Edges.length) : FnOK Try.prog 211 ⟨4, [(0, some (.ro ((g.Edges).map EdgeD.k))), (1, some (.ro ((r.Vals).map intK))), (2, some (.ro ((r.EVals).map intK))), (3, some (.ro ((r.Next.Bits).map bytK)))], [.agg [.v (.int .i64 g.N), .sl 0 3 0 (g.Edges).length], .agg [.v (.int .i64 r.Job.Prog), .v (.int .i64 r.Job.Src), .v (.int .i64 r.Iter), .v (.bool r.Done), .sl 1 1 0 (r.Vals).length, .sl 2 1 0 (r.EVals).length, .v (.int .i64 r.Next.N), .sl 3 1 0 (r.Next.Bits).length], .c (.v (.int .i64 v))], .tup [.inl (.sl 4 4 0 (viewsV g r v).length), .inl (.sl 5 1 0 (viewsI g v).length)],
    [(4, some (.row 32 ((viewsV g r v).map ViewD.k))), (5, some (.row 3 ((viewsI g v).map intK)))], 6⟩ := by
  obtain ⟨n, l⟩ := g
  obtain ⟨⟨jp, js⟩, it, d, va, ev, ⟨sn, sb⟩⟩ := r
  obtain ⟨h0, h1, h2⟩ := hr
  unfold viewsV viewsI
  dsimp only at hg he h0 h1 h2 ⊢
  refine fnOK_of true mixed Try.func211 rfl (by rfl) (by rfl) ?_
  have hres := congrArg Array.toList Try.results211
  simp only [Try.ntmps211, BGB, seval]
  repeat' (first | (with_reducible first | refine seq_k fun K hK hE hT => ?_ | refine block_k fun K hK hE hT => ?_ | refine region_k ?_ | refine lex_nil ?_ | fail) | ((with_reducible refine draw_k ?_ ?_); focus (first | rfl | kernel_rfl)) | ((with_reducible first | refine lex_move ?_ | refine lex_assign ?_); simp only [EVB, seval]) | (with_reducible first | refine lex_cons fun KS hKS => ?_ | refine lexd_cons fun KS hKS => ?_ | refine skip_k ?_ | refine exit_k ?_ | refine ret_k ?_ | fail) | ((with_reducible refine call_go ?_); fail) | ((with_reducible refine step_go ?_); (fail_if_success with_reducible refine call_go ?_); simp only [ENB, seval, tiAll, true_and]) | ((with_reducible refine lexd_nil ?_ ?_); focus (first | kernel_rfl | with_unfolding_all rfl)) | ((with_reducible refine guard_go ?_); refine lex_gone rfl rfl ?_; simp only [EVB, seval]) | ((first | ((with_reducible refine guard_go ?_); refine lex_guard rfl rfl (fun hg KS hKS => ?_) (fun hg => ?_)) | ((with_reducible refine guardd_go ?_); refine lexd_guard rfl rfl (fun hg KS hKS => ?_) (fun hg => ?_)) | ((with_reducible refine cond_go ?_); refine cond_k rfl (fun hg => ?_) (fun hg => ?_)) | (with_reducible refine And.intro (fun hg => ?_) (fun hg => ?_)) | fail) <;> first | (exact absurd hg (by decide)) | ((try simp only [CNL] at hg) <;> first | (exfalso; omega) | (exact (tf (by assumption) hg).elim) | (exact (tf hg (by assumption)).elim) | ((try with_reducible (have hT0 : True := hg; clear hT0 hg)); first | (with_reducible refine wpc_go ?_) | (try simp only [EVB, seval])))) | ((with_reducible refine hKS _ _ _ _ ?_); clear hKS; clear KS; simp only [EVB, seval]) | ((with_reducible refine And.intro ?_ ?_); focus (first | omega | exact u8_le _ | exact flat_intK _ | exact flat_bytK _ | (fail) | decide | (simp only [true_and]; done))) | ((with_reducible refine ex_p ?_ (fun hh => ?_)); focus (first | omega | (simp only [true_and]; omega))) | ((with_reducible refine hK _ _ _ ?_); clear hK hE hT; clear K) | ((with_reducible first | refine hE _ _ _ _ ?_ | refine hT _ _ _ ?_ | fail); (first | (clear hK hE hT; clear K) | (clear hR hE hT; clear K) | skip); try simp only [IFB, seval]) | ((with_reducible apply_assumption -symm -exfalso); try simp only [IFB, seval]) | fail)
  refine loop_v (X := {k : Nat // k ≤ l.length}) [12, 13] (fun x => [(8, .c (.sl 6 4 0 (fm (vwV l ev v) x.1).length)), (9, .c (.sl 7 1 0 (fm (vwI l v) x.1).length)), (17, .c (.v (.int .i64 ((x.1 : Nat) : Int))))]) (fun x => [(0, some (.ro (((⟨n, l⟩ : GraphD).Edges).map EdgeD.k))), (1, some (.ro (((⟨⟨jp, js⟩, it, d, va, ev, ⟨sn, sb⟩⟩ : RunD).Vals).map intK))), (2, some (.ro (((⟨⟨jp, js⟩, it, d, va, ev, ⟨sn, sb⟩⟩ : RunD).EVals).map intK))), (3, some (.ro (((⟨⟨jp, js⟩, it, d, va, ev, ⟨sn, sb⟩⟩ : RunD).Next.Bits).map bytK))), (4, some (.box 64 [.v (.int .i64 n), .sl 0 3 0 l.length])), (5, some (.box 66 [.v (.int .i64 jp), .v (.int .i64 js), .v (.int .i64 it), .v (.bool d), .sl 1 1 0 va.length, .sl 2 1 0 ev.length, .v (.int .i64 sn), .sl 3 1 0 sb.length])), (6, some (.row 32 ((fm (vwV l ev v) x.1).map ViewD.k))), (7, some (.row 3 ((fm (vwI l v) x.1).map intK)))]) 8 (fun x => l.length - x.1) ⟨0, by omega⟩ ?_
  simp only [KPB, seval]
  refine ⟨?_, ?_⟩
  · (refine wk_a ?_; simp only [MAB, seval]; refine ⟨rfl, rfl, (by decide), ?_, ?_⟩; all_goals (first | (simp only [WKB, seval, fm_zero, Nat.reduceLT, Nat.zero_lt_succ]; done) | (simp [WKB, seval, fm_zero]; done) | simp only [WKB, seval]))
  · rintro ⟨k, hk⟩ K hR hE hT
    have l1 := fm_len (vwV l ev v) k
    have l2 := fm_len (vwI l v) k
    repeat' (first | (with_reducible first | refine seq_k fun K hK hE hT => ?_ | refine block_k fun K hK hE hT => ?_ | refine region_k ?_ | refine lex_nil ?_ | fail) | ((with_reducible refine draw_k ?_ ?_); focus (first | rfl | kernel_rfl)) | ((with_reducible first | refine lex_move ?_ | refine lex_assign ?_); simp only [EVB, seval]) | (with_reducible first | refine lex_cons fun KS hKS => ?_ | refine lexd_cons fun KS hKS => ?_ | refine skip_k ?_ | refine exit_k ?_ | refine ret_k ?_ | fail) | ((with_reducible refine call_go ?_); fail) | ((with_reducible refine step_go ?_); (fail_if_success with_reducible refine call_go ?_); simp only [ENB, seval, tiAll, List.length_map, List.getElem_map, EdgeD.k, intK]) | ((with_reducible refine lexd_nil ?_ ?_); focus (first | kernel_rfl | with_unfolding_all rfl)) | ((with_reducible refine guard_go ?_); refine lex_gone rfl rfl ?_; simp only [EVB, seval]) | ((first | ((with_reducible refine guard_go ?_); refine lex_guard rfl rfl (fun hg KS hKS => ?_) (fun hg => ?_)) | ((with_reducible refine guardd_go ?_); refine lexd_guard rfl rfl (fun hg KS hKS => ?_) (fun hg => ?_)) | ((with_reducible refine cond_go ?_); refine cond_k rfl (fun hg => ?_) (fun hg => ?_)) | (with_reducible refine And.intro (fun hg => ?_) (fun hg => ?_)) | fail) <;> first | (exact absurd hg (by decide)) | ((try simp only [CNL] at hg) <;> first | (exfalso; omega) | (exact (tf (by assumption) hg).elim) | (exact (tf hg (by assumption)).elim) | ((try with_reducible (have hT0 : True := hg; clear hT0 hg)); first | (with_reducible refine wpc_go ?_) | (try simp only [EVB, seval])))) | ((with_reducible refine hKS _ _ _ _ ?_); clear hKS; clear KS; simp only [EVB, seval]) | ((with_reducible refine And.intro ?_ ?_); focus (first | omega | exact u8_le _ | exact flat_intK _ | exact flat_bytK _ | (fail) | decide | (simp only [List.length_map, List.getElem_map, EdgeD.k, intK]; done))) | ((with_reducible refine ex_p ?_ (fun hh => ?_)); focus (first | omega | (simp only [List.length_map, List.getElem_map, EdgeD.k, intK]; omega))) | ((with_reducible refine hK _ _ _ ?_); clear hK hE hT; clear K) | ((with_reducible first | refine hE _ _ _ _ ?_ | refine hT _ _ _ ?_ | fail); (first | (clear hK hE hT; clear K) | (clear hR hE hT; clear K) | skip); try simp only [IFB, seval]) | ((with_reducible apply_assumption -symm -exfalso); try simp only [IFB, seval]) | fail)
    · obtain ⟨e1, e2⟩ := vw_hit (l := l) (ev := ev) (v := v) (k := k) (by omega) (by omega) (.inr (by assumption))
      (refine hR.out ⟨k + 1, by omega⟩ _ _ _ (by simp only; omega) ?_; (refine wk_a ?_; simp only [MAB, seval]; refine ⟨rfl, rfl, (by decide), ?_, ?_⟩; all_goals (first | (simp only [WKB, seval, fm_some e1, fm_some e2, ViewD.k, intK, edgeView, Nat.reduceLT, Nat.zero_lt_succ]; done) | (simp [WKB, seval, fm_some e1, fm_some e2, ViewD.k, intK, edgeView]; done) | simp only [WKB, seval])))
    · obtain ⟨e1, e2⟩ := vw_miss (l := l) (ev := ev) (v := v) (k := k) (by omega) (by assumption) (by assumption)
      (refine hR.out ⟨k + 1, by omega⟩ _ _ _ (by simp only; omega) ?_; (refine wk_a ?_; simp only [MAB, seval]; refine ⟨rfl, rfl, (by decide), ?_, ?_⟩; all_goals (first | (simp only [WKB, seval, fm_none e1, fm_none e2, Nat.reduceLT, Nat.zero_lt_succ]; done) | (simp [WKB, seval, fm_none e1, fm_none e2]; done) | simp only [WKB, seval])))
    · obtain ⟨e1, e2⟩ := vw_hit (l := l) (ev := ev) (v := v) (k := k) (by omega) (by omega) (.inl (by assumption))
      (refine hR.out ⟨k + 1, by omega⟩ _ _ _ (by simp only; omega) ?_; (refine wk_a ?_; simp only [MAB, seval]; refine ⟨rfl, rfl, (by decide), ?_, ?_⟩; all_goals (first | (simp only [WKB, seval, fm_some e1, fm_some e2, ViewD.k, intK, edgeView, Nat.reduceLT, Nat.zero_lt_succ]; done) | (simp [WKB, seval, fm_some e1, fm_some e2, ViewD.k, intK, edgeView]; done) | simp only [WKB, seval])))
    · obtain rfl : k = l.length := by omega
      (refine post_a hres (.inl rfl) ?_; simp only [RSB, ENB, seval, tiAll, true_and]; simp only [MAB, seval]; refine ⟨rfl, rfl, ?_, ?_, ?_⟩ <;> (first | rfl | (simp [WKB, Nat.add_comm, true_and]; done) | (simp only [WKB, seval])))

theorem runOk_evals {g : GraphD} {r : RunD} (h : runOk g r = true) : r.EVals.length = g.Edges.length := by
  unfold runOk at h
  simp only [Bool.and_eq_true, decide_eq_true_eq] at h
  omega

def viewsOk (g : GraphD) (r : RunD) (v : Int) : Bool := runOk g r && decide (0 ≤ v ∧ v < g.N)
def lViews (g : GraphD) (r : RunD) (v : Int) : List ViewD := if viewsOk g r v then viewsV g r v else []
def lIs (g : GraphD) (r : RunD) (v : Int) : List Int := if viewsOk g r v then viewsI g v else []

theorem lViews_len (g : GraphD) (r : RunD) (v : Int) : (lViews g r v).length ≤ g.Edges.length ∧ (lIs g r v).length ≤ g.Edges.length := by
  unfold lViews lIs
  cases viewsOk g r v with
  | false => exact ⟨Nat.zero_le _, Nat.zero_le _⟩
  | true => exact ⟨viewsV_len g r v, viewsI_len g v⟩

end Go.Proofs.Ytageceacjmmmdaa
