/-
  Contract: a place is put in by the reference. No conditions of its own.
-/
import Derived.Test.YtcbnfkbnbdbfoaaGreatGO
import Derived.Test.YtcbnfkbnbdbfoaaGreatMLD
import Derived.Test.YtcbnfkbnbdbfoaaGreatWC
namespace Go.Proofs.YtcbnfkbnbdbfoaaGreat
set_option linter.unusedSimpArgs false
set_option linter.unusedVariables false
set_option linter.unusedSimpArgs false
set_option linter.unusedVariables false
set_option linter.defProp false
set_option maxRecDepth 20000
open Go.RowKit
attribute [local irreducible] lexD

theorem insAt_lt {l : List LocD} {x : LocD} {j : Nat} (h : j < insAt l x) : ∃ hj : j < l.length, l[j].Edge.Index < x.Edge.Index := by
  obtain ⟨h1, h2⟩ := tw_lt h
  exact ⟨h1, by simpa using h2⟩
theorem insAt_end {l : List LocD} {x : LocD} (h : insAt l x < l.length) : ¬ l[insAt l x].Edge.Index < x.Edge.Index := by
  have h2 := tw_end (p := fun y : LocD => decide (y.Edge.Index < x.Edge.Index)) (l := l) h
  simp only [decide_eq_false_iff_not] at h2
  exact h2

set_option maxHeartbeats 8000000 in
theorem l12Into_k (l : List LocD) (d : LocD) (hl : l.length ≤ 1048576) : FnOK Tryz.prog 137 ⟨1, [(0, some (.row 98 (l.map LocD.k)))], [.c (.sl 0 7 0 l.length), .agg d.s], .c (.sl 1 7 0 (insL l d).length), [(0, none), (1, some (.row 98 ((insL l d).map LocD.k)))], 2⟩ := by
  have hil := insAt_le l d
  have hlen := insL_len l d
  have hlt := fun j => insAt_lt (l := l) (x := d) (j := j)
  have hnd := insAt_end (l := l) (x := d)
  have hres2 : (insL l d).map LocD.k = (l.map LocD.k).take (insAt l d) ++ [LocD.k d] ++ (l.map LocD.k).drop (insAt l d) := by
    unfold insL
    rw [List.map_append, List.map_cons, List.map_take, List.map_drop, List.append_assoc, List.singleton_append]
  rw [hres2, hlen]
  have hdk : LocD.k d = [.v (.int .i64 d.Shard), .v (.int .i64 d.At), .v (.int .i64 d.Edge.From), .v (.int .i64 d.Edge.To), .v (.int .i64 d.Edge.W), .v (.int .i64 d.Edge.Index), .v (.int .i64 d.Edge.Val)] := rfl
  simp only [LocD.s, SEdgeD.s, hdk]
  obtain ⟨n, hn⟩ : ∃ n, n = insAt l d := ⟨_, rfl⟩
  simp only [← hn] at hil hlt hnd ⊢
  clear hres2 hlen
  refine fnOK_of true mixed Tryz.func137 rfl (by rfl) (by rfl) ?_
  have hres := congrArg Array.toList Tryz.results137
  simp only [Tryz.ntmps137, BGB, seval]
  (have gx := @List.length_map.{0,0}; refine go ?_; (repeat' (first | exact Ef.mk | refine Lf.mk ?_ ?_ | refine fun (K : KT) hK hE hT => ?_ | refine fun (KS : Eff → Prop) hKS => ?_ | refine fun (D : List Keys → Prop) hD => ?_ | refine fun (hg : (_ : Prop)) => ?_ | fail)); all_goals (first | (refine Wr.mk ?_; (try clear gx); repeat (first | (clear hK hE hT; clear K) | (clear hR hE hT; clear K))) | assumption | skip))
  refine loop_v (X := {j : Nat // j ≤ n}) [] (fun x => [(5, .c (.v (.int .i64 ((x.1 : Nat) : Int))))]) (fun x => [(0, some (.row 98 (l.map LocD.k))), (1, some (.box 98 d.s))]) 2 (fun x => n - x.1) ⟨0, by omega⟩ ?_
  simp only [KPB, seval]
  refine ⟨?_, ?_⟩
  · (refine wk_a ?_; simp only [MAB, seval]; refine ⟨rfl, rfl, (by decide), ?_, ?_⟩; all_goals (first | (simp only [WKB, seval, LocD.s, SEdgeD.s, Nat.reduceLT, Nat.zero_lt_succ]; done) | (simp [WKB, seval, LocD.s, SEdgeD.s]; done) | simp only [WKB, seval]))
  · simp only [LocD.s, SEdgeD.s]
    rintro ⟨j, hj⟩ K hR hE hT
    rcases Nat.lt_or_ge j n with hlj | hge
    case inl =>
      obtain ⟨q1, q2⟩ := hlt j hlj
      obtain ⟨y, hy⟩ : ∃ y, y = l[j] := ⟨_, rfl⟩
      rw [← hy] at q2
      (have gx := And.intro (@List.length_map.{0,0}) (And.intro (@List.getElem_map.{0,0}) (And.intro (hy).symm @LocD.k.eq_1)); refine go ?_; (repeat' (first | exact Ef.mk | refine Lf.mk ?_ ?_ | refine fun (K : KT) hK hE hT => ?_ | refine fun (KS : Eff → Prop) hKS => ?_ | refine fun (D : List Keys → Prop) hD => ?_ | refine fun (hg : (_ : Prop)) => ?_ | fail)); all_goals (first | (refine Wr.mk ?_; (try clear gx); repeat (first | (clear hK hE hT; clear K) | (clear hR hE hT; clear K))) | assumption | skip))
      (refine hR.out ⟨j + 1, by omega⟩ _ _ _ (by simp only; omega) ?_; (refine wk_a ?_; simp only [MAB, seval]; refine ⟨rfl, rfl, (by decide), ?_, ?_⟩; all_goals (first | (simp only [WKB, seval, true_and, Nat.reduceLT, Nat.zero_lt_succ]; done) | (simp [WKB, seval, true_and]; done) | simp only [WKB, seval])))
    case inr =>
      obtain rfl : j = n := by omega
      have e9 : j + 1 + (l.length - j) = l.length + 1 := by omega
      have ld : ((l.map LocD.k).drop j).length = l.length - j := by rw [List.length_drop, List.length_map]
      have lt : ((l.map LocD.k).take j).length = j := by rw [List.length_take, List.length_map]; omega
      have hlc : ∀ x : List DC, ((l.map LocD.k).take j ++ [x]).length = j + 1 := fun x => by rw [List.length_append, lt]; rfl
      have hdt : ((l.map LocD.k).drop j).take (l.length - j) = (l.map LocD.k).drop j := List.take_of_length_le (by omega)
      rcases Nat.lt_or_ge j l.length with hjl | hjl
      case inl =>
        have q2 := hnd hjl
        obtain ⟨y, hy⟩ : ∃ y, y = l[j] := ⟨_, rfl⟩
        rw [← hy] at q2
        repeat' ((fail_if_success with_reducible refine hand_k (id := 5) ?_); (first | (with_reducible first | refine seq_k fun K hK hE hT => ?_ | refine block_k fun K hK hE hT => ?_ | refine lex_nil ?_ | fail) | ((with_reducible refine region_k ?_); simp only [dstsOf, EVB, seval]) | ((with_reducible refine draw_k ?_ fun D hD => ?_); (focus (first | rfl | kernel_rfl)); simp only [dstsOf, EVB, seval]) | ((with_reducible first | refine lex_move ?_ | refine lex_assign ?_); simp only [EVB, seval]) | (with_reducible first | refine lex_cons fun KS hKS => ?_ | refine lexd_cons fun KS hKS => ?_ | refine skip_k ?_ | refine exit_k ?_ | refine ret_k ?_ | fail) | ((with_reducible refine call_go ?_); fail) | ((with_reducible refine step_go ?_); (fail_if_success with_reducible refine call_go ?_); simp only [ENB, seval, tiAll, List.length_map, List.getElem_map, ← hy, LocD.k, litN, ld, hdt]) | ((with_reducible refine lexd_nil ?_ ?_); (focus (refine hD _ ?_; first | kernel_rfl | with_unfolding_all rfl)); clear hD; clear D) | ((with_reducible refine guard_go ?_); refine lex_gone rfl rfl ?_; simp only [EVB, seval]) | ((with_reducible refine guardd_go ?_); refine lexd_gone rfl rfl ?_; simp only [EVB, seval]) | ((first | ((with_reducible refine guard_go ?_); refine lex_guard rfl rfl (fun hg KS hKS => ?_) (fun hg => ?_)) | ((with_reducible refine guardd_go ?_); refine lexd_guard rfl rfl (fun hg KS hKS => ?_) (fun hg => ?_)) | ((with_reducible refine cond_go ?_); refine cond_k rfl (fun hg => ?_) (fun hg => ?_)) | (with_reducible refine And.intro (fun hg => ?_) (fun hg => ?_)) | fail) <;> first | ((with_reducible exfalso); exact absurd hg (by decide)) | ((try simp only [CNL] at hg) <;> first | ((with_reducible exfalso); omega) | ((with_reducible exfalso); first | exact tf (by assumption) hg | exact tf hg (by assumption)) | ((try with_reducible (have hT0 : True := hg; clear hT0 hg)); first | (with_reducible refine wpc_go ?_) | (try simp only [EVB, seval])))) | ((with_reducible refine hKS _ _ _ _ ?_); clear hKS; clear KS; simp only [EVB, seval]) | ((with_reducible refine And.intro ?_ ?_); focus (first | omega | exact u8_le _ | exact flat_intK _ | exact flat_bytK _ | (exact flat_Loc _) | decide | (simp only [List.length_map, List.getElem_map, ← hy, LocD.k, litN, ld, hdt]; done))) | ((with_reducible refine ex_p ?_ (fun hh => ?_)); focus (first | omega | (simp only [List.length_map, List.getElem_map, ← hy, LocD.k, litN, ld, hdt]; omega))) | ((with_reducible refine hK _ _ _ ?_); clear hK hE hT; clear K) | ((with_reducible first | refine hE _ _ _ _ ?_ | refine hT _ _ _ ?_ | fail); (first | (clear hK hE hT; clear K) | (clear hR hE hT; clear K) | skip); try simp only [IFB, seval]) | ((with_reducible apply_assumption -symm -exfalso); try simp only [IFB, seval]) | fail))
        refine region_w (wk_cut (g := 0) j rfl) ?_
        simp only [EVB, seval]
        (have gx := And.intro (@List.length_map.{0,0}) (And.intro (@litN) (And.intro (@Option.toArray_none.{0}) (And.intro (@Option.toArray_some.{0}) (And.intro (@hlc) (And.intro (@lt) (And.intro @ld @hdt)))))); refine go ?_; (repeat' (first | exact Ef.mk | refine Lf.mk ?_ ?_ | refine fun (K : KT) hK hE hT => ?_ | refine fun (KS : Eff → Prop) hKS => ?_ | refine fun (D : List Keys → Prop) hD => ?_ | refine fun (hg : (_ : Prop)) => ?_ | fail)); all_goals (first | (refine Wr.mk ?_; (try clear gx); repeat (first | (clear hK hE hT; clear K) | (clear hR hE hT; clear K))) | assumption | skip))
        (refine post_a hres (.inl rfl) ?_; simp only [RSB, ENB, seval, tiAll, List.append_assoc, e9]; simp only [MAB, seval]; refine ⟨rfl, rfl, ?_, ?_, ?_⟩ <;> (first | rfl | (simp [WKB, Nat.add_comm, List.append_assoc, e9]; done) | (simp only [WKB, seval])))
      case inr =>
        repeat' ((fail_if_success with_reducible refine hand_k (id := 5) ?_); (first | (with_reducible first | refine seq_k fun K hK hE hT => ?_ | refine block_k fun K hK hE hT => ?_ | refine lex_nil ?_ | fail) | ((with_reducible refine region_k ?_); simp only [dstsOf, EVB, seval]) | ((with_reducible refine draw_k ?_ fun D hD => ?_); (focus (first | rfl | kernel_rfl)); simp only [dstsOf, EVB, seval]) | ((with_reducible first | refine lex_move ?_ | refine lex_assign ?_); simp only [EVB, seval]) | (with_reducible first | refine lex_cons fun KS hKS => ?_ | refine lexd_cons fun KS hKS => ?_ | refine skip_k ?_ | refine exit_k ?_ | refine ret_k ?_ | fail) | ((with_reducible refine call_go ?_); fail) | ((with_reducible refine step_go ?_); (fail_if_success with_reducible refine call_go ?_); simp only [ENB, seval, tiAll, List.length_map, litN, ld, hdt]) | ((with_reducible refine lexd_nil ?_ ?_); (focus (refine hD _ ?_; first | kernel_rfl | with_unfolding_all rfl)); clear hD; clear D) | ((with_reducible refine guard_go ?_); refine lex_gone rfl rfl ?_; simp only [EVB, seval]) | ((with_reducible refine guardd_go ?_); refine lexd_gone rfl rfl ?_; simp only [EVB, seval]) | ((first | ((with_reducible refine guard_go ?_); refine lex_guard rfl rfl (fun hg KS hKS => ?_) (fun hg => ?_)) | ((with_reducible refine guardd_go ?_); refine lexd_guard rfl rfl (fun hg KS hKS => ?_) (fun hg => ?_)) | ((with_reducible refine cond_go ?_); refine cond_k rfl (fun hg => ?_) (fun hg => ?_)) | (with_reducible refine And.intro (fun hg => ?_) (fun hg => ?_)) | fail) <;> first | ((with_reducible exfalso); exact absurd hg (by decide)) | ((try simp only [CNL] at hg) <;> first | ((with_reducible exfalso); omega) | ((with_reducible exfalso); first | exact tf (by assumption) hg | exact tf hg (by assumption)) | ((try with_reducible (have hT0 : True := hg; clear hT0 hg)); first | (with_reducible refine wpc_go ?_) | (try simp only [EVB, seval])))) | ((with_reducible refine hKS _ _ _ _ ?_); clear hKS; clear KS; simp only [EVB, seval]) | ((with_reducible refine And.intro ?_ ?_); focus (first | omega | exact u8_le _ | exact flat_intK _ | exact flat_bytK _ | (exact flat_Loc _) | decide | (simp only [List.length_map, litN, ld, hdt]; done))) | ((with_reducible refine ex_p ?_ (fun hh => ?_)); focus (first | omega | (simp only [List.length_map, litN, ld, hdt]; omega))) | ((with_reducible refine hK _ _ _ ?_); clear hK hE hT; clear K) | ((with_reducible first | refine hE _ _ _ _ ?_ | refine hT _ _ _ ?_ | fail); (first | (clear hK hE hT; clear K) | (clear hR hE hT; clear K) | skip); try simp only [IFB, seval]) | ((with_reducible apply_assumption -symm -exfalso); try simp only [IFB, seval]) | fail))
        refine region_w (wk_cut (g := 0) j rfl) ?_
        simp only [EVB, seval]
        (have gx := And.intro (@List.length_map.{0,0}) (And.intro (@litN) (And.intro (@Option.toArray_none.{0}) (And.intro (@Option.toArray_some.{0}) (And.intro (@hlc) (And.intro (@lt) (And.intro @ld @hdt)))))); refine go ?_; (repeat' (first | exact Ef.mk | refine Lf.mk ?_ ?_ | refine fun (K : KT) hK hE hT => ?_ | refine fun (KS : Eff → Prop) hKS => ?_ | refine fun (D : List Keys → Prop) hD => ?_ | refine fun (hg : (_ : Prop)) => ?_ | fail)); all_goals (first | (refine Wr.mk ?_; (try clear gx); repeat (first | (clear hK hE hT; clear K) | (clear hR hE hT; clear K))) | assumption | skip))
        (refine post_a hres (.inl rfl) ?_; simp only [RSB, ENB, seval, tiAll, List.append_assoc, e9]; simp only [MAB, seval]; refine ⟨rfl, rfl, ?_, ?_, ?_⟩ <;> (first | rfl | (simp [WKB, Nat.add_comm, List.append_assoc, e9]; done) | (simp only [WKB, seval])))

end Go.Proofs.YtcbnfkbnbdbfoaaGreat
