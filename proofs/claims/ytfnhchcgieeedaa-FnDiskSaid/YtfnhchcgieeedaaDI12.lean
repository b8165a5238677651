/-
  The program's files as a list in the order of their names. No conditions of its own.
-/
import Derived.Test.YtfnhchcgieeedaaGO
import Derived.Test.YtfnhchcgieeedaaSN3
import Derived.Test.YtfnhchcgieeedaaDI5
namespace Go.Proofs.Ytfnhchcgieeedaa
set_option linter.unusedSimpArgs false
set_option linter.unusedVariables false
set_option linter.unusedSimpArgs false
set_option linter.unusedVariables false
set_option linter.defProp false
set_option maxRecDepth 20000
open Go.RowKit

/-- A region of four operations of which the last three are shown by hand. -/
theorem hand_tail4 {P : Program} {ck : Bool} {n0 : Nat} {sl : List SV} {H : Heap} {nx : Nat} {K : List SV → Heap → Nat → Prop} {o1 o2 o3 o4 : Oper} (h1 : o1.guard = none)
    (h : lexK P ck (dstsOf [o1, o2, o3, o4]) [o1] sl H nx fun sl' H' nx' => ∀ (X : Ctx) (a : Act) (w : World) (Q' : Exit → Act → World → Prop), X.n0 = n0 → Sat X sl' H' nx' a w → (∀ sl H nx a w, K sl H nx → Sat X sl H nx a w → Q' .normal a w) → wpList P [o1, o2, o3, o4].toArray Q' [o2, o3, o4] a w) :
    handR P n0 [o1, o2, o3, o4].toArray false sl H nx K := by
  intro id X a w Q' hn hs hK
  refine wp_region_list ?_
  refine lexK_pre (P := P) (ck := ck) (ops := [o1, o2, o3, o4].toArray) ?_ [o1] (by simp [h1]) sl H nx a w h hs
  intro sl' H' nx' a' w' hk hs'
  exact hk X a' w' Q' hn hs' hK

set_option maxHeartbeats 8000000 in
theorem flist_k (b : Nat) (M : List FileD) (hs : srtF M) (hm : M.length ≤ 1048576) (hmd : ∀ f ∈ M, f.Data.length ≤ 1048576) :
    FnOK Try.prog 61 ⟨1, [(0, some (.gx [b] (mapS Try.prog 9 5 b M)))], [.c (.v (.map (some b)))], .c (.sl 1 2 0 M.length), [(0, some (.gx [b] (mapS Try.prog 9 5 b M))), (1, some (.nst 95 (M.map (FileD.k 5)) none))], 2⟩ := by
  refine fnOK_of true mixed Try.func61 rfl (by rfl) (by rfl) ?_
  have hres := congrArg Array.toList Try.results61
  simp only [Try.ntmps61, BGB, seval]
  (have gx := true_and True; refine go ?_; (repeat' first | exact Ef.mk | apply Lf.mk | refine fun (K : KT) hK hE hT => ?_ | refine fun (KS : KE) hKS => ?_ | refine fun (D : KD) hD => ?_ | refine fun (hg : (_ : Prop)) => ?_ | fail); all_goals (first | (refine Wr.mk ?_; (try clear gx); repeat first | clear hK hE hT K | clear hR hE hT K) | assumption | skip))
  refine range_s msF (f := 0) rfl rfl (by decide) fun r cnt => ?_
  refine hKS _ _ _ _ ?_
  clear hKS; clear KS; simp only [EVB, seval]
  (have gx := true_and True; refine go ?_; (repeat' first | exact Ef.mk | apply Lf.mk | refine fun (K : KT) hK hE hT => ?_ | refine fun (KS : KE) hKS => ?_ | refine fun (D : KD) hD => ?_ | refine fun (hg : (_ : Prop)) => ?_ | fail); all_goals (first | (refine Wr.mk ?_; (try clear gx); repeat first | clear hK hE hT K | clear hR hE hT K) | assumption | skip))
  refine loop_v (X := RgX M) [] (fun x => []) (fun x => [(0, some (.gx [b, r] (rangeS Try.prog 9 5 b r M x.left x.cnt))), (2, some (.nst 95 (x.P.map (FileD.k 5)) none)), (1, some (.box 46 [.sl 2 2 0 x.P.length]))]) 3 (fun x => x.cnt) ⟨[], _, cnt, ⟨rg_start⟩⟩ ?_
  simp only [KPB, seval]
  refine ⟨?_, ?_⟩
  · (refine wk_a ?_; simp only [MAB, seval]; refine ⟨rfl, rfl, (by decide), ?_, ?_⟩; all_goals (first | (simp only [WKB, seval, List.map_nil]; done) | (simp [WKB, seval, List.map_nil]; done) | simp only [WKB, seval]))
  · rintro ⟨P, left, cn, hi⟩ K hR hE hT
    have hPl : P.length ≤ M.length := by
      obtain ⟨R, hp, _⟩ := hi.out
      have := hp.length_eq
      rw [List.length_append] at this
      omega
    (have gx := true_and True; refine go ?_; (repeat' first | exact Ef.mk | apply Lf.mk | refine fun (K : KT) hK hE hT => ?_ | refine fun (KS : KE) hKS => ?_ | refine fun (D : KD) hD => ?_ | refine fun (hg : (_ : Prop)) => ?_ | fail); all_goals (first | (refine Wr.mk ?_; (try clear gx); repeat first | clear hK hE hT K | clear hR hE hT K) | assumption | skip))
    refine next_s msF (f := 0) rfl rfl (by decide) (fun h0 => ?_) (fun s q c2 hz hq hlt => ?_)
    · have e := rg_end hi.out h0
      have el := e.length_eq
      refine hKS _ _ _ _ ?_
      clear hKS; clear KS; simp only [EVB, seval]
      repeat' ((fail_if_success with_reducible refine hand_k (id := 6) ?_); (first | (with_reducible first | refine seq_k fun K hK hE hT => ?_ | refine block_k fun K hK hE hT => ?_ | refine lex_nil ?_ | fail) | ((with_reducible refine region_k ?_); simp only [dstsOf, EVB, seval]) | ((with_reducible refine draw_k ?_ fun D hD => ?_); (focus (first | rfl | kernel_rfl)); simp only [dstsOf, EVB, seval]) | ((with_reducible first | refine lex_move ?_ | refine lex_assign ?_); simp only [EVB, seval]) | (with_reducible first | refine lex_cons fun KS hKS => ?_ | refine lexd_cons fun KS hKS => ?_ | refine skip_k ?_ | refine exit_k ?_ | refine ret_k ?_ | fail) | ((with_reducible refine call_go ?_); fail) | ((with_reducible refine step_go ?_); (fail_if_success with_reducible refine call_go ?_); simp only [ENB, seval, tiAll, List.length_map]) | ((with_reducible refine lexd_nil ?_ ?_); (focus (refine hD _ ?_; first | kernel_rfl | with_unfolding_all rfl)); clear hD; clear D) | ((with_reducible refine guard_go ?_); refine lex_gone rfl rfl ?_; simp only [EVB, seval]) | ((with_reducible refine guardd_go ?_); refine lexd_gone rfl rfl ?_; simp only [EVB, seval]) | ((first | ((with_reducible refine guard_go ?_); refine lex_guard rfl rfl (fun hg KS hKS => ?_) (fun hg => ?_)) | ((with_reducible refine guardd_go ?_); refine lexd_guard rfl rfl (fun hg KS hKS => ?_) (fun hg => ?_)) | ((with_reducible refine cond_go ?_); refine cond_k rfl (fun hg => ?_) (fun hg => ?_)) | (with_reducible refine And.intro (fun hg => ?_) (fun hg => ?_)) | fail) <;> first | ((with_reducible exfalso); exact absurd hg (by decide)) | ((try simp only [CNL] at hg) <;> first | ((with_reducible exfalso); omega) | ((with_reducible exfalso); first | exact tf (by assumption) hg | exact tf hg (by assumption)) | ((try with_reducible (have hT0 : True := hg; clear hT0 hg)); first | (with_reducible refine wpc_go ?_) | (try simp only [EVB, seval])))) | ((with_reducible refine hKS _ _ _ _ ?_); clear hKS; clear KS; simp only [EVB, seval]) | ((with_reducible refine And.intro ?_ ?_); focus (first | omega | exact u8_le _ | exact flat_intK _ | exact flat_bytK _ | (fail) | decide | (simp only [List.length_map]; done))) | ((with_reducible refine ex_p ?_ (fun hh => ?_)); focus (first | omega | (simp only [List.length_map]; omega))) | ((with_reducible refine hK _ _ _ ?_); clear hK hE hT; clear K) | ((with_reducible first | refine hE _ _ _ _ ?_ | refine hT _ _ _ ?_ | fail); (first | (clear hK hE hT; clear K) | (clear hR hE hT; clear K) | skip); try simp only [IFB, seval]) | ((with_reducible apply_assumption -symm -exfalso); try simp only [IFB, seval]) | fail))
      refine hand_k (hand_tail4 (ck := true) rfl ?_)
      simp only [dstsOf, EVB, seval]
      repeat' ((fail_if_success with_reducible refine hand_k (id := 6) ?_); (first | (with_reducible first | refine seq_k fun K hK hE hT => ?_ | refine block_k fun K hK hE hT => ?_ | refine lex_nil ?_ | fail) | ((with_reducible refine region_k ?_); simp only [dstsOf, EVB, seval]) | ((with_reducible refine draw_k ?_ fun D hD => ?_); (focus (first | rfl | kernel_rfl)); simp only [dstsOf, EVB, seval]) | ((with_reducible first | refine lex_move ?_ | refine lex_assign ?_); simp only [EVB, seval]) | (with_reducible first | refine lex_cons fun KS hKS => ?_ | refine lexd_cons fun KS hKS => ?_ | refine skip_k ?_ | refine exit_k ?_ | refine ret_k ?_ | fail) | ((with_reducible refine call_go ?_); fail) | ((with_reducible refine step_go ?_); (fail_if_success with_reducible refine call_go ?_); simp only [ENB, seval, tiAll, List.length_map]) | ((with_reducible refine lexd_nil ?_ ?_); (focus (refine hD _ ?_; first | kernel_rfl | with_unfolding_all rfl)); clear hD; clear D) | ((with_reducible refine guard_go ?_); refine lex_gone rfl rfl ?_; simp only [EVB, seval]) | ((with_reducible refine guardd_go ?_); refine lexd_gone rfl rfl ?_; simp only [EVB, seval]) | ((first | ((with_reducible refine guard_go ?_); refine lex_guard rfl rfl (fun hg KS hKS => ?_) (fun hg => ?_)) | ((with_reducible refine guardd_go ?_); refine lexd_guard rfl rfl (fun hg KS hKS => ?_) (fun hg => ?_)) | ((with_reducible refine cond_go ?_); refine cond_k rfl (fun hg => ?_) (fun hg => ?_)) | (with_reducible refine And.intro (fun hg => ?_) (fun hg => ?_)) | fail) <;> first | ((with_reducible exfalso); exact absurd hg (by decide)) | ((try simp only [CNL] at hg) <;> first | ((with_reducible exfalso); omega) | ((with_reducible exfalso); first | exact tf (by assumption) hg | exact tf hg (by assumption)) | ((try with_reducible (have hT0 : True := hg; clear hT0 hg)); first | (with_reducible refine wpc_go ?_) | (try simp only [EVB, seval])))) | ((with_reducible refine hKS _ _ _ _ ?_); clear hKS; clear KS; simp only [EVB, seval]) | ((with_reducible refine And.intro ?_ ?_); focus (first | omega | exact u8_le _ | exact flat_intK _ | exact flat_bytK _ | (fail) | decide | (simp only [List.length_map]; done))) | ((with_reducible refine ex_p ?_ (fun hh => ?_)); focus (first | omega | (simp only [List.length_map]; omega))) | ((with_reducible refine hK _ _ _ ?_); clear hK hE hT; clear K) | ((with_reducible first | refine hE _ _ _ _ ?_ | refine hT _ _ _ ?_ | fail); (first | (clear hK hE hT; clear K) | (clear hR hE hT; clear K) | skip); try simp only [IFB, seval]) | ((with_reducible apply_assumption -symm -exfalso); try simp only [IFB, seval]) | fail))
      intro X a w Q' hn hs' hK'
      refine files_tail (L := P) (M := M) (ds := 20) (db := 3) (gr := 2) (gb := 1) (by omega) hs' rfl rfl rfl rfl rfl (by decide) (by decide) (by decide) (by simp) (by simp) e hs ?_ hK'
      simp only [EVB, seval]
      (have gx := @List.length_map.{0,0}; refine go ?_; (repeat' first | exact Ef.mk | apply Lf.mk | refine fun (K : KT) hK hE hT => ?_ | refine fun (KS : KE) hKS => ?_ | refine fun (D : KD) hD => ?_ | refine fun (hg : (_ : Prop)) => ?_ | fail); all_goals (first | (refine Wr.mk ?_; (try clear gx); repeat first | clear hK hE hT K | clear hR hE hT K) | assumption | skip))
      refine post_w (wk_gx (f := 0) (S' := [b]) (φ' := mapS Try.prog 9 5 b M) rfl (by simp) fun F w h => range_map F w h) ?_
      simp only [EVB, seval]
      (refine post_a hres (.inl rfl) ?_; simp only [RSB, ENB, seval, tiAll, el]; simp only [MAB, seval]; refine ⟨rfl, rfl, ?_, ?_, ?_⟩ <;> (first | rfl | (simp [WKB, Nat.add_comm, el]; done) | (simp only [WKB, seval])))
    · have hn := rg_next hs hi.out hz hq
      have e : (P ++ [(⟨s, q⟩ : FileD)]).map (FileD.k 5) = P.map (FileD.k 5) ++ [FileD.k 5 ⟨s, q⟩] := by rw [List.map_append]; rfl
      have l2 : (P ++ [(⟨s, q⟩ : FileD)]).length = P.length + 1 := by simp
      have c := copyB_k q (lkF_len hq hmd)
      refine hKS _ _ _ _ ?_
      clear hKS; clear KS; simp only [EVB, seval]
      (have gx := true_and True; refine go ?_; (repeat' first | exact Ef.mk | apply Lf.mk | refine fun (K : KT) hK hE hT => ?_ | refine fun (KS : KE) hKS => ?_ | refine fun (D : KD) hD => ?_ | refine fun (hg : (_ : Prop)) => ?_ | fail); all_goals (first | (refine Wr.mk ?_; (try clear gx); repeat first | clear hK hE hT K | clear hR hE hT K) | assumption | skip))
      refine entry_s (f := 0) rfl rfl ?_
      refine hKS _ _ _ _ ?_
      clear hKS; clear KS; simp only [EVB, seval]
      (have gx := @List.length_map.{0,0}; have q1 := c; refine go ?_; (repeat' first | exact Ef.mk | apply Lf.mk | refine fun (K : KT) hK hE hT => ?_ | refine fun (KS : KE) hKS => ?_ | refine fun (D : KD) hD => ?_ | refine fun (hg : (_ : Prop)) => ?_ | fail); all_goals (first | (refine Wr.mk ?_; (try clear gx q1); repeat first | clear hK hE hT K | clear hR hE hT K) | assumption | skip))
      refine hR.out ⟨P ++ [⟨s, q⟩], _, c2, ⟨hn⟩⟩ _ _ _ (by simp only; omega) ?_
      refine Wk.trans (wk_gx (f := 0) (S' := [b, r]) (φ' := rangeS Try.prog 9 5 b r M (fun a => left a && !decide (a = s)) c2) rfl (by simp) fun F w h => h.1) ?_
      simp only [EVB, seval]
      (refine wk_a ?_; simp only [MAB, seval]; refine ⟨rfl, rfl, (by decide), ?_, ?_⟩; all_goals (first | (simp only [WKB, seval, e, FileD.k, l2]; done) | (simp [WKB, seval, e, FileD.k, l2]; done) | simp only [WKB, seval]))

end Go.Proofs.Ytfnhchcgieeedaa
