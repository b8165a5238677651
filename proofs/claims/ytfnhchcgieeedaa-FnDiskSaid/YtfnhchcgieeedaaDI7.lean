/-
  The program's files: nothing is seen of a disk that does not fit. No conditions of its own.
-/
import Derived.Test.YtfnhchcgieeedaaGO
import Derived.Test.YtfnhchcgieeedaaDI6
namespace Go.Proofs.Ytfnhchcgieeedaa
set_option linter.unusedSimpArgs false
set_option linter.unusedVariables false
set_option linter.unusedSimpArgs false
set_option linter.unusedVariables false
set_option linter.defProp false
set_option maxRecDepth 20000
open Go.RowKit

theorem byF_ins (x : FileD) : ∀ M : List FileD, byF (insF x M) = x.Data.length + byF M
  | [] => by simp [insF, byF]
  | f :: M => by
    unfold insF
    split
    · simp only [byF]
    · simp only [byF, byF_ins x M]; omega
theorem byF_less (s : List UInt8) : ∀ M : List FileD, byF (lessF M s) ≤ byF M
  | [] => Nat.le_refl _
  | f :: M => by
    have ih := byF_less s M
    by_cases h : f.Name = s
    · have e : lessF (f :: M) s = lessF M s := by simp [lessF, h]
      rw [e]; simp only [byF]; omega
    · have e : lessF (f :: M) s = f :: lessF M s := by simp [lessF, h]
      rw [e]; simp only [byF]; omega
theorem byF_look (M : List FileD) (s : List UInt8) : ((lkF M s).getD []).length ≤ byF M := by
  cases e : lkF M s with
  | none => simp
  | some q => exact byF_get e
theorem byF_mk (M : List FileD) (o : FsOpD) : byF (mkF M o) ≤ byF M + byF M + o.Data.length := by
  have h1 := byF_less o.Name M
  have h2 := byF_look M o.Name
  unfold mkF withF
  split
  · rw [byF_ins]; simp only [List.length_nil]; omega
  · split
    · rw [byF_ins]; simp only [List.length_append]; omega
    · split
      · rw [byF_ins]
        have h3 := byF_less o.To (lessF M o.Name)
        simp only; omega
      · omega

set_option maxHeartbeats 16000000 in
theorem seenOf_n (d : DiskD) (hz : szD d) (hs : srtF d.Files) (hr : d.Room ≤ 200000) (hfl : d.Files.length ≤ 12) (hw : d.Wait.length ≤ 60) (ok : ¬ okF d.Room d.Files d.Wait d.Wait.length) (hb : byF d.Files ≤ 1099511627776) :
    FnOK Try.prog 60 ⟨2, [(0, some (.ro ((d.Files).map (FileD.k 5)))), (1, some (.ro ((d.Wait).map (FsOpD.k 5))))], [.agg [.v (.int .i64 d.Room), .v (.int .i64 d.Fuse), .sl 0 2 0 (d.Files).length, .sl 1 4 0 (d.Wait).length]], .tup [.inl (.v (.map none)), .inl (.v (.bool false))], [], 2⟩ := by
  obtain ⟨z1, z2, z3, z4⟩ := hz
  have cf := filesOf_k d.Files hs z1 (fun f h => (z3 f h).1) (fun f h => (z3 f h).2)
  refine fnOK_of true mixed Try.func60 rfl (by rfl) (by rfl) ?_
  have hres := congrArg Array.toList Try.results60
  simp only [Try.ntmps60, BGB, seval]
  repeat' ((fail_if_success with_reducible refine hand_k (id := 1) ?_); (first | (with_reducible first | refine seq_k fun K hK hE hT => ?_ | refine block_k fun K hK hE hT => ?_ | refine lex_nil ?_ | fail) | ((with_reducible refine region_k ?_); simp only [dstsOf, EVB, seval]) | ((with_reducible refine draw_k ?_ fun D hD => ?_); (focus (first | rfl | kernel_rfl)); simp only [dstsOf, EVB, seval]) | ((with_reducible first | refine lex_move ?_ | refine lex_assign ?_); simp only [EVB, seval]) | (with_reducible first | refine lex_cons fun KS hKS => ?_ | refine lexd_cons fun KS hKS => ?_ | refine skip_k ?_ | refine exit_k ?_ | refine ret_k ?_ | fail) | ((with_reducible refine call_go ?_); fail) | ((with_reducible refine step_go ?_); (fail_if_success with_reducible refine call_go ?_); simp only [ENB, seval, tiAll, true_and]) | ((with_reducible refine lexd_nil ?_ ?_); (focus (refine hD _ ?_; first | kernel_rfl | with_unfolding_all rfl)); clear hD; clear D) | ((with_reducible refine guard_go ?_); refine lex_gone rfl rfl ?_; simp only [EVB, seval]) | ((with_reducible refine guardd_go ?_); refine lexd_gone rfl rfl ?_; simp only [EVB, seval]) | ((first | ((with_reducible refine guard_go ?_); refine lex_guard rfl rfl (fun hg KS hKS => ?_) (fun hg => ?_)) | ((with_reducible refine guardd_go ?_); refine lexd_guard rfl rfl (fun hg KS hKS => ?_) (fun hg => ?_)) | ((with_reducible refine cond_go ?_); refine cond_k rfl (fun hg => ?_) (fun hg => ?_)) | (with_reducible refine And.intro (fun hg => ?_) (fun hg => ?_)) | fail) <;> first | ((with_reducible exfalso); exact absurd hg (by decide)) | ((try simp only [CNL] at hg) <;> first | ((with_reducible exfalso); omega) | ((with_reducible exfalso); first | exact tf (by assumption) hg | exact tf hg (by assumption)) | ((try with_reducible (have hT0 : True := hg; clear hT0 hg)); first | (with_reducible refine wpc_go ?_) | (try simp only [EVB, seval])))) | ((with_reducible refine hKS _ _ _ _ ?_); clear hKS; clear KS; simp only [EVB, seval]) | ((with_reducible refine And.intro ?_ ?_); focus (first | omega | exact u8_le _ | exact flat_intK _ | exact flat_bytK _ | (fail) | decide | (simp only [true_and]; done))) | ((with_reducible refine ex_p ?_ (fun hh => ?_)); focus (first | omega | (simp only [true_and]; omega))) | ((with_reducible refine hK _ _ _ ?_); clear hK hE hT; clear K) | ((with_reducible first | refine hE _ _ _ _ ?_ | refine hT _ _ _ ?_ | fail); (first | (clear hK hE hT; clear K) | (clear hR hE hT; clear K) | skip); try simp only [IFB, seval]) | ((with_reducible apply_assumption -symm -exfalso); try simp only [IFB, seval]) | fail))
  refine region_k ?_
  simp only [dstsOf, EVB, seval]
  repeat' (first | (refine lex_fam [Vw.ro 0 0 d.Files.length true] cf rfl 0 rfl ?_ ?_) | (first | (with_reducible first | refine seq_k fun K hK hE hT => ?_ | refine block_k fun K hK hE hT => ?_ | refine lex_nil ?_ | fail) | ((with_reducible refine region_k ?_); simp only [dstsOf, EVB, seval]) | ((with_reducible refine draw_k ?_ fun D hD => ?_); (focus (first | rfl | kernel_rfl)); simp only [dstsOf, EVB, seval]) | ((with_reducible first | refine lex_move ?_ | refine lex_assign ?_); simp only [EVB, seval]) | (with_reducible first | refine lex_cons fun KS hKS => ?_ | refine lexd_cons fun KS hKS => ?_ | refine skip_k ?_ | refine exit_k ?_ | refine ret_k ?_ | fail) | ((with_reducible refine call_go ?_); fail) | ((with_reducible refine step_go ?_); (fail_if_success with_reducible refine call_go ?_); simp only [ENB, seval, tiAll, List.length_map]) | ((with_reducible refine lexd_nil ?_ ?_); (focus (refine hD _ ?_; first | kernel_rfl | with_unfolding_all rfl)); clear hD; clear D) | ((with_reducible refine guard_go ?_); refine lex_gone rfl rfl ?_; simp only [EVB, seval]) | ((with_reducible refine guardd_go ?_); refine lexd_gone rfl rfl ?_; simp only [EVB, seval]) | ((first | ((with_reducible refine guard_go ?_); refine lex_guard rfl rfl (fun hg KS hKS => ?_) (fun hg => ?_)) | ((with_reducible refine guardd_go ?_); refine lexd_guard rfl rfl (fun hg KS hKS => ?_) (fun hg => ?_)) | ((with_reducible refine cond_go ?_); refine cond_k rfl (fun hg => ?_) (fun hg => ?_)) | (with_reducible refine And.intro (fun hg => ?_) (fun hg => ?_)) | fail) <;> first | ((with_reducible exfalso); exact absurd hg (by decide)) | ((try simp only [CNL] at hg) <;> first | ((with_reducible exfalso); omega) | ((with_reducible exfalso); first | exact tf (by assumption) hg | exact tf hg (by assumption)) | ((try with_reducible (have hT0 : True := hg; clear hT0 hg)); first | (with_reducible refine wpc_go ?_) | (try simp only [EVB, seval])))) | ((with_reducible refine hKS _ _ _ _ ?_); clear hKS; clear KS; simp only [EVB, seval]) | ((with_reducible refine And.intro ?_ ?_); focus (first | omega | exact u8_le _ | exact flat_intK _ | exact flat_bytK _ | (fail) | decide | (simp only [List.length_map]; done))) | ((with_reducible refine ex_p ?_ (fun hh => ?_)); focus (first | omega | (simp only [List.length_map]; omega))) | ((with_reducible refine hK _ _ _ ?_); clear hK hE hT; clear K) | ((with_reducible first | refine hE _ _ _ _ ?_ | refine hT _ _ _ ?_ | fail); (first | (clear hK hE hT; clear K) | (clear hR hE hT; clear K) | skip); try simp only [IFB, seval]) | ((with_reducible apply_assumption -symm -exfalso); try simp only [IFB, seval]) | fail))
  · exact fun i => fits_of _ rfl (by simp [CXB]) (by simp [CXB]) rfl (by simp [CXB]) (by simp [CXB]) (by dsimp only; omega)
  intro b
  simp only [EFB, seval]
  simp only [EVB, seval]
  have cs := fsize_k b d.Files hs (by omega)
  rcases Int.lt_or_le d.Room (byF d.Files) with hb1 | hb1
  · (have gx := @List.length_map.{0,0}; refine go ?_; (repeat' first | exact Ef.mk | apply Lf.mk | refine fun (K : KT) hK hE hT => ?_ | refine fun (KS : KE) hKS => ?_ | refine fun (D : KD) hD => ?_ | refine fun (hg : (_ : Prop)) => ?_ | fail); all_goals (first | (refine Wr.mk ?_; (try clear gx); repeat first | clear hK hE hT K | clear hR hE hT K) | assumption | skip))
    refine call_k [.same 3] (cs) rfl rfl rfl (fits_of _ rfl (by simp [CXB]) (by simp [CXB]) rfl (by simp [CXB]) (by simp [CXB]) (by dsimp only; omega)) ?_
    simp only [EFB, seval]
    refine hKS _ _ _ _ ?_
    clear hKS; clear KS; simp only [EVB, seval]
    (have gx := @List.length_map.{0,0}; refine go ?_; (repeat' first | exact Ef.mk | apply Lf.mk | refine fun (K : KT) hK hE hT => ?_ | refine fun (KS : KE) hKS => ?_ | refine fun (D : KD) hD => ?_ | refine fun (hg : (_ : Prop)) => ?_ | fail); all_goals (first | (refine Wr.mk ?_; (try clear gx); repeat first | clear hK hE hT K | clear hR hE hT K) | assumption | skip))
    (refine post_a hres (.inl rfl) ?_; simp only [RSB, ENB, seval, tiAll, true_and]; simp only [MAB, seval]; refine ⟨rfl, rfl, ?_, ?_, ?_⟩ <;> (first | rfl | (simp [WKB, Nat.add_comm, true_and]; done) | (simp only [WKB, seval])))
  · (have gx := @List.length_map.{0,0}; refine go ?_; (repeat' first | exact Ef.mk | apply Lf.mk | refine fun (K : KT) hK hE hT => ?_ | refine fun (KS : KE) hKS => ?_ | refine fun (D : KD) hD => ?_ | refine fun (hg : (_ : Prop)) => ?_ | fail); all_goals (first | (refine Wr.mk ?_; (try clear gx); repeat first | clear hK hE hT K | clear hR hE hT K) | assumption | skip))
    refine call_k [.same 3] (cs) rfl rfl rfl (fits_of _ rfl (by simp [CXB]) (by simp [CXB]) rfl (by simp [CXB]) (by simp [CXB]) (by dsimp only; omega)) ?_
    simp only [EFB, seval]
    refine hKS _ _ _ _ ?_
    clear hKS; clear KS; simp only [EVB, seval]
    (have gx := @List.length_map.{0,0}; refine go ?_; (repeat' first | exact Ef.mk | apply Lf.mk | refine fun (K : KT) hK hE hT => ?_ | refine fun (KS : KE) hKS => ?_ | refine fun (D : KD) hD => ?_ | refine fun (hg : (_ : Prop)) => ?_ | fail); all_goals (first | (refine Wr.mk ?_; (try clear gx); repeat first | clear hK hE hT K | clear hR hE hT K) | assumption | skip))
    refine loop_v (X := {k : Nat // k ≤ d.Wait.length ∧ Rnd (okF d.Room d.Files d.Wait k)}) [] (fun x => [(18, .c (.v (.int .i64 ((x.1 : Nat) : Int))))]) (fun x => [(0, some (.ro ((d.Files).map (FileD.k 5)))), (1, some (.ro ((d.Wait).map (FsOpD.k 5)))), (2, some (.box 50 [.v (.int .i64 d.Room), .v (.int .i64 d.Fuse), .sl 0 2 0 (d.Files).length, .sl 1 4 0 (d.Wait).length])), (3, some (.gx [b] (mapS Try.prog 9 5 b (stF d.Files d.Wait x.1))))]) 4 (fun x => d.Wait.length - x.1) ⟨0, by omega, ⟨⟨hb1, fun j hj h => absurd h (by omega)⟩⟩⟩ ?_
    simp only [KPB, seval]
    refine ⟨?_, ?_⟩
    · (refine wk_a ?_; simp only [MAB, seval]; refine ⟨rfl, rfl, (by decide), ?_, ?_⟩; all_goals (first | (simp only [WKB, seval, stF_zero]; done) | (simp [WKB, seval, stF_zero]; done) | simp only [WKB, seval]))
    · rintro ⟨k, hk, hi⟩ K hR hE hT
      rcases Nat.lt_or_ge k d.Wait.length with hlt | hge
      case inr =>
        obtain rfl : k = d.Wait.length := by omega
        exact absurd hi.out ok
      case inl =>
        have hbk := okF_by hi.out hk
        have e := stF_succ (M := d.Files) hlt
        have hsk := stF_srt hs d.Wait k
        have hsn := stF_srt hs d.Wait (k + 1)
        have lk := stF_len d.Files d.Wait k
        have nx := fun h1 h2 h3 => okF_succ hi.out hlt h1 h2 h3
        obtain ⟨w1, w2, w3⟩ := z4 _ (List.getElem_mem hlt)
        rw [e] at hsn nx
        obtain ⟨M, hM⟩ : ∃ M, M = stF d.Files d.Wait k := ⟨_, rfl⟩
        obtain ⟨o, ho⟩ : ∃ o, o = d.Wait[k] := ⟨_, rfl⟩
        rw [← ho] at e w1 w2 w3 hsn nx
        rw [← hM] at e hsk hsn lk hbk nx
        simp only [← hM]
        have hmd : ∀ f ∈ M, f.Data.length ≤ 1048576 := fun f hf => by have := byF_ge hf; omega
        have hmk := byF_mk M o
        have k1 := implFsOpOk_k o w1 w2 w3
        have k2 := ffits_k b M o (by omega) w1
        cases o1 : opO o with
        | false =>
          rw [o1] at k1
          (have gx := And.intro (@List.length_map.{0,0}) (And.intro (@List.getElem_map.{0,0}) (And.intro (ho).symm @FsOpD.k.eq_1)); have q1 := k1; refine go ?_; (repeat' first | exact Ef.mk | apply Lf.mk | refine fun (K : KT) hK hE hT => ?_ | refine fun (KS : KE) hKS => ?_ | refine fun (D : KD) hD => ?_ | refine fun (hg : (_ : Prop)) => ?_ | fail); all_goals (first | (refine Wr.mk ?_; (try clear gx q1); repeat first | clear hK hE hT K | clear hR hE hT K) | assumption | skip))
          (refine post_a hres (.inl rfl) ?_; simp only [RSB, ENB, seval, tiAll, true_and]; simp only [MAB, seval]; refine ⟨rfl, rfl, ?_, ?_, ?_⟩ <;> (first | rfl | (simp [WKB, Nat.add_comm, true_and]; done) | (simp only [WKB, seval])))
        | true =>
          rw [o1] at k1
          cases o2 : fitsF M o with
          | false =>
            rw [o2] at k2
            (have gx := And.intro (@List.length_map.{0,0}) (And.intro (@List.getElem_map.{0,0}) (And.intro (ho).symm @FsOpD.k.eq_1)); have q1 := k1; refine go ?_; (repeat' first | exact Ef.mk | apply Lf.mk | refine fun (K : KT) hK hE hT => ?_ | refine fun (KS : KE) hKS => ?_ | refine fun (D : KD) hD => ?_ | refine fun (hg : (_ : Prop)) => ?_ | fail); all_goals (first | (refine Wr.mk ?_; (try clear gx q1); repeat first | clear hK hE hT K | clear hR hE hT K) | assumption | skip))
            refine call_k [.same 3, .ro 4 0 o.Data.length true] (k2) rfl rfl rfl (fits_of _ rfl (by simp [CXB]) (by simp [CXB]) rfl (by simp [CXB]) (by simp [CXB]) (by dsimp only; omega)) ?_
            simp only [EFB, seval]
            refine hKS _ _ _ _ ?_
            clear hKS; clear KS; simp only [EVB, seval]
            (have gx := @List.length_map.{0,0}; refine go ?_; (repeat' first | exact Ef.mk | apply Lf.mk | refine fun (K : KT) hK hE hT => ?_ | refine fun (KS : KE) hKS => ?_ | refine fun (D : KD) hD => ?_ | refine fun (hg : (_ : Prop)) => ?_ | fail); all_goals (first | (refine Wr.mk ?_; (try clear gx); repeat first | clear hK hE hT K | clear hR hE hT K) | assumption | skip))
            (refine post_a hres (.inl rfl) ?_; simp only [RSB, ENB, seval, tiAll, true_and]; simp only [MAB, seval]; refine ⟨rfl, rfl, ?_, ?_, ?_⟩ <;> (first | rfl | (simp [WKB, Nat.add_comm, true_and]; done) | (simp only [WKB, seval])))
          | true =>
            rw [o2] at k2
            have k3 := fdo_k b M o hsk (by omega) hmd (opO_kind o1) o2 w1 w2 w3
            have k4 := fsize_k b (mkF M o) hsn (by omega)
            rcases Int.lt_or_le d.Room (byF (mkF M o)) with o3 | o3
            · (have gx := And.intro (@List.length_map.{0,0}) (And.intro (@List.getElem_map.{0,0}) (And.intro (ho).symm @FsOpD.k.eq_1)); have q1 := k1; refine go ?_; (repeat' first | exact Ef.mk | apply Lf.mk | refine fun (K : KT) hK hE hT => ?_ | refine fun (KS : KE) hKS => ?_ | refine fun (D : KD) hD => ?_ | refine fun (hg : (_ : Prop)) => ?_ | fail); all_goals (first | (refine Wr.mk ?_; (try clear gx q1); repeat first | clear hK hE hT K | clear hR hE hT K) | assumption | skip))
              refine call_k [.same 3, .ro 4 0 o.Data.length true] (k2) rfl rfl rfl (fits_of _ rfl (by simp [CXB]) (by simp [CXB]) rfl (by simp [CXB]) (by simp [CXB]) (by dsimp only; omega)) ?_
              simp only [EFB, seval]
              refine hKS _ _ _ _ ?_
              clear hKS; clear KS; simp only [EVB, seval]
              (have gx := @List.length_map.{0,0}; refine go ?_; (repeat' first | exact Ef.mk | apply Lf.mk | refine fun (K : KT) hK hE hT => ?_ | refine fun (KS : KE) hKS => ?_ | refine fun (D : KD) hD => ?_ | refine fun (hg : (_ : Prop)) => ?_ | fail); all_goals (first | (refine Wr.mk ?_; (try clear gx); repeat first | clear hK hE hT K | clear hR hE hT K) | assumption | skip))
              refine call_k [.same 3, .ro 4 0 o.Data.length true] (k3) rfl rfl rfl (fits_of _ rfl (by simp [CXB]) (by simp [CXB]) rfl (by simp [CXB]) (by simp [CXB]) (by dsimp only; omega)) ?_
              simp only [EFB, seval]
              refine hKS _ _ _ _ ?_
              clear hKS; clear KS; simp only [EVB, seval]
              (have gx := @List.length_map.{0,0}; refine go ?_; (repeat' first | exact Ef.mk | apply Lf.mk | refine fun (K : KT) hK hE hT => ?_ | refine fun (KS : KE) hKS => ?_ | refine fun (D : KD) hD => ?_ | refine fun (hg : (_ : Prop)) => ?_ | fail); all_goals (first | (refine Wr.mk ?_; (try clear gx); repeat first | clear hK hE hT K | clear hR hE hT K) | assumption | skip))
              refine call_k [.same 3] (k4) rfl rfl rfl (fits_of _ rfl (by simp [CXB]) (by simp [CXB]) rfl (by simp [CXB]) (by simp [CXB]) (by dsimp only; omega)) ?_
              simp only [EFB, seval]
              refine hKS _ _ _ _ ?_
              clear hKS; clear KS; simp only [EVB, seval]
              (have gx := @List.length_map.{0,0}; refine go ?_; (repeat' first | exact Ef.mk | apply Lf.mk | refine fun (K : KT) hK hE hT => ?_ | refine fun (KS : KE) hKS => ?_ | refine fun (D : KD) hD => ?_ | refine fun (hg : (_ : Prop)) => ?_ | fail); all_goals (first | (refine Wr.mk ?_; (try clear gx); repeat first | clear hK hE hT K | clear hR hE hT K) | assumption | skip))
              (refine post_a hres (.inl rfl) ?_; simp only [RSB, ENB, seval, tiAll, true_and]; simp only [MAB, seval]; refine ⟨rfl, rfl, ?_, ?_, ?_⟩ <;> (first | rfl | (simp [WKB, Nat.add_comm, true_and]; done) | (simp only [WKB, seval])))
            · have nx := nx o1 o2 o3
              (have gx := And.intro (@List.length_map.{0,0}) (And.intro (@List.getElem_map.{0,0}) (And.intro (ho).symm @FsOpD.k.eq_1)); have q1 := k1; refine go ?_; (repeat' first | exact Ef.mk | apply Lf.mk | refine fun (K : KT) hK hE hT => ?_ | refine fun (KS : KE) hKS => ?_ | refine fun (D : KD) hD => ?_ | refine fun (hg : (_ : Prop)) => ?_ | fail); all_goals (first | (refine Wr.mk ?_; (try clear gx q1); repeat first | clear hK hE hT K | clear hR hE hT K) | assumption | skip))
              refine call_k [.same 3, .ro 4 0 o.Data.length true] (k2) rfl rfl rfl (fits_of _ rfl (by simp [CXB]) (by simp [CXB]) rfl (by simp [CXB]) (by simp [CXB]) (by dsimp only; omega)) ?_
              simp only [EFB, seval]
              refine hKS _ _ _ _ ?_
              clear hKS; clear KS; simp only [EVB, seval]
              (have gx := @List.length_map.{0,0}; refine go ?_; (repeat' first | exact Ef.mk | apply Lf.mk | refine fun (K : KT) hK hE hT => ?_ | refine fun (KS : KE) hKS => ?_ | refine fun (D : KD) hD => ?_ | refine fun (hg : (_ : Prop)) => ?_ | fail); all_goals (first | (refine Wr.mk ?_; (try clear gx); repeat first | clear hK hE hT K | clear hR hE hT K) | assumption | skip))
              refine call_k [.same 3, .ro 4 0 o.Data.length true] (k3) rfl rfl rfl (fits_of _ rfl (by simp [CXB]) (by simp [CXB]) rfl (by simp [CXB]) (by simp [CXB]) (by dsimp only; omega)) ?_
              simp only [EFB, seval]
              refine hKS _ _ _ _ ?_
              clear hKS; clear KS; simp only [EVB, seval]
              (have gx := @List.length_map.{0,0}; refine go ?_; (repeat' first | exact Ef.mk | apply Lf.mk | refine fun (K : KT) hK hE hT => ?_ | refine fun (KS : KE) hKS => ?_ | refine fun (D : KD) hD => ?_ | refine fun (hg : (_ : Prop)) => ?_ | fail); all_goals (first | (refine Wr.mk ?_; (try clear gx); repeat first | clear hK hE hT K | clear hR hE hT K) | assumption | skip))
              refine call_k [.same 3] (k4) rfl rfl rfl (fits_of _ rfl (by simp [CXB]) (by simp [CXB]) rfl (by simp [CXB]) (by simp [CXB]) (by dsimp only; omega)) ?_
              simp only [EFB, seval]
              refine hKS _ _ _ _ ?_
              clear hKS; clear KS; simp only [EVB, seval]
              (have gx := @List.length_map.{0,0}; refine go ?_; (repeat' first | exact Ef.mk | apply Lf.mk | refine fun (K : KT) hK hE hT => ?_ | refine fun (KS : KE) hKS => ?_ | refine fun (D : KD) hD => ?_ | refine fun (hg : (_ : Prop)) => ?_ | fail); all_goals (first | (refine Wr.mk ?_; (try clear gx); repeat first | clear hK hE hT K | clear hR hE hT K) | assumption | skip))
              (refine hR.out ⟨k + 1, by omega, ⟨nx⟩⟩ _ _ _ (by simp only; omega) ?_; (refine wk_a ?_; simp only [MAB, seval]; refine ⟨rfl, rfl, (by decide), ?_, ?_⟩; all_goals (first | (simp only [WKB, seval, e]; done) | (simp [WKB, seval, e]; done) | simp only [WKB, seval])))

end Go.Proofs.Ytfnhchcgieeedaa
