/-
  The program asks for a disk. No conditions of its own.
-/
import Derived.Test.YtfnhchcgieeedaaGO
import Derived.Test.YtfnhchcgieeedaaDI7
namespace Go.Proofs.Ytfnhchcgieeedaa
set_option linter.unusedSimpArgs false
set_option linter.unusedVariables false
set_option linter.unusedSimpArgs false
set_option linter.unusedVariables false
set_option linter.defProp false
set_option maxRecDepth 20000
open Go.RowKit

theorem diskO_y {d : DiskD} (h : diskP d) : diskO d = true := by unfold diskO; exact @decide_eq_true _ (Classical.propDecidable _) h
theorem diskO_n {d : DiskD} (h : ¬ diskP d) : diskO d = false := by unfold diskO; exact @decide_eq_false _ (Classical.propDecidable _) h
/-- The names ahead of place k are names, each behind the one ahead. -/
def nmF (l : List FileD) (k : Nat) : Prop := ∀ i (h : i < l.length), i < k → nameO l[i].Name = true ∧ (0 < i → bl (l[i - 1]'(by omega)).Name l[i].Name = true)
theorem nmF_zero (l : List FileD) : nmF l 0 := fun i h h0 => absurd h0 (by omega)
theorem nmF_succ {l : List FileD} {k : Nat} (h : nmF l k) (hk : k < l.length) (h1 : nameO l[k].Name = true) (h2 : 0 < k → bl (l[k - 1]'(by omega)).Name l[k].Name = true) : nmF l (k + 1) := fun i hi hik => by
  by_cases e : i = k
  · subst e; exact ⟨h1, h2⟩
  · exact h i hi (by omega)
theorem nmF_srt {l : List FileD} (h : nmF l l.length) : (∀ f ∈ l, nameO f.Name = true) ∧ srtF l := by
  refine ⟨fun f hf => ?_, ?_⟩
  · obtain ⟨i, hi, rfl⟩ := List.mem_iff_getElem.1 hf
    exact (h i hi hi).1
  · have key : ∀ (n i : Nat) (hj : i + n + 1 < l.length), bl (l[i]'(by omega)).Name l[i + n + 1].Name = true := by
      intro n
      induction n with
      | zero =>
        intro i hj
        have := (h (i + 1) hj hj).2 (by omega)
        simpa using this
      | succ n ih =>
        intro i hj
        have h1 := ih i (by omega)
        have h2 := (h (i + n + 1 + 1) (by omega) (by omega)).2 (by omega)
        simp only [Nat.add_sub_cancel] at h2
        exact bl_trans h1 h2
    unfold srtF
    rw [List.pairwise_iff_getElem]
    intro i j hi hj hij
    have := key (j - i - 1) i (by omega)
    have e : i + (j - i - 1) + 1 = j := by omega
    simp only [e] at this
    exact this
theorem nmF_of {l : List FileD} (h1 : ∀ f ∈ l, nameO f.Name = true) (h2 : srtF l) (k : Nat) : nmF l k := fun i hi _ => by
  refine ⟨h1 _ (List.getElem_mem hi), fun h0 => ?_⟩
  unfold srtF at h2
  rw [List.pairwise_iff_getElem] at h2
  exact h2 (i - 1) i (by omega) hi (by omega)

theorem byF_max : ∀ {M : List FileD}, (∀ f ∈ M, f.Data.length ≤ 1048576) → byF M ≤ M.length * 1048576
  | [], _ => Nat.le_refl _
  | f :: M, h => by
    have h1 := byF_max (M := M) fun g hg => h g (by simp [hg])
    have h2 := h f (by simp)
    simp only [byF, List.length_cons]
    omega

set_option maxHeartbeats 16000000 in
theorem implDiskOk_k (d : DiskD) (hz : szD d) : FnOK Try.prog 35 ⟨2, [(0, some (.ro ((d.Files).map (FileD.k 5)))), (1, some (.ro ((d.Wait).map (FsOpD.k 5))))], [.agg [.v (.int .i64 d.Room), .v (.int .i64 d.Fuse), .sl 0 2 0 (d.Files).length, .sl 1 4 0 (d.Wait).length]], .c (.v (.bool (diskO d))), [], 2⟩ := by
  obtain ⟨z1, z2, z3, z4⟩ := id hz
  by_cases hh : hdD d
  case neg =>
    rw [diskO_n fun h => hh h.1]
    unfold hdD at hh
    refine fnOK_of true mixed Try.func35 rfl (by rfl) (by rfl) ?_
    have hres := congrArg Array.toList Try.results35
    simp only [Try.ntmps35, BGB, seval]
    (have gx := @List.length_map.{0,0}; refine go ?_; (repeat' first | exact Ef.mk | apply Lf.mk | refine fun (K : KT) hK hE hT => ?_ | refine fun (KS : KE) hKS => ?_ | refine fun (D : KD) hD => ?_ | refine fun (hg : (_ : Prop)) => ?_ | fail); all_goals (first | (refine Wr.mk ?_; (try clear gx); repeat first | clear hK hE hT K | clear hR hE hT K) | assumption | skip))
    all_goals (refine post_a hres (.inl rfl) ?_; simp only [RSB, ENB, seval, tiAll, true_and]; simp only [MAB, seval]; refine ⟨rfl, rfl, ?_, ?_, ?_⟩ <;> (first | rfl | (simp [WKB, Nat.add_comm, true_and]; done) | (simp only [WKB, seval])))
  case pos =>
    have hh' := hh
    unfold hdD at hh'
    refine fnOK_of true mixed Try.func35 rfl (by rfl) (by rfl) ?_
    have hres := congrArg Array.toList Try.results35
    simp only [Try.ntmps35, BGB, seval]
    (have gx := @List.length_map.{0,0}; refine go ?_; (repeat' first | exact Ef.mk | apply Lf.mk | refine fun (K : KT) hK hE hT => ?_ | refine fun (KS : KE) hKS => ?_ | refine fun (D : KD) hD => ?_ | refine fun (hg : (_ : Prop)) => ?_ | fail); all_goals (first | (refine Wr.mk ?_; (try clear gx); repeat first | clear hK hE hT K | clear hR hE hT K) | assumption | skip))
    refine loop_v (X := {k : Nat // k ≤ d.Files.length ∧ Rnd (nmF d.Files k)}) [] (fun x => [(40, .c (.v (.int .i64 ((x.1 : Nat) : Int))))]) (fun x => [(0, some (.ro ((d.Files).map (FileD.k 5)))), (1, some (.ro ((d.Wait).map (FsOpD.k 5)))), (2, some (.box 50 [.v (.int .i64 d.Room), .v (.int .i64 d.Fuse), .sl 0 2 0 (d.Files).length, .sl 1 4 0 (d.Wait).length]))]) 3 (fun x => d.Files.length - x.1) ⟨0, by omega, ⟨nmF_zero _⟩⟩ ?_
    simp only [KPB, seval]
    refine ⟨?_, ?_⟩
    · (refine wk_a ?_; simp only [MAB, seval]; refine ⟨rfl, rfl, (by decide), ?_, ?_⟩; all_goals (first | (simp only [WKB, seval, true_and]; done) | (simp [WKB, seval, true_and]; done) | simp only [WKB, seval]))
    · rintro ⟨k, hk, hi⟩ K hR hE hT
      rcases Nat.lt_or_ge k d.Files.length with hlt | hge
      case inr =>
        obtain rfl : k = d.Files.length := by omega
        obtain ⟨n1, n2⟩ := nmF_srt hi.out
        by_cases ok : okF d.Room d.Files d.Wait d.Wait.length
        · have cs := seenOf_y d hz n2 (by omega) (by omega) (by omega) ok
          have e : diskO d = true := diskO_y ⟨hh, n1, n2, ok⟩
          repeat' ((fail_if_success with_reducible refine hand_k (id := 9) ?_); (first | (with_reducible first | refine seq_k fun K hK hE hT => ?_ | refine block_k fun K hK hE hT => ?_ | refine lex_nil ?_ | fail) | ((with_reducible refine region_k ?_); simp only [dstsOf, EVB, seval]) | ((with_reducible refine draw_k ?_ fun D hD => ?_); (focus (first | rfl | kernel_rfl)); simp only [dstsOf, EVB, seval]) | ((with_reducible first | refine lex_move ?_ | refine lex_assign ?_); simp only [EVB, seval]) | (with_reducible first | refine lex_cons fun KS hKS => ?_ | refine lexd_cons fun KS hKS => ?_ | refine skip_k ?_ | refine exit_k ?_ | refine ret_k ?_ | fail) | ((with_reducible refine call_go ?_); fail) | ((with_reducible refine step_go ?_); (fail_if_success with_reducible refine call_go ?_); simp only [ENB, seval, tiAll, List.length_map]) | ((with_reducible refine lexd_nil ?_ ?_); (focus (refine hD _ ?_; first | kernel_rfl | with_unfolding_all rfl)); clear hD; clear D) | ((with_reducible refine guard_go ?_); refine lex_gone rfl rfl ?_; simp only [EVB, seval]) | ((with_reducible refine guardd_go ?_); refine lexd_gone rfl rfl ?_; simp only [EVB, seval]) | ((first | ((with_reducible refine guard_go ?_); refine lex_guard rfl rfl (fun hg KS hKS => ?_) (fun hg => ?_)) | ((with_reducible refine guardd_go ?_); refine lexd_guard rfl rfl (fun hg KS hKS => ?_) (fun hg => ?_)) | ((with_reducible refine cond_go ?_); refine cond_k rfl (fun hg => ?_) (fun hg => ?_)) | (with_reducible refine And.intro (fun hg => ?_) (fun hg => ?_)) | fail) <;> first | ((with_reducible exfalso); exact absurd hg (by decide)) | ((try simp only [CNL] at hg) <;> first | ((with_reducible exfalso); omega) | ((with_reducible exfalso); first | exact tf (by assumption) hg | exact tf hg (by assumption)) | ((try with_reducible (have hT0 : True := hg; clear hT0 hg)); first | (with_reducible refine wpc_go ?_) | (try simp only [EVB, seval])))) | ((with_reducible refine hKS _ _ _ _ ?_); clear hKS; clear KS; simp only [EVB, seval]) | ((with_reducible refine And.intro ?_ ?_); focus (first | omega | exact u8_le _ | exact flat_intK _ | exact flat_bytK _ | (fail) | decide | (simp only [List.length_map]; done))) | ((with_reducible refine ex_p ?_ (fun hh => ?_)); focus (first | omega | (simp only [List.length_map]; omega))) | ((with_reducible refine hK _ _ _ ?_); clear hK hE hT; clear K) | ((with_reducible first | refine hE _ _ _ _ ?_ | refine hT _ _ _ ?_ | fail); (first | (clear hK hE hT; clear K) | (clear hR hE hT; clear K) | skip); try simp only [IFB, seval]) | ((with_reducible apply_assumption -symm -exfalso); try simp only [IFB, seval]) | fail))
          refine region_k ?_
          simp only [dstsOf, EVB, seval]
          repeat' (first | (refine lex_fam [Vw.ro 0 0 d.Files.length true, Vw.ro 1 0 d.Wait.length true] cs rfl 0 rfl ?_ ?_) | (first | (with_reducible first | refine seq_k fun K hK hE hT => ?_ | refine block_k fun K hK hE hT => ?_ | refine lex_nil ?_ | fail) | ((with_reducible refine region_k ?_); simp only [dstsOf, EVB, seval]) | ((with_reducible refine draw_k ?_ fun D hD => ?_); (focus (first | rfl | kernel_rfl)); simp only [dstsOf, EVB, seval]) | ((with_reducible first | refine lex_move ?_ | refine lex_assign ?_); simp only [EVB, seval]) | (with_reducible first | refine lex_cons fun KS hKS => ?_ | refine lexd_cons fun KS hKS => ?_ | refine skip_k ?_ | refine exit_k ?_ | refine ret_k ?_ | fail) | ((with_reducible refine call_go ?_); fail) | ((with_reducible refine step_go ?_); (fail_if_success with_reducible refine call_go ?_); simp only [ENB, seval, tiAll, List.length_map]) | ((with_reducible refine lexd_nil ?_ ?_); (focus (refine hD _ ?_; first | kernel_rfl | with_unfolding_all rfl)); clear hD; clear D) | ((with_reducible refine guard_go ?_); refine lex_gone rfl rfl ?_; simp only [EVB, seval]) | ((with_reducible refine guardd_go ?_); refine lexd_gone rfl rfl ?_; simp only [EVB, seval]) | ((first | ((with_reducible refine guard_go ?_); refine lex_guard rfl rfl (fun hg KS hKS => ?_) (fun hg => ?_)) | ((with_reducible refine guardd_go ?_); refine lexd_guard rfl rfl (fun hg KS hKS => ?_) (fun hg => ?_)) | ((with_reducible refine cond_go ?_); refine cond_k rfl (fun hg => ?_) (fun hg => ?_)) | (with_reducible refine And.intro (fun hg => ?_) (fun hg => ?_)) | fail) <;> first | ((with_reducible exfalso); exact absurd hg (by decide)) | ((try simp only [CNL] at hg) <;> first | ((with_reducible exfalso); omega) | ((with_reducible exfalso); first | exact tf (by assumption) hg | exact tf hg (by assumption)) | ((try with_reducible (have hT0 : True := hg; clear hT0 hg)); first | (with_reducible refine wpc_go ?_) | (try simp only [EVB, seval])))) | ((with_reducible refine hKS _ _ _ _ ?_); clear hKS; clear KS; simp only [EVB, seval]) | ((with_reducible refine And.intro ?_ ?_); focus (first | omega | exact u8_le _ | exact flat_intK _ | exact flat_bytK _ | (fail) | decide | (simp only [List.length_map]; done))) | ((with_reducible refine ex_p ?_ (fun hh => ?_)); focus (first | omega | (simp only [List.length_map]; omega))) | ((with_reducible refine hK _ _ _ ?_); clear hK hE hT; clear K) | ((with_reducible first | refine hE _ _ _ _ ?_ | refine hT _ _ _ ?_ | fail); (first | (clear hK hE hT; clear K) | (clear hR hE hT; clear K) | skip); try simp only [IFB, seval]) | ((with_reducible apply_assumption -symm -exfalso); try simp only [IFB, seval]) | fail))
          · exact fun i => fits_of _ rfl (by simp [CXB]) (by simp [CXB]) rfl (by simp [CXB]) (by simp [CXB]) (by dsimp only; omega)
          intro b
          simp only [EFB, seval]
          simp only [EVB, seval]
          (have gx := @List.length_map.{0,0}; refine go ?_; (repeat' first | exact Ef.mk | apply Lf.mk | refine fun (K : KT) hK hE hT => ?_ | refine fun (KS : KE) hKS => ?_ | refine fun (D : KD) hD => ?_ | refine fun (hg : (_ : Prop)) => ?_ | fail); all_goals (first | (refine Wr.mk ?_; (try clear gx); repeat first | clear hK hE hT K | clear hR hE hT K) | assumption | skip))
          (refine post_a hres (.inl rfl) ?_; simp only [RSB, ENB, seval, tiAll, e]; simp only [MAB, seval]; refine ⟨rfl, rfl, ?_, ?_, ?_⟩ <;> (first | rfl | (simp [WKB, Nat.add_comm, e]; done) | (simp only [WKB, seval])))
        · have cn := seenOf_n d hz n2 (by omega) (by omega) (by omega) ok (by have := byF_max (fun f h => (z3 f h).2); omega)
          have e : diskO d = false := diskO_n fun h => ok h.2.2.2
          (have gx := @List.length_map.{0,0}; have q1 := cn; refine go ?_; (repeat' first | exact Ef.mk | apply Lf.mk | refine fun (K : KT) hK hE hT => ?_ | refine fun (KS : KE) hKS => ?_ | refine fun (D : KD) hD => ?_ | refine fun (hg : (_ : Prop)) => ?_ | fail); all_goals (first | (refine Wr.mk ?_; (try clear gx q1); repeat first | clear hK hE hT K | clear hR hE hT K) | assumption | skip))
          (refine post_a hres (.inl rfl) ?_; simp only [RSB, ENB, seval, tiAll, e]; simp only [MAB, seval]; refine ⟨rfl, rfl, ?_, ?_, ?_⟩ <;> (first | rfl | (simp [WKB, Nat.add_comm, e]; done) | (simp only [WKB, seval])))
      case inl =>
        obtain ⟨w1, w2⟩ := z3 _ (List.getElem_mem hlt)
        obtain ⟨f, hf⟩ : ∃ f, f = d.Files[k] := ⟨_, rfl⟩
        have c1 := implNameOk_k f.Name (by rw [hf]; exact w1)
        rcases Nat.eq_zero_or_pos k with h0 | h0
        · subst h0
          (have gx := And.intro (@List.length_map.{0,0}) (And.intro (@List.getElem_map.{0,0}) (And.intro (hf).symm @FileD.k.eq_1)); have q1 := c1; refine go ?_; (repeat' first | exact Ef.mk | apply Lf.mk | refine fun (K : KT) hK hE hT => ?_ | refine fun (KS : KE) hKS => ?_ | refine fun (D : KD) hD => ?_ | refine fun (hg : (_ : Prop)) => ?_ | fail); all_goals (first | (refine Wr.mk ?_; (try clear gx q1); repeat first | clear hK hE hT K | clear hR hE hT K) | assumption | skip))
          all_goals first
            | (refine hR.out ⟨0 + 1, by omega, ⟨nmF_succ hi.out hlt (by rw [← hf]; assumption) (fun h => absurd h (by omega))⟩⟩ _ _ _ (by simp only; omega) ?_
               (refine wk_a ?_; simp only [MAB, seval]; refine ⟨rfl, rfl, (by decide), ?_, ?_⟩; all_goals (first | (simp only [WKB, seval, true_and]; done) | (simp [WKB, seval, true_and]; done) | simp only [WKB, seval])))
            | (have e : diskO d = false := diskO_n fun h => by
                 have := h.2.1 f (by rw [hf]; exact List.getElem_mem hlt)
                 simp_all
               (refine post_a hres (.inl rfl) ?_; simp only [RSB, ENB, seval, tiAll, e]; simp only [MAB, seval]; refine ⟨rfl, rfl, ?_, ?_, ?_⟩ <;> (first | rfl | (simp [WKB, Nat.add_comm, e]; done) | (simp only [WKB, seval]))))
        · have hk1 : ((k : Int) - 1).toNat = k - 1 := by omega
          obtain ⟨g, hgg⟩ : ∃ g, g = d.Files[k - 1]'(by omega) := ⟨_, rfl⟩
          (have gx := And.intro (@List.length_map.{0,0}) (And.intro (@List.getElem_map.{0,0}) (And.intro ((hf).symm) (And.intro (@hk1) (And.intro ((hgg).symm) (And.intro @FileD.k.eq_1 @txt_list))))); have q1 := c1; refine go ?_; (repeat' first | exact Ef.mk | apply Lf.mk | refine fun (K : KT) hK hE hT => ?_ | refine fun (KS : KE) hKS => ?_ | refine fun (D : KD) hD => ?_ | refine fun (hg : (_ : Prop)) => ?_ | fail); all_goals (first | (refine Wr.mk ?_; (try clear gx q1); repeat first | clear hK hE hT K | clear hR hE hT K) | assumption | skip))
          all_goals first
            | (refine hR.out ⟨k + 1, by omega, ⟨nmF_succ hi.out hlt (by rw [← hf]; assumption) (fun h => by rw [← hf, ← hgg]; unfold bl; assumption)⟩⟩ _ _ _ (by simp only; omega) ?_
               (refine wk_a ?_; simp only [MAB, seval]; refine ⟨rfl, rfl, (by decide), ?_, ?_⟩; all_goals (first | (simp only [WKB, seval, true_and]; done) | (simp [WKB, seval, true_and]; done) | simp only [WKB, seval])))
            | (have e : diskO d = false := diskO_n fun h => by
                 have h2 := nmF_of h.2.1 h.2.2.1 (k + 1) k hlt (by omega)
                 rw [← hf, ← hgg] at h2
                 unfold bl at h2
                 simp_all
               (refine post_a hres (.inl rfl) ?_; simp only [RSB, ENB, seval, tiAll, e]; simp only [MAB, seval]; refine ⟨rfl, rfl, ?_, ?_, ?_⟩ <;> (first | rfl | (simp [WKB, Nat.add_comm, e]; done) | (simp only [WKB, seval]))))

end Go.Proofs.Ytfnhchcgieeedaa
