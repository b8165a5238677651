/-
  The program's files: an operation done. No conditions of its own.
-/
import Derived.Test.YtfnhchcgieeedaaGO
import Derived.Test.YtfnhchcgieeedaaDI4
namespace Go.Proofs.Ytfnhchcgieeedaa
set_option linter.unusedSimpArgs false
set_option linter.unusedVariables false
set_option linter.unusedSimpArgs false
set_option linter.unusedVariables false
set_option linter.defProp false
set_option maxRecDepth 20000
open Go.RowKit

set_option maxHeartbeats 2000000 in
theorem copyB_k (l : List UInt8) (h : l.length ≤ 1048576) : FnOK Try.prog 110 ⟨1, [(0, some (.ro (l.map bytK)))], [.c (.sl 0 1 0 l.length)], .c (.sl 1 1 0 l.length), [(1, some (.row 5 (l.map bytK)))], 2⟩ := by
  refine fnOK_of true mixed Try.func110 rfl (by rfl) (by rfl) ?_
  have hres := congrArg Array.toList Try.results110
  simp only [Try.ntmps110, BGB, seval]
  (have gx := And.intro @List.length_map.{0,0} @map_take; refine go ?_; (repeat' first | exact Ef.mk | apply Lf.mk | refine fun (K : KT) hK hE hT => ?_ | refine fun (KS : KE) hKS => ?_ | refine fun (D : KD) hD => ?_ | refine fun (hg : (_ : Prop)) => ?_ | fail); all_goals (first | (refine Wr.mk ?_; (try clear gx); repeat first | clear hK hE hT K | clear hR hE hT K) | assumption | skip))
  (refine post_a hres (.inl rfl) ?_; simp only [RSB, ENB, seval, tiAll, true_and]; simp only [MAB, seval]; refine ⟨rfl, rfl, ?_, ?_, ?_⟩ <;> (first | rfl | (simp [WKB, Nat.add_comm, true_and]; done) | (simp only [WKB, seval])))

theorem lkF_len {M : List FileD} {s q : List UInt8} (h : lkF M s = some q) (hd : ∀ f ∈ M, f.Data.length ≤ 1048576) : q.length ≤ 1048576 := by
  obtain ⟨f, h1, _, rfl⟩ := lkF_some h
  exact hd f h1

set_option maxHeartbeats 16000000 in
theorem fdo_k (b : Nat) (M : List FileD) (o : FsOpD) (hs : srtF M) (hm : M.length ≤ 1048576) (hmd : ∀ f ∈ M, f.Data.length ≤ 1048576) (hk : 1 ≤ o.Kind ∧ o.Kind ≤ 4) (hf : fitsF M o = true) (hn : o.Name.length ≤ 1048576) (ht : o.To.length ≤ 1048576) (hd : o.Data.length ≤ 1048576) :
    FnOK Try.prog 72 ⟨2, [(0, some (.gx [b] (mapS Try.prog 9 5 b M))), (1, some (.ro (o.Data.map bytK)))], [.c (.v (.map (some b))), .agg [.v (.int .i64 o.Kind), .v (.string (txt o.Name)), .v (.string (txt o.To)), .sl 1 1 0 (o.Data).length]], .tup [], [(0, some (.gx [b] (mapS Try.prog 9 5 b (mkF M o))))], 2⟩ := by
  have hlen : (lessF M o.Name).length ≤ 1048576 := Nat.le_trans (List.length_filter_le _ _) hm
  rcases (by omega : o.Kind = 1 ∨ o.Kind = 2 ∨ o.Kind = 3 ∨ o.Kind = 4) with h1 | h1 | h1 | h1
  · have e : mkF M o = withF M ⟨o.Name, []⟩ := by unfold mkF; rw [if_pos h1]
    rw [e]
    refine fnOK_of true mixed Try.func72 rfl (by rfl) (by rfl) ?_
    have hres := congrArg Array.toList Try.results72
    simp only [Try.ntmps72, BGB, seval]
    (have gx := @h1; refine go ?_; (repeat' first | exact Ef.mk | apply Lf.mk | refine fun (K : KT) hK hE hT => ?_ | refine fun (KS : KE) hKS => ?_ | refine fun (D : KD) hD => ?_ | refine fun (hg : (_ : Prop)) => ?_ | fail); all_goals (first | (refine Wr.mk ?_; (try clear gx); repeat first | clear hK hE hT K | clear hR hE hT K) | assumption | skip))
    refine upd_nil (f := 0) (M' := withF M ⟨o.Name, []⟩) msF rfl rfl rfl rfl (by decide) (isPut hs _ _) (by unfold maxLen; omega) (by unfold maxLen; omega) ?_
    refine hKS _ _ _ _ ?_
    clear hKS; clear KS; simp only [EVB, seval]
    (have gx := @h1; refine go ?_; (repeat' first | exact Ef.mk | apply Lf.mk | refine fun (K : KT) hK hE hT => ?_ | refine fun (KS : KE) hKS => ?_ | refine fun (D : KD) hD => ?_ | refine fun (hg : (_ : Prop)) => ?_ | fail); all_goals (first | (refine Wr.mk ?_; (try clear gx); repeat first | clear hK hE hT K | clear hR hE hT K) | assumption | skip))
    (refine post_a hres (by first | exact .inl rfl | exact .inr rfl) ?_; simp only [RSB, ENB, seval, tiAll, true_and]; simp only [MAB, seval]; refine ⟨rfl, rfl, ?_, ?_, ?_⟩ <;> (first | rfl | (simp [WKB, Nat.add_comm, true_and]; done) | (simp only [WKB, seval])))
  · obtain ⟨q, hq⟩ : ∃ q, lkF M o.Name = some q := by
      unfold fitsF at hf
      rw [if_neg (by omega), if_neg (by omega)] at hf
      exact Option.isSome_iff_exists.1 hf
    have e : mkF M o = withF M ⟨o.Name, q ++ o.Data⟩ := by unfold mkF; rw [if_neg (by omega), if_pos h1, hq]; rfl
    rw [e]
    have lq := lkF_len hq hmd
    have cb := copyB_k q lq
    have tD : List.take o.Data.length (List.map bytK o.Data) = List.map bytK o.Data := List.take_of_length_le (by rw [List.length_map]; exact Nat.le_refl _)
    refine fnOK_of true mixed Try.func72 rfl (by rfl) (by rfl) ?_
    have hres := congrArg Array.toList Try.results72
    simp only [Try.ntmps72, BGB, seval]
    (have gx := @h1; refine go ?_; (repeat' first | exact Ef.mk | apply Lf.mk | refine fun (K : KT) hK hE hT => ?_ | refine fun (KS : KE) hKS => ?_ | refine fun (D : KD) hD => ?_ | refine fun (hg : (_ : Prop)) => ?_ | fail); all_goals (first | (refine Wr.mk ?_; (try clear gx); repeat first | clear hK hE hT K | clear hR hE hT K) | assumption | skip))
    refine look_f (f := 0) msF rfl rfl rfl (by unfold maxLen; omega) hq ?_
    refine hKS _ _ _ _ ?_
    clear hKS; clear KS; simp only [EVB, seval]
    have hcat : List.map bytK q ++ List.map bytK o.Data = List.map bytK (q ++ o.Data) := (List.map_append ..).symm
    (have gx := And.intro (@h1) (And.intro (@tD) (And.intro @hcat @List.length_map.{0,0})); have q1 := cb; refine go ?_; (repeat' first | exact Ef.mk | apply Lf.mk | refine fun (K : KT) hK hE hT => ?_ | refine fun (KS : KE) hKS => ?_ | refine fun (D : KD) hD => ?_ | refine fun (hg : (_ : Prop)) => ?_ | fail); all_goals (first | (refine Wr.mk ?_; (try clear gx q1); repeat first | clear hK hE hT K | clear hR hE hT K) | assumption | skip))
    refine upd_row (f := 0) (M' := withF M ⟨o.Name, q ++ o.Data⟩) (q := q ++ o.Data) msF rfl rfl rfl rfl rfl (by rw [List.length_append]) (by decide) (by decide) (isPut hs _ _) (by unfold maxLen; omega) (by unfold maxLen; omega) ?_
    refine hKS _ _ _ _ ?_
    clear hKS; clear KS; simp only [EVB, seval]
    (have gx := @h1; refine go ?_; (repeat' first | exact Ef.mk | apply Lf.mk | refine fun (K : KT) hK hE hT => ?_ | refine fun (KS : KE) hKS => ?_ | refine fun (D : KD) hD => ?_ | refine fun (hg : (_ : Prop)) => ?_ | fail); all_goals (first | (refine Wr.mk ?_; (try clear gx); repeat first | clear hK hE hT K | clear hR hE hT K) | assumption | skip))
    (refine post_a hres (by first | exact .inl rfl | exact .inr rfl) ?_; simp only [RSB, ENB, seval, tiAll, true_and]; simp only [MAB, seval]; refine ⟨rfl, rfl, ?_, ?_, ?_⟩ <;> (first | rfl | (simp [WKB, Nat.add_comm, true_and]; done) | (simp only [WKB, seval])))
  · obtain ⟨q, hq⟩ : ∃ q, lkF M o.Name = some q := by
      unfold fitsF at hf
      rw [if_neg (by omega), if_pos h1, Bool.and_eq_true] at hf
      exact Option.isSome_iff_exists.1 hf.1
    have e : mkF M o = withF (lessF M o.Name) ⟨o.To, q⟩ := by unfold mkF; rw [if_neg (by omega), if_neg (by omega), if_pos h1, hq]; rfl
    rw [e]
    have lq := lkF_len hq hmd
    refine fnOK_of true mixed Try.func72 rfl (by rfl) (by rfl) ?_
    have hres := congrArg Array.toList Try.results72
    simp only [Try.ntmps72, BGB, seval]
    (have gx := @h1; refine go ?_; (repeat' first | exact Ef.mk | apply Lf.mk | refine fun (K : KT) hK hE hT => ?_ | refine fun (KS : KE) hKS => ?_ | refine fun (D : KD) hD => ?_ | refine fun (hg : (_ : Prop)) => ?_ | fail); all_goals (first | (refine Wr.mk ?_; (try clear gx); repeat first | clear hK hE hT K | clear hR hE hT K) | assumption | skip))
    refine look_f (f := 0) msF rfl rfl rfl (by unfold maxLen; omega) hq ?_
    refine hKS _ _ _ _ ?_
    clear hKS; clear KS; simp only [EVB, seval]
    (have gx := @h1; refine go ?_; (repeat' first | exact Ef.mk | apply Lf.mk | refine fun (K : KT) hK hE hT => ?_ | refine fun (KS : KE) hKS => ?_ | refine fun (D : KD) hD => ?_ | refine fun (hg : (_ : Prop)) => ?_ | fail); all_goals (first | (refine Wr.mk ?_; (try clear gx); repeat first | clear hK hE hT K | clear hR hE hT K) | assumption | skip))
    refine del_s (f := 0) (M' := lessF M o.Name) msF rfl rfl rfl (by decide) (isDel hs _) (by unfold maxLen; omega) ?_
    refine hKS _ _ _ _ ?_
    clear hKS; clear KS; simp only [EVB, seval]
    (have gx := @h1; refine go ?_; (repeat' first | exact Ef.mk | apply Lf.mk | refine fun (K : KT) hK hE hT => ?_ | refine fun (KS : KE) hKS => ?_ | refine fun (D : KD) hD => ?_ | refine fun (hg : (_ : Prop)) => ?_ | fail); all_goals (first | (refine Wr.mk ?_; (try clear gx); repeat first | clear hK hE hT K | clear hR hE hT K) | assumption | skip))
    refine upd_ro (f := 0) (M' := withF (lessF M o.Name) ⟨o.To, q⟩) (q := q) msF rfl rfl rfl rfl rfl (by simp [List.take_of_length_le]) (by simp) (by decide) (isPut (lessF_srt hs _) _ _) (by unfold maxLen; omega) (by unfold maxLen; omega) ?_
    refine hKS _ _ _ _ ?_
    clear hKS; clear KS; simp only [EVB, seval]
    (have gx := @h1; refine go ?_; (repeat' first | exact Ef.mk | apply Lf.mk | refine fun (K : KT) hK hE hT => ?_ | refine fun (KS : KE) hKS => ?_ | refine fun (D : KD) hD => ?_ | refine fun (hg : (_ : Prop)) => ?_ | fail); all_goals (first | (refine Wr.mk ?_; (try clear gx); repeat first | clear hK hE hT K | clear hR hE hT K) | assumption | skip))
    (refine post_a hres (by first | exact .inl rfl | exact .inr rfl) ?_; simp only [RSB, ENB, seval, tiAll, true_and]; simp only [MAB, seval]; refine ⟨rfl, rfl, ?_, ?_, ?_⟩ <;> (first | rfl | (simp [WKB, Nat.add_comm, true_and]; done) | (simp only [WKB, seval])))
  · have e : mkF M o = lessF M o.Name := by unfold mkF; rw [if_neg (by omega), if_neg (by omega), if_neg (by omega)]
    rw [e]
    refine fnOK_of true mixed Try.func72 rfl (by rfl) (by rfl) ?_
    have hres := congrArg Array.toList Try.results72
    simp only [Try.ntmps72, BGB, seval]
    (have gx := @h1; refine go ?_; (repeat' first | exact Ef.mk | apply Lf.mk | refine fun (K : KT) hK hE hT => ?_ | refine fun (KS : KE) hKS => ?_ | refine fun (D : KD) hD => ?_ | refine fun (hg : (_ : Prop)) => ?_ | fail); all_goals (first | (refine Wr.mk ?_; (try clear gx); repeat first | clear hK hE hT K | clear hR hE hT K) | assumption | skip))
    refine del_s (f := 0) (M' := lessF M o.Name) msF rfl rfl rfl (by decide) (isDel hs _) (by unfold maxLen; omega) ?_
    refine hKS _ _ _ _ ?_
    clear hKS; clear KS; simp only [EVB, seval]
    (have gx := @h1; refine go ?_; (repeat' first | exact Ef.mk | apply Lf.mk | refine fun (K : KT) hK hE hT => ?_ | refine fun (KS : KE) hKS => ?_ | refine fun (D : KD) hD => ?_ | refine fun (hg : (_ : Prop)) => ?_ | fail); all_goals (first | (refine Wr.mk ?_; (try clear gx); repeat first | clear hK hE hT K | clear hR hE hT K) | assumption | skip))
    (refine post_a hres (by first | exact .inl rfl | exact .inr rfl) ?_; simp only [RSB, ENB, seval, tiAll, true_and]; simp only [MAB, seval]; refine ⟨rfl, rfl, ?_, ?_, ?_⟩ <;> (first | rfl | (simp [WKB, Nat.add_comm, true_and]; done) | (simp only [WKB, seval])))

end Go.Proofs.Ytfnhchcgieeedaa
