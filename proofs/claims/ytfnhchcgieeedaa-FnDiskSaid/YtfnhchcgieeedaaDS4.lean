/-
  The reference asks for a disk. No conditions of its own.
-/
import Derived.Test.YtfnhchcgieeedaaGO
import Derived.Test.YtfnhchcgieeedaaDS3
import Derived.Test.YtfnhchcgieeedaaDI13
namespace Go.Proofs.Ytfnhchcgieeedaa
set_option linter.unusedSimpArgs false
set_option linter.unusedVariables false
set_option linter.unusedSimpArgs false
set_option linter.unusedVariables false
set_option linter.defProp false
set_option maxRecDepth 20000
open Go.RowKit
attribute [local irreducible] lexD

theorem opO_data {o : FsOpD} (h : opO o = true) : o.Data.length ≤ 200000 := by
  have hk := opO_kind h
  rcases (by omega : o.Kind = 1 ∨ o.Kind = 2 ∨ o.Kind = 3 ∨ o.Kind = 4) with h1 | h1 | h1 | h1
  · rw [opO_c (.inl h1)] at h; simp only [Bool.and_eq_true, decide_eq_true_eq] at h; omega
  · rw [opO_a h1] at h; simp only [Bool.and_eq_true, decide_eq_true_eq] at h; exact h.2.2
  · rw [opO_r h1] at h; simp only [Bool.and_eq_true, decide_eq_true_eq] at h; omega
  · rw [opO_c (.inr h1)] at h; simp only [Bool.and_eq_true, decide_eq_true_eq] at h; omega
/-- A list in reach. -/
theorem okF_reach {room : Int} {M : List FileD} {l : List FsOpD} {k : Nat} (hr : room ≤ 200000) (hM : M.length ≤ 12) (h : okF room M l k) (hk : k ≤ l.length) : (stF M l k).length ≤ 12 + k ∧ byF (stF M l k) ≤ 200000 ∧ ∀ f ∈ stF M l k, f.Data.length ≤ 524288 := by
  have hb := okF_by h hk
  have hl := stF_len M l k
  refine ⟨by omega, by omega, fun f hf => ?_⟩
  have := byF_ge hf
  omega

set_option maxHeartbeats 16000000 in
theorem specDiskOk_k (d : DiskD) (hz : szD d) : FnOK Try.prog 56 ⟨2, [(0, some (.ro ((d.Files).map (FileD.k 5)))), (1, some (.ro ((d.Wait).map (FsOpD.k 5))))], [.agg [.v (.int .i64 d.Room), .v (.int .i64 d.Fuse), .sl 0 2 0 (d.Files).length, .sl 1 4 0 (d.Wait).length]], .c (.v (.bool (diskO d))), [], 2⟩ := by
  obtain ⟨z1, z2, z3, z4⟩ := id hz
  have hby := byF_max fun f h => (z3 f h).2
  have cb := l02Bytes_k d.Files (by omega) (by omega)
  by_cases hh : hdD d ∧ (byF d.Files : Int) ≤ d.Room
  case neg =>
    rw [diskO_n fun h => hh ⟨h.1, h.2.2.2.1⟩]
    unfold hdD at hh
    obtain ⟨y, hy⟩ : ∃ y, y = byF d.Files := ⟨_, rfl⟩
    rw [← hy] at cb hh
    refine fnOK_of true mixed Try.func56 rfl (by rfl) (by rfl) ?_
    have hres := congrArg Array.toList Try.results56
    simp only [Try.ntmps56, BGB, seval]
    (have gx := @List.length_map.{0,0}; have q1 := cb; refine go ?_; (repeat' first | exact Ef.mk | apply Lf.mk | refine fun (K : KT) hK hE hT => ?_ | refine fun (KS : KE) hKS => ?_ | refine fun (D : KD) hD => ?_ | refine fun (hg : (_ : Prop)) => ?_ | fail); all_goals (first | (refine Wr.mk ?_; (try clear gx q1); repeat first | clear hK hE hT K | clear hR hE hT K) | assumption | skip))
    all_goals (refine post_a hres (.inl rfl) ?_; simp only [RSB, ENB, seval, tiAll, true_and]; simp only [MAB, seval]; refine ⟨rfl, rfl, ?_, ?_, ?_⟩ <;> (first | rfl | (simp [WKB, Nat.add_comm, true_and]; done) | (simp only [WKB, seval])))
  case pos =>
    obtain ⟨hh1, hh2⟩ := id hh
    have hh' := hh1
    unfold hdD at hh'
    refine fnOK_of true mixed Try.func56 rfl (by rfl) (by rfl) ?_
    have hres := congrArg Array.toList Try.results56
    simp only [Try.ntmps56, BGB, seval]
    (have gx := @List.length_map.{0,0}; have q1 := cb; refine go ?_; (repeat' first | exact Ef.mk | apply Lf.mk | refine fun (K : KT) hK hE hT => ?_ | refine fun (KS : KE) hKS => ?_ | refine fun (D : KD) hD => ?_ | refine fun (hg : (_ : Prop)) => ?_ | fail); all_goals (first | (refine Wr.mk ?_; (try clear gx q1); repeat first | clear hK hE hT K | clear hR hE hT K) | assumption | skip))
    refine loop_v (X := {k : Nat // k ≤ d.Files.length ∧ Rnd (nmF d.Files k)}) [] (fun x => [(49, .c (.v (.int .i64 ((x.1 : Nat) : Int))))]) (fun x => [(0, some (.ro ((d.Files).map (FileD.k 5)))), (1, some (.ro ((d.Wait).map (FsOpD.k 5)))), (2, some (.box 50 [.v (.int .i64 d.Room), .v (.int .i64 d.Fuse), .sl 0 2 0 (d.Files).length, .sl 1 4 0 (d.Wait).length]))]) 3 (fun x => d.Files.length - x.1) ⟨0, by omega, ⟨nmF_zero _⟩⟩ ?_
    simp only [KPB, seval]
    refine ⟨?_, ?_⟩
    · (refine wk_a ?_; simp only [MAB, seval]; refine ⟨rfl, rfl, (by decide), ?_, ?_⟩; all_goals (first | (simp only [WKB, seval, true_and]; done) | (simp [WKB, seval, true_and]; done) | simp only [WKB, seval]))
    · rintro ⟨k, hk, hi⟩ K hR hE hT
      rcases Nat.lt_or_ge k d.Files.length with hlt | hge
      case inr =>
        obtain rfl : k = d.Files.length := by omega
        obtain ⟨n1, n2⟩ := nmF_srt hi.out
        (have gx := @List.length_map.{0,0}; refine go ?_; (repeat' first | exact Ef.mk | apply Lf.mk | refine fun (K : KT) hK hE hT => ?_ | refine fun (KS : KE) hKS => ?_ | refine fun (D : KD) hD => ?_ | refine fun (hg : (_ : Prop)) => ?_ | fail); all_goals (first | (refine Wr.mk ?_; (try clear gx); repeat first | clear hK hE hT K | clear hR hE hT K) | assumption | skip))
        refine loop_v (X := {k : Nat // k ≤ d.Wait.length ∧ Rnd (okF d.Room d.Files d.Wait k)}) [] (fun x => [(80, .c (.v (.int .i64 ((x.1 : Nat) : Int)))), (5, .c (.sl 3 2 0 (stF d.Files d.Wait x.1).length))]) (fun x => [(0, some (.ro ((d.Files).map (FileD.k 5)))), (1, some (.ro ((d.Wait).map (FsOpD.k 5)))), (2, some (.box 50 [.v (.int .i64 d.Room), .v (.int .i64 d.Fuse), .sl 0 2 0 (d.Files).length, .sl 1 4 0 (d.Wait).length])), (3, some (.ro ((stF d.Files d.Wait x.1).map (FileD.k 5))))]) 4 (fun x => d.Wait.length - x.1) ⟨0, by omega, ⟨⟨hh2, fun j hj h0 => absurd h0 (by omega)⟩⟩⟩ ?_
        simp only [KPB, seval]
        refine ⟨?_, ?_⟩
        · refine Wk.trans (wk_alias (g := 0) (t := 5) rfl rfl) ?_
          simp only [EVB, seval]
          (refine wk_a ?_; simp only [MAB, seval]; refine ⟨rfl, rfl, (by decide), ?_, ?_⟩; all_goals (first | (simp only [WKB, seval, stF_zero]; done) | (simp [WKB, seval, stF_zero]; done) | simp only [WKB, seval]))
        · rintro ⟨k, hk, hi⟩ K hR hE hT
          rcases Nat.lt_or_ge k d.Wait.length with hlt | hge
          case inr =>
            obtain rfl : k = d.Wait.length := by omega
            have e : diskO d = true := diskO_y ⟨hh1, n1, n2, hi.out⟩
            (have gx := @List.length_map.{0,0}; refine go ?_; (repeat' first | exact Ef.mk | apply Lf.mk | refine fun (K : KT) hK hE hT => ?_ | refine fun (KS : KE) hKS => ?_ | refine fun (D : KD) hD => ?_ | refine fun (hg : (_ : Prop)) => ?_ | fail); all_goals (first | (refine Wr.mk ?_; (try clear gx); repeat first | clear hK hE hT K | clear hR hE hT K) | assumption | skip))
            (refine post_a hres (.inl rfl) ?_; simp only [RSB, ENB, seval, tiAll, e]; simp only [MAB, seval]; refine ⟨rfl, rfl, ?_, ?_, ?_⟩ <;> (first | rfl | (simp [WKB, Nat.add_comm, e]; done) | (simp only [WKB, seval])))
          case inl =>
            obtain ⟨q1, q2, q3⟩ := okF_reach (by omega) (by omega) hi.out (Nat.le_of_lt hlt)
            have es := stF_succ (M := d.Files) hlt
            have hno : ∀ {P : Prop}, (diskP d → ¬ P) → P → diskO d = false := fun h p => diskO_n fun hd => h hd p
            have hok : diskP d → opO d.Wait[k] = true ∧ fitsF (stF d.Files d.Wait k) d.Wait[k] = true ∧ (byF (stF d.Files d.Wait (k + 1)) : Int) ≤ d.Room := fun hd => hd.2.2.2.2 k hlt hlt
            have hnx := okF_succ hi.out hlt
            obtain ⟨w1, w2, w3⟩ := z4 _ (List.getElem_mem hlt)
            obtain ⟨M, hM⟩ : ∃ M, M = stF d.Files d.Wait k := ⟨_, rfl⟩
            obtain ⟨o, ho⟩ : ∃ o, o = d.Wait[k] := ⟨_, rfl⟩
            rw [es] at hok hnx
            rw [← ho] at w1 w2 w3 es hok hnx
            rw [← hM] at q1 q2 q3 es hok hnx
            simp only [← hM]
            have k1 := specFsOpOk_k o w1 w2 w3
            cases o1 : opO o with
            | false =>
              rw [o1] at k1
              have e : diskO d = false := diskO_n fun hd => by have := (hok hd).1; rw [o1] at this; cases this
              (have gx := And.intro (@List.length_map.{0,0}) (And.intro (@List.getElem_map.{0,0}) (And.intro (ho).symm @FsOpD.k.eq_1)); have q1 := k1; refine go ?_; (repeat' first | exact Ef.mk | apply Lf.mk | refine fun (K : KT) hK hE hT => ?_ | refine fun (KS : KE) hKS => ?_ | refine fun (D : KD) hD => ?_ | refine fun (hg : (_ : Prop)) => ?_ | fail); all_goals (first | (refine Wr.mk ?_; (try clear gx q1); repeat first | clear hK hE hT K | clear hR hE hT K) | assumption | skip))
              (refine post_a hres (.inl rfl) ?_; simp only [RSB, ENB, seval, tiAll, e]; simp only [MAB, seval]; refine ⟨rfl, rfl, ?_, ?_, ?_⟩ <;> (first | rfl | (simp [WKB, Nat.add_comm, e]; done) | (simp only [WKB, seval])))
            | true =>
              rw [o1] at k1
              have hD := opO_data o1
              have k2 := l02Fits_k M o (by omega)
              cases o2 : fitsF M o with
              | false =>
                rw [o2] at k2
                have e : diskO d = false := diskO_n fun hd => by have := (hok hd).2.1; rw [o2] at this; cases this
                (have gx := And.intro (@List.length_map.{0,0}) (And.intro (@List.getElem_map.{0,0}) (And.intro (ho).symm @FsOpD.k.eq_1)); have q1 := k1; have q2 := k2; refine go ?_; (repeat' first | exact Ef.mk | apply Lf.mk | refine fun (K : KT) hK hE hT => ?_ | refine fun (KS : KE) hKS => ?_ | refine fun (D : KD) hD => ?_ | refine fun (hg : (_ : Prop)) => ?_ | fail); all_goals (first | (refine Wr.mk ?_; (try clear gx q1 q2); repeat first | clear hK hE hT K | clear hR hE hT K) | assumption | skip))
                (refine post_a hres (.inl rfl) ?_; simp only [RSB, ENB, seval, tiAll, e]; simp only [MAB, seval]; refine ⟨rfl, rfl, ?_, ?_, ?_⟩ <;> (first | rfl | (simp [WKB, Nat.add_comm, e]; done) | (simp only [WKB, seval])))
              | true =>
                rw [o2] at k2
                have k3 := l02Make_k M o (by omega) q3 (by omega) (opO_kind o1) o2
                have hml := mkF_len M o
                have hmb := byF_mk M o
                have k4 := l02Bytes_k (mkF M o) (by omega) (by omega)
                obtain ⟨R, hRR⟩ : ∃ R, R = mkF M o := ⟨_, rfl⟩
                rw [← hRR] at k3 k4 hml hmb es hok hnx
                obtain ⟨y, hy⟩ : ∃ y, y = byF R := ⟨_, rfl⟩
                rw [← hy] at k4 hmb hok hnx
                by_cases o3 : (y : Int) ≤ d.Room
                · have hnx := hnx o1 o2 o3
                  (have gx := And.intro (@List.length_map.{0,0}) (And.intro (@List.getElem_map.{0,0}) (And.intro (ho).symm @FsOpD.k.eq_1)); have q1 := k1; have q2 := k2; have q3 := k3; have q4 := k4; refine go ?_; (repeat' first | exact Ef.mk | apply Lf.mk | refine fun (K : KT) hK hE hT => ?_ | refine fun (KS : KE) hKS => ?_ | refine fun (D : KD) hD => ?_ | refine fun (hg : (_ : Prop)) => ?_ | fail); all_goals (first | (refine Wr.mk ?_; (try clear gx q1 q2 q3 q4); repeat first | clear hK hE hT K | clear hR hE hT K) | assumption | skip))
                  refine hR.out ⟨k + 1, by omega, ⟨hnx⟩⟩ _ _ _ (by simp only; omega) ?_
                  refine Wk.trans (wk_freezeG (g := 6) rfl (.inr (.inr ⟨_, rfl⟩)) (by decide)) ?_
                  simp only [EVB, seval]
                  (refine wk_a ?_; simp only [MAB, seval]; refine ⟨rfl, rfl, (by decide), ?_, ?_⟩; all_goals (first | (simp only [WKB, seval, es]; done) | (simp [WKB, seval, es]; done) | simp only [WKB, seval]))
                · have e : diskO d = false := diskO_n fun hd => o3 (hok hd).2.2
                  (have gx := And.intro (@List.length_map.{0,0}) (And.intro (@List.getElem_map.{0,0}) (And.intro (ho).symm @FsOpD.k.eq_1)); have q1 := k1; have q2 := k2; have q3 := k3; have q4 := k4; refine go ?_; (repeat' first | exact Ef.mk | apply Lf.mk | refine fun (K : KT) hK hE hT => ?_ | refine fun (KS : KE) hKS => ?_ | refine fun (D : KD) hD => ?_ | refine fun (hg : (_ : Prop)) => ?_ | fail); all_goals (first | (refine Wr.mk ?_; (try clear gx q1 q2 q3 q4); repeat first | clear hK hE hT K | clear hR hE hT K) | assumption | skip))
                  (refine post_a hres (.inl rfl) ?_; simp only [RSB, ENB, seval, tiAll, e]; simp only [MAB, seval]; refine ⟨rfl, rfl, ?_, ?_, ?_⟩ <;> (first | rfl | (simp [WKB, Nat.add_comm, e]; done) | (simp only [WKB, seval])))
      case inl =>
        obtain ⟨w1, w2⟩ := z3 _ (List.getElem_mem hlt)
        obtain ⟨f, hf⟩ : ∃ f, f = d.Files[k] := ⟨_, rfl⟩
        have c1 := specNameOk_k f.Name (by rw [hf]; exact w1)
        rcases Nat.eq_zero_or_pos k with h0 | h0
        · subst h0
          (have gx := And.intro (@List.length_map.{0,0}) (And.intro (@List.getElem_map.{0,0}) (And.intro (hf).symm @FileD.k.eq_1)); have q1 := c1; refine go ?_; (repeat' first | exact Ef.mk | apply Lf.mk | refine fun (K : KT) hK hE hT => ?_ | refine fun (KS : KE) hKS => ?_ | refine fun (D : KD) hD => ?_ | refine fun (hg : (_ : Prop)) => ?_ | fail); all_goals (first | (refine Wr.mk ?_; (try clear gx q1); repeat first | clear hK hE hT K | clear hR hE hT K) | assumption | skip))
          all_goals first
            | (refine hR.out ⟨0 + 1, by omega, ⟨nmF_succ hi.out hlt (by rw [← hf]; assumption) (fun h => absurd h (by omega))⟩⟩ _ _ _ (by simp only; omega) ?_
               (refine wk_a ?_; simp only [MAB, seval]; refine ⟨rfl, rfl, (by decide), ?_, ?_⟩; all_goals (first | (simp only [WKB, seval, true_and]; done) | (simp [WKB, seval, true_and]; done) | simp only [WKB, seval])))
            | (have e : diskO d = false := diskO_n fun h => by
                 have := h.2.1 f (by rw [hf]; exact List.getElem_mem hlt)
                 simp_all
               (refine post_a hres (.inl rfl) ?_; simp only [RSB, ENB, seval, tiAll, e]; simp only [MAB, seval]; refine ⟨rfl, rfl, ?_, ?_, ?_⟩ <;> (first | rfl | (simp [WKB, Nat.add_comm, e]; done) | (simp only [WKB, seval]))))
        · have hk1 : ((k : Int) - 1).toNat = k - 1 := by omega
          obtain ⟨g, hgg⟩ : ∃ g, g = d.Files[k - 1]'(by omega) := ⟨_, rfl⟩
          (have gx := And.intro (@List.length_map.{0,0}) (And.intro (@List.getElem_map.{0,0}) (And.intro ((hf).symm) (And.intro (@hk1) (And.intro ((hgg).symm) (And.intro @FileD.k.eq_1 @txt_list))))); have q1 := c1; refine go ?_; (repeat' first | exact Ef.mk | apply Lf.mk | refine fun (K : KT) hK hE hT => ?_ | refine fun (KS : KE) hKS => ?_ | refine fun (D : KD) hD => ?_ | refine fun (hg : (_ : Prop)) => ?_ | fail); all_goals (first | (refine Wr.mk ?_; (try clear gx q1); repeat first | clear hK hE hT K | clear hR hE hT K) | assumption | skip))
          all_goals first
            | (refine hR.out ⟨k + 1, by omega, ⟨nmF_succ hi.out hlt (by rw [← hf]; assumption) (fun h => by rw [← hf, ← hgg]; unfold bl; assumption)⟩⟩ _ _ _ (by simp only; omega) ?_
               (refine wk_a ?_; simp only [MAB, seval]; refine ⟨rfl, rfl, (by decide), ?_, ?_⟩; all_goals (first | (simp only [WKB, seval, true_and]; done) | (simp [WKB, seval, true_and]; done) | simp only [WKB, seval])))
            | (have e : diskO d = false := diskO_n fun h => by
                 have h2 := nmF_of h.2.1 h.2.2.1 (k + 1) k hlt (by omega)
                 rw [← hf, ← hgg] at h2
                 unfold bl at h2
                 simp_all
               (refine post_a hres (.inl rfl) ?_; simp only [RSB, ENB, seval, tiAll, e]; simp only [MAB, seval]; refine ⟨rfl, rfl, ?_, ?_, ?_⟩ <;> (first | rfl | (simp [WKB, Nat.add_comm, e]; done) | (simp only [WKB, seval]))))

end Go.Proofs.Ytfnhchcgieeedaa
