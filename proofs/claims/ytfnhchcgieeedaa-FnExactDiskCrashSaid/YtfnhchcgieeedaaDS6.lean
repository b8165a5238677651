/-
  The reference makes a disk durable; its disk behind a power failure. No conditions of its own.
-/
import Derived.Test.YtfnhchcgieeedaaGO
import Derived.Test.YtfnhchcgieeedaaDS5
namespace Go.Proofs.Ytfnhchcgieeedaa
set_option linter.unusedSimpArgs false
set_option linter.unusedVariables false
set_option linter.unusedSimpArgs false
set_option linter.unusedVariables false
set_option linter.defProp false
set_option maxRecDepth 20000
open Go.RowKit

set_option maxHeartbeats 8000000 in
theorem l02Copy_k (d : DiskD) (h : (d.Files).length ≤ 1048576 ∧ (d.Wait).length ≤ 1048576 ∧ (∀ s ∈ d.Files, s.Data.length ≤ 1048576) ∧ (∀ s ∈ d.Wait, s.Data.length ≤ 1048576)) : FnOK Try.prog 75 ⟨2, [(0, some (.ro ((d.Files).map (FileD.k 5)))), (1, some (.ro ((d.Wait).map (FsOpD.k 5))))], [.agg [.v (.int .i64 d.Room), .v (.int .i64 d.Fuse), .sl 0 2 0 (d.Files).length, .sl 1 4 0 (d.Wait).length]], .agg [.v (.int .i64 d.Room), .v (.int .i64 d.Fuse), .sl 2 2 0 (d.Files).length, .sl 3 4 0 (d.Wait).length], [(2, some (.nst 95 ((d.Files).map (FileD.k 5)) none)), (3, some (.nst 66 ((d.Wait).map (FsOpD.k 5)) none))], 4⟩ := by
  obtain ⟨h1, h2, h3, h4⟩ := h
  have cl := l02Files_k d.Files h1 h3
  refine fnOK_of true mixed Try.func75 rfl (by rfl) (by rfl) ?_
  have hres := congrArg Array.toList Try.results75
  simp only [Try.ntmps75, BGB, seval]
  (have gx := @List.length_map.{0,0}; have q1 := cl; refine go ?_; (repeat' first | exact Ef.mk | apply Lf.mk | refine fun (K : KT) hK hE hT => ?_ | refine fun (KS : KE) hKS => ?_ | refine fun (D : KD) hD => ?_ | refine fun (hg : (_ : Prop)) => ?_ | fail); all_goals (first | (refine Wr.mk ?_; (try clear gx q1); repeat first | clear hK hE hT K | clear hR hE hT K) | assumption | skip))
  refine loop_v (X := {k : Nat // k ≤ d.Wait.length}) [10] (fun x => [(14, .c (.v (.int .i64 ((x.1 : Nat) : Int)))), (3, .c (.sl 5 4 0 (d.Wait.take x.1).length))]) (fun x => [(0, some (.ro ((d.Files).map (FileD.k 5)))), (1, some (.ro ((d.Wait).map (FsOpD.k 5)))), (4, some (.nst 95 (d.Files.map (FileD.k 5)) none)), (2, some (.box 50 [.v (.int .i64 d.Room), .v (.int .i64 d.Fuse), .sl 4 2 0 d.Files.length, .sl 1 4 0 d.Wait.length])), (3, some (.box 50 [.v (.int .i64 0), .v (.int .i64 0), .nil, .nil])), (5, some (.nst 66 ((d.Wait.take x.1).map (FsOpD.k 5)) none))]) 6 (fun x => d.Wait.length - x.1) ⟨0, by omega⟩ ?_
  simp only [KPB, seval]
  refine ⟨?_, ?_⟩
  · (refine wk_a ?_; simp only [MAB, seval]; refine ⟨rfl, rfl, (by decide), ?_, ?_⟩; all_goals (first | (simp only [WKB, seval, List.take_zero]; done) | (simp [WKB, seval, List.take_zero]; done) | simp only [WKB, seval]))
  · rintro ⟨k, hk⟩ K hR hE hT
    have l1 : (d.Wait.take k).length = k := by rw [List.length_take]; omega
    rcases Nat.lt_or_ge k d.Wait.length with hlt | hge
    case inr =>
      obtain rfl : k = d.Wait.length := by omega
      simp only [List.take_length]
      (have gx := @List.length_map.{0,0}; refine go ?_; (repeat' first | exact Ef.mk | apply Lf.mk | refine fun (K : KT) hK hE hT => ?_ | refine fun (KS : KE) hKS => ?_ | refine fun (D : KD) hD => ?_ | refine fun (hg : (_ : Prop)) => ?_ | fail); all_goals (first | (refine Wr.mk ?_; (try clear gx); repeat first | clear hK hE hT K | clear hR hE hT K) | assumption | skip))
      (refine post_a hres (.inl rfl) ?_; simp only [RSB, ENB, seval, tiAll, true_and]; simp only [MAB, seval]; refine ⟨rfl, rfl, ?_, ?_, ?_⟩ <;> (first | rfl | (simp [WKB, Nat.add_comm, true_and]; done) | (simp only [WKB, seval])))
    case inl =>
      have e : (d.Wait.take (k + 1)).map (FsOpD.k 5) = (d.Wait.take k).map (FsOpD.k 5) ++ [FsOpD.k 5 d.Wait[k]] := by rw [List.take_succ_eq_append_getElem hlt, List.map_append]; rfl
      have l2 : (d.Wait.take (k + 1)).length = k + 1 := by rw [List.length_take]; omega
      have hdk := h4 _ (List.getElem_mem hlt)
      obtain ⟨o, ho⟩ : ∃ o, o = d.Wait[k] := ⟨_, rfl⟩
      rw [← ho] at e hdk
      have tO : List.take o.Data.length (List.map bytK o.Data) = List.map bytK o.Data := List.take_of_length_le (by rw [List.length_map]; exact Nat.le_refl _)
      (have gx := And.intro (@List.length_map.{0,0}) (And.intro (@List.getElem_map.{0,0}) (And.intro ((ho).symm) (And.intro (@FsOpD.k.eq_1) (And.intro (@l1) (And.intro @tO @List.nil_append.{0}))))); refine go ?_; (repeat' first | exact Ef.mk | apply Lf.mk | refine fun (K : KT) hK hE hT => ?_ | refine fun (KS : KE) hKS => ?_ | refine fun (D : KD) hD => ?_ | refine fun (hg : (_ : Prop)) => ?_ | fail); all_goals (first | (refine Wr.mk ?_; (try clear gx); repeat first | clear hK hE hT K | clear hR hE hT K) | assumption | skip))
      (refine hR.out ⟨k + 1, by omega⟩ _ _ _ (by simp only; omega) ?_; (refine wk_a ?_; simp only [MAB, seval]; refine ⟨rfl, rfl, (by decide), ?_, ?_⟩; all_goals (first | (simp only [WKB, seval, e, FsOpD.k, l1, l2, tO]; done) | (simp [WKB, seval, e, FsOpD.k, l1, l2, tO]; done) | simp only [WKB, seval])))

set_option maxHeartbeats 8000000 in
theorem specDiskSync_k (d : DiskD) (hz : szD d) : FnOK Try.prog 29 ⟨2, [(0, some (.ro ((d.Files).map (FileD.k 5)))), (1, some (.ro ((d.Wait).map (FsOpD.k 5))))], [.agg [.v (.int .i64 d.Room), .v (.int .i64 d.Fuse), .sl 0 2 0 (d.Files).length, .sl 1 4 0 (d.Wait).length]], .tup [.inr [.v (.int .i64 (syR d).Room), .v (.int .i64 (syR d).Fuse), .sl 2 2 0 ((syR d).Files).length, .sl 3 4 0 ((syR d).Wait).length], .inl (.v (.int .i64 (syC d)))], [(2, some (.mix 95 (((syR d).Files).map (FileD.k 5)))), (3, some (.nst 66 (((syR d).Wait).map (FsOpD.k 5)) none))], 4⟩ := by
  have cd := specDiskOk_k d hz
  have cc := l02Copy_k d (szD_L hz)
  have cs := specSeen_k d hz
  by_cases hp : diskP d
  · rw [diskO_y hp] at cd
    rw [seenR_y hp] at cs
    have p1 := hp.1
    unfold hdD at p1
    by_cases hf : d.Fuse = 0
    · rw [syR_z hp hf, syC_z hp hf]
      refine fnOK_of true mixed Try.func29 rfl (by rfl) (by rfl) ?_
      have hres := congrArg Array.toList Try.results29
      simp only [Try.ntmps29, BGB, seval]
      (have gx := And.intro @List.length_map.{0,0} @hf; have q1 := cd; have q2 := cc; refine go ?_; (repeat' first | exact Ef.mk | apply Lf.mk | refine fun (K : KT) hK hE hT => ?_ | refine fun (KS : KE) hKS => ?_ | refine fun (D : KD) hD => ?_ | refine fun (hg : (_ : Prop)) => ?_ | fail); all_goals (first | (refine Wr.mk ?_; (try clear gx q1 q2); repeat first | clear hK hE hT K | clear hR hE hT K) | assumption | skip))
      refine post_w (wk_nm (g := 4) rfl) ?_
      simp only [EVB, seval]
      (refine post_a hres (.inl rfl) ?_; simp only [RSB, ENB, seval, tiAll, hf]; simp only [MAB, seval]; refine ⟨rfl, rfl, ?_, ?_, ?_⟩ <;> (first | rfl | (simp [WKB, Nat.add_comm, hf]; done) | (simp only [WKB, seval])))
    · rw [syR_y hp hf, syC_y hp hf]
      dsimp only
      obtain ⟨M, hM⟩ : ∃ M, M = seenF d := ⟨_, rfl⟩
      rw [← hM] at cs ⊢
      rcases Int.lt_or_le 0 d.Fuse with h0 | h0
      · have e : brn d.Fuse = d.Fuse - 1 := by unfold brn; rw [if_pos h0]
        rw [e]
        refine fnOK_of true mixed Try.func29 rfl (by rfl) (by rfl) ?_
        have hres := congrArg Array.toList Try.results29
        simp only [Try.ntmps29, BGB, seval]
        (have gx := @List.length_map.{0,0}; have q1 := cd; have q2 := cs; refine go ?_; (repeat' first | exact Ef.mk | apply Lf.mk | refine fun (K : KT) hK hE hT => ?_ | refine fun (KS : KE) hKS => ?_ | refine fun (D : KD) hD => ?_ | refine fun (hg : (_ : Prop)) => ?_ | fail); all_goals (first | (refine Wr.mk ?_; (try clear gx q1 q2); repeat first | clear hK hE hT K | clear hR hE hT K) | assumption | skip))
        (refine post_a hres (.inl rfl) ?_; simp only [RSB, ENB, seval, tiAll, List.map_nil]; simp only [MAB, seval]; refine ⟨rfl, rfl, ?_, ?_, ?_⟩ <;> (first | rfl | (simp [WKB, Nat.add_comm, List.map_nil]; done) | (simp only [WKB, seval])))
      · have e : brn d.Fuse = d.Fuse := by unfold brn; rw [if_neg (by omega)]
        rw [e]
        refine fnOK_of true mixed Try.func29 rfl (by rfl) (by rfl) ?_
        have hres := congrArg Array.toList Try.results29
        simp only [Try.ntmps29, BGB, seval]
        (have gx := @List.length_map.{0,0}; have q1 := cd; have q2 := cs; refine go ?_; (repeat' first | exact Ef.mk | apply Lf.mk | refine fun (K : KT) hK hE hT => ?_ | refine fun (KS : KE) hKS => ?_ | refine fun (D : KD) hD => ?_ | refine fun (hg : (_ : Prop)) => ?_ | fail); all_goals (first | (refine Wr.mk ?_; (try clear gx q1 q2); repeat first | clear hK hE hT K | clear hR hE hT K) | assumption | skip))
        (refine post_a hres (.inl rfl) ?_; simp only [RSB, ENB, seval, tiAll, List.map_nil]; simp only [MAB, seval]; refine ⟨rfl, rfl, ?_, ?_, ?_⟩ <;> (first | rfl | (simp [WKB, Nat.add_comm, List.map_nil]; done) | (simp only [WKB, seval])))
  · rw [diskO_n hp] at cd
    rw [syR_n hp, syC_n hp]
    refine fnOK_of true mixed Try.func29 rfl (by rfl) (by rfl) ?_
    have hres := congrArg Array.toList Try.results29
    simp only [Try.ntmps29, BGB, seval]
    (have gx := @List.length_map.{0,0}; have q1 := cd; refine go ?_; (repeat' first | exact Ef.mk | apply Lf.mk | refine fun (K : KT) hK hE hT => ?_ | refine fun (KS : KE) hKS => ?_ | refine fun (D : KD) hD => ?_ | refine fun (hg : (_ : Prop)) => ?_ | fail); all_goals (first | (refine Wr.mk ?_; (try clear gx q1); repeat first | clear hK hE hT K | clear hR hE hT K) | assumption | skip))
    (refine post_a hres (.inl rfl) ?_; simp only [RSB, ENB, seval, tiAll, dk0, List.map_nil]; simp only [MAB, seval]; refine ⟨rfl, rfl, ?_, ?_, ?_⟩ <;> (first | rfl | (simp [WKB, Nat.add_comm, dk0, List.map_nil]; done) | (simp only [WKB, seval])))

set_option maxHeartbeats 16000000 in
theorem specDiskCrash_k (d : DiskD) (n b : Int) (hz : szD d) : FnOK Try.prog 26 ⟨2, [(0, some (.ro ((d.Files).map (FileD.k 5)))), (1, some (.ro ((d.Wait).map (FsOpD.k 5))))], [.agg [.v (.int .i64 d.Room), .v (.int .i64 d.Fuse), .sl 0 2 0 (d.Files).length, .sl 1 4 0 (d.Wait).length], .c (.v (.int .i64 n)), .c (.v (.int .i64 b))], .tup [.inr [.v (.int .i64 (crR d n b).Room), .v (.int .i64 (crR d n b).Fuse), .sl 2 2 0 ((crR d n b).Files).length, .sl 3 4 0 ((crR d n b).Wait).length], .inl (.v (.bool (diskO d)))], [(2, some (.mix 95 (((crR d n b).Files).map (FileD.k 5)))), (3, some (.nst 66 (((crR d n b).Wait).map (FsOpD.k 5)) none))], 4⟩ := by
  have cd := specDiskOk_k d hz
  obtain ⟨z1, z2, z3, z4⟩ := id hz
  by_cases hp : diskP d
  · obtain ⟨p1, p2, p3, p4⟩ := id hp
    rw [diskO_y hp] at cd ⊢
    rw [crR_y hp]
    dsimp only
    unfold hdD at p1
    have ck := sclamp_k n d.Wait.length
    have hkl := clF_le n d.Wait.length
    have cs := l02Seen_k d (clF n d.Wait.length) hz hp hkl
    have hend := @crF_end d n b
    have hno := @crF_no d n b
    have hpt := @crF_pt d n b
    obtain ⟨R, hR0⟩ : ∃ R, R = crF d n b := ⟨_, rfl⟩
    rw [← hR0] at hend hno hpt ⊢
    obtain ⟨m, hm⟩ : ∃ m, m = clF n d.Wait.length := ⟨_, rfl⟩
    rw [← hm] at ck hkl hend cs
    simp only [← hm] at hno hpt
    obtain ⟨q1, q2, q3⟩ := okF_reach (by omega) (by omega) (okF_mono p4 hkl) hkl
    rcases Nat.lt_or_ge m d.Wait.length with hlt | hge
    · obtain ⟨o1, o2, o3⟩ := p4.2 m hlt hlt
      have hno := hno hlt
      have hpt := hpt hlt
      obtain ⟨M, hM⟩ : ∃ M, M = stF d.Files d.Wait m := ⟨_, rfl⟩
      obtain ⟨o, ho⟩ : ∃ o, o = d.Wait[m] := ⟨_, rfl⟩
      rw [← ho] at o1 o2 hno hpt
      rw [← hM] at o2 q1 q2 q3 hno hpt cs
      by_cases h2 : o.Kind = 2
      · have hpt := hpt h2
        have hDl := opO_data o1
        have cc := sclamp_k b o.Data.length
        have hcl := clF_le b o.Data.length
        have eD : (ptO o b).Data = o.Data.take (clF b o.Data.length) := rfl
        have k3 := l02Make_b M (ptO o b) (by omega) q3 (by rw [eD, List.length_take]; omega) (by show 1 ≤ o.Kind ∧ o.Kind ≤ 4; exact opO_kind o1) o2
        obtain ⟨c, hc⟩ : ∃ c, c = clF b o.Data.length := ⟨_, rfl⟩
        rw [← hc] at cc hcl eD
        have lD : (ptO o b).Data.length = c := by rw [eD, List.length_take]; omega
        have mD : (ptO o b).Data.map bytK = (o.Data.map bytK).take c := by rw [eD, List.map_take]
        have kD : (ptO o b).Kind = 2 := h2
        have kN : (ptO o b).Name = o.Name := rfl
        have kT : (ptO o b).To = o.To := rfl
        rw [← hpt, lD, mD, kD, kN, kT] at k3
        refine fnOK_of true mixed Try.func26 rfl (by rfl) (by rfl) ?_
        have hres := congrArg Array.toList Try.results26
        simp only [Try.ntmps26, BGB, seval]
        (have gx := And.intro (@List.length_map.{0,0}) (And.intro (@List.getElem_map.{0,0}) (And.intro ((ho).symm) (And.intro (@FsOpD.k.eq_1) (And.intro (@h2) (And.intro (@lit_n) (And.intro @Option.toArray_none.{0} @Option.toArray_some.{0})))))); have q1 := cd; have q2 := ck; have q3 := cs; have q4 := cc; have q5 := k3; refine go ?_; (repeat' first | exact Ef.mk | apply Lf.mk | refine fun (K : KT) hK hE hT => ?_ | refine fun (KS : KE) hKS => ?_ | refine fun (D : KD) hD => ?_ | refine fun (hg : (_ : Prop)) => ?_ | fail); all_goals (first | (refine Wr.mk ?_; (try clear gx q1 q2 q3 q4 q5); repeat first | clear hK hE hT K | clear hR hE hT K) | assumption | skip))
        (refine post_a hres (.inl rfl) ?_; simp only [RSB, ENB, seval, tiAll, List.map_nil]; simp only [MAB, seval]; refine ⟨rfl, rfl, ?_, ?_, ?_⟩ <;> (first | rfl | (simp [WKB, Nat.add_comm, List.map_nil]; done) | (simp only [WKB, seval])))
      · have hno := hno h2
        rw [← hno] at cs
        refine fnOK_of true mixed Try.func26 rfl (by rfl) (by rfl) ?_
        have hres := congrArg Array.toList Try.results26
        simp only [Try.ntmps26, BGB, seval]
        (have gx := And.intro (@List.length_map.{0,0}) (And.intro (@List.getElem_map.{0,0}) (And.intro (ho).symm @FsOpD.k.eq_1)); have q1 := cd; have q2 := ck; have q3 := cs; refine go ?_; (repeat' first | exact Ef.mk | apply Lf.mk | refine fun (K : KT) hK hE hT => ?_ | refine fun (KS : KE) hKS => ?_ | refine fun (D : KD) hD => ?_ | refine fun (hg : (_ : Prop)) => ?_ | fail); all_goals (first | (refine Wr.mk ?_; (try clear gx q1 q2 q3); repeat first | clear hK hE hT K | clear hR hE hT K) | assumption | skip))
        (refine post_a hres (.inl rfl) ?_; simp only [RSB, ENB, seval, tiAll, List.map_nil]; simp only [MAB, seval]; refine ⟨rfl, rfl, ?_, ?_, ?_⟩ <;> (first | rfl | (simp [WKB, Nat.add_comm, List.map_nil]; done) | (simp only [WKB, seval])))
    · have hend := hend (by omega)
      rw [← hend] at cs
      refine fnOK_of true mixed Try.func26 rfl (by rfl) (by rfl) ?_
      have hres := congrArg Array.toList Try.results26
      simp only [Try.ntmps26, BGB, seval]
      (have gx := @List.length_map.{0,0}; have q1 := cd; have q2 := ck; have q3 := cs; refine go ?_; (repeat' first | exact Ef.mk | apply Lf.mk | refine fun (K : KT) hK hE hT => ?_ | refine fun (KS : KE) hKS => ?_ | refine fun (D : KD) hD => ?_ | refine fun (hg : (_ : Prop)) => ?_ | fail); all_goals (first | (refine Wr.mk ?_; (try clear gx q1 q2 q3); repeat first | clear hK hE hT K | clear hR hE hT K) | assumption | skip))
      (refine post_a hres (.inl rfl) ?_; simp only [RSB, ENB, seval, tiAll, List.map_nil]; simp only [MAB, seval]; refine ⟨rfl, rfl, ?_, ?_, ?_⟩ <;> (first | rfl | (simp [WKB, Nat.add_comm, List.map_nil]; done) | (simp only [WKB, seval])))
  · rw [diskO_n hp] at cd ⊢
    rw [crR_n hp]
    refine fnOK_of true mixed Try.func26 rfl (by rfl) (by rfl) ?_
    have hres := congrArg Array.toList Try.results26
    simp only [Try.ntmps26, BGB, seval]
    (have gx := @List.length_map.{0,0}; have q1 := cd; refine go ?_; (repeat' first | exact Ef.mk | apply Lf.mk | refine fun (K : KT) hK hE hT => ?_ | refine fun (KS : KE) hKS => ?_ | refine fun (D : KD) hD => ?_ | refine fun (hg : (_ : Prop)) => ?_ | fail); all_goals (first | (refine Wr.mk ?_; (try clear gx q1); repeat first | clear hK hE hT K | clear hR hE hT K) | assumption | skip))
    (refine post_a hres (.inl rfl) ?_; simp only [RSB, ENB, seval, tiAll, dk0, List.map_nil]; simp only [MAB, seval]; refine ⟨rfl, rfl, ?_, ?_, ?_⟩ <;> (first | rfl | (simp [WKB, Nat.add_comm, dk0, List.map_nil]; done) | (simp only [WKB, seval])))

end Go.Proofs.Ytfnhchcgieeedaa
