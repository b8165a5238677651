/-
  The engine, texts DS5 DS6 in one. No conditions of its own.
-/
import Derived.Test.YtfnhchcgieeedaaGO
import Derived.Test.YtfnhchcgieeedaaDS4
import Derived.Test.YtfnhchcgieeedaaMXA
namespace Go.Proofs.Ytfnhchcgieeedaa
set_option linter.unusedSimpArgs false
set_option linter.unusedVariables false
set_option linter.unusedSimpArgs false
set_option linter.unusedVariables false
set_option linter.defProp false
set_option maxRecDepth 20000
open Go.RowKit

theorem l02Make_b (l : List FileD) (o : FsOpD) (h : l.length ≤ 1048576) (hd : ∀ f ∈ l, f.Data.length ≤ 524288) (ho : o.Data.length ≤ 524288) (hk : 1 ≤ o.Kind ∧ o.Kind ≤ 4) (hf : fitsF l o = true) :
    FnOK Try.prog 69 ⟨2, [(0, some (.mix 95 (l.map (FileD.k 5)))), (1, some (.ro (o.Data.map bytK)))], [.c (.sl 0 2 0 l.length), .agg [.v (.int .i64 o.Kind), .v (.string (txt o.Name)), .v (.string (txt o.To)), .sl 1 1 0 (o.Data).length]], .c (.sl 2 2 0 (mkF l o).length), [(0, none), (2, some (.mix 95 ((mkF l o).map (FileD.k 5))))], 3⟩ :=
  FnOK.give (i := 0) (l02Make_k l o h hd ho hk hf) rfl (by decide) (.inr (.inr ⟨_, rfl⟩)) (by simp) fun g b hb => by
    simp at hb
    obtain ⟨rfl, rfl⟩ := hb
    exact ⟨by decide, trivial⟩

set_option maxHeartbeats 2000000 in
theorem sclamp_k (n : Int) (m : Nat) : FnOK Try.prog 68 ⟨0, [], [.c (.v (.int .i64 n)), .c (.v (.int .i64 (m : Int)))], .c (.v (.int .i64 ((clF n m : Nat) : Int))), [], 0⟩ := by
  rw [clF_cast]
  rcases Int.lt_or_le n 0 with h | h
  · have e : max 0 (min n (m : Int)) = 0 := by omega
    rw [e]
    refine fnOK_of true mixed Try.func68 rfl (by rfl) (by rfl) ?_
    have hres := congrArg Array.toList Try.results68
    simp only [Try.ntmps68, BGB, seval]
    (have gx := true_and True; refine go ?_; (repeat' first | exact Ef.mk | apply Lf.mk | refine fun (K : KT) hK hE hT => ?_ | refine fun (KS : KE) hKS => ?_ | refine fun (D : KD) hD => ?_ | refine fun (hg : (_ : Prop)) => ?_ | fail); all_goals (first | (refine Wr.mk ?_; (try clear gx); repeat first | clear hK hE hT K | clear hR hE hT K) | assumption | skip))
    (refine post_a hres (.inl rfl) ?_; simp only [RSB, ENB, seval, tiAll, true_and]; simp only [MAB, seval]; refine ⟨rfl, rfl, ?_, ?_, ?_⟩ <;> (first | rfl | (simp [WKB, Nat.add_comm, true_and]; done) | (simp only [WKB, seval])))
  · rcases Int.lt_or_le (m : Int) n with h2 | h2
    · have e : max 0 (min n (m : Int)) = (m : Int) := by omega
      rw [e]
      refine fnOK_of true mixed Try.func68 rfl (by rfl) (by rfl) ?_
      have hres := congrArg Array.toList Try.results68
      simp only [Try.ntmps68, BGB, seval]
      (have gx := true_and True; refine go ?_; (repeat' first | exact Ef.mk | apply Lf.mk | refine fun (K : KT) hK hE hT => ?_ | refine fun (KS : KE) hKS => ?_ | refine fun (D : KD) hD => ?_ | refine fun (hg : (_ : Prop)) => ?_ | fail); all_goals (first | (refine Wr.mk ?_; (try clear gx); repeat first | clear hK hE hT K | clear hR hE hT K) | assumption | skip))
      (refine post_a hres (.inl rfl) ?_; simp only [RSB, ENB, seval, tiAll, true_and]; simp only [MAB, seval]; refine ⟨rfl, rfl, ?_, ?_, ?_⟩ <;> (first | rfl | (simp [WKB, Nat.add_comm, true_and]; done) | (simp only [WKB, seval])))
    · have e : max 0 (min n (m : Int)) = n := by omega
      rw [e]
      refine fnOK_of true mixed Try.func68 rfl (by rfl) (by rfl) ?_
      have hres := congrArg Array.toList Try.results68
      simp only [Try.ntmps68, BGB, seval]
      (have gx := true_and True; refine go ?_; (repeat' first | exact Ef.mk | apply Lf.mk | refine fun (K : KT) hK hE hT => ?_ | refine fun (KS : KE) hKS => ?_ | refine fun (D : KD) hD => ?_ | refine fun (hg : (_ : Prop)) => ?_ | fail); all_goals (first | (refine Wr.mk ?_; (try clear gx); repeat first | clear hK hE hT K | clear hR hE hT K) | assumption | skip))
      (refine post_a hres (.inl rfl) ?_; simp only [RSB, ENB, seval, tiAll, true_and]; simp only [MAB, seval]; refine ⟨rfl, rfl, ?_, ?_, ?_⟩ <;> (first | rfl | (simp [WKB, Nat.add_comm, true_and]; done) | (simp only [WKB, seval])))

set_option maxHeartbeats 4000000 in
theorem l02Files_k (l : List FileD) (h : l.length ≤ 1048576) (hd : ∀ f ∈ l, f.Data.length ≤ 1048576) : FnOK Try.prog 107 ⟨1, [(0, some (.ro (l.map (FileD.k 5))))], [.c (.sl 0 2 0 l.length)], .c (.sl 1 2 0 l.length), [(1, some (.nst 95 (l.map (FileD.k 5)) none))], 2⟩ := by
  refine fnOK_of true mixed Try.func107 rfl (by rfl) (by rfl) ?_
  have hres := congrArg Array.toList Try.results107
  simp only [Try.ntmps107, BGB, seval]
  (have gx := @List.length_map.{0,0}; refine go ?_; (repeat' first | exact Ef.mk | apply Lf.mk | refine fun (K : KT) hK hE hT => ?_ | refine fun (KS : KE) hKS => ?_ | refine fun (D : KD) hD => ?_ | refine fun (hg : (_ : Prop)) => ?_ | fail); all_goals (first | (refine Wr.mk ?_; (try clear gx); repeat first | clear hK hE hT K | clear hR hE hT K) | assumption | skip))
  refine loop_v (X := {k : Nat // k ≤ l.length}) [6] (fun x => [(9, .c (.v (.int .i64 ((x.1 : Nat) : Int)))), (3, .c (.sl 1 2 0 (l.take x.1).length))]) (fun x => [(0, some (.ro (l.map (FileD.k 5)))), (1, some (.nst 95 ((l.take x.1).map (FileD.k 5)) none))]) 2 (fun x => l.length - x.1) ⟨0, by omega⟩ ?_
  simp only [KPB, seval]
  refine ⟨?_, ?_⟩
  · (refine wk_a ?_; simp only [MAB, seval]; refine ⟨rfl, rfl, (by decide), ?_, ?_⟩; all_goals (first | (simp only [WKB, seval, List.take_zero]; done) | (simp [WKB, seval, List.take_zero]; done) | simp only [WKB, seval]))
  · rintro ⟨k, hk⟩ K hR hE hT
    have l1 : (l.take k).length = k := by rw [List.length_take]; omega
    rcases Nat.lt_or_ge k l.length with hlt | hge
    case inr =>
      obtain rfl : k = l.length := by omega
      simp only [List.take_length]
      (have gx := @List.length_map.{0,0}; refine go ?_; (repeat' first | exact Ef.mk | apply Lf.mk | refine fun (K : KT) hK hE hT => ?_ | refine fun (KS : KE) hKS => ?_ | refine fun (D : KD) hD => ?_ | refine fun (hg : (_ : Prop)) => ?_ | fail); all_goals (first | (refine Wr.mk ?_; (try clear gx); repeat first | clear hK hE hT K | clear hR hE hT K) | assumption | skip))
      (refine post_a hres (.inl rfl) ?_; simp only [RSB, ENB, seval, tiAll, true_and]; simp only [MAB, seval]; refine ⟨rfl, rfl, ?_, ?_, ?_⟩ <;> (first | rfl | (simp [WKB, Nat.add_comm, true_and]; done) | (simp only [WKB, seval])))
    case inl =>
      have e : (l.take (k + 1)).map (FileD.k 5) = (l.take k).map (FileD.k 5) ++ [FileD.k 5 l[k]] := by rw [take_snoc hlt, List.map_append]; rfl
      have l2 : (l.take (k + 1)).length = k + 1 := by rw [List.length_take]; omega
      have hdk := hd _ (List.getElem_mem hlt)
      obtain ⟨f, hf⟩ : ∃ f, f = l[k] := ⟨_, rfl⟩
      rw [← hf] at e hdk
      have tF : List.take f.Data.length (List.map bytK f.Data) = List.map bytK f.Data := List.take_of_length_le (by rw [List.length_map]; exact Nat.le_refl _)
      (have gx := And.intro (@List.length_map.{0,0}) (And.intro (@List.getElem_map.{0,0}) (And.intro ((hf).symm) (And.intro (@FileD.k.eq_1) (And.intro (@l1) (And.intro @tF @List.nil_append.{0}))))); refine go ?_; (repeat' first | exact Ef.mk | apply Lf.mk | refine fun (K : KT) hK hE hT => ?_ | refine fun (KS : KE) hKS => ?_ | refine fun (D : KD) hD => ?_ | refine fun (hg : (_ : Prop)) => ?_ | fail); all_goals (first | (refine Wr.mk ?_; (try clear gx); repeat first | clear hK hE hT K | clear hR hE hT K) | assumption | skip))
      (refine hR.out ⟨k + 1, by omega⟩ _ _ _ (by simp only; omega) ?_; (refine wk_a ?_; simp only [MAB, seval]; refine ⟨rfl, rfl, (by decide), ?_, ?_⟩; all_goals (first | (simp only [WKB, seval, e, FileD.k, l1, l2, tF]; done) | (simp [WKB, seval, e, FileD.k, l1, l2, tF]; done) | simp only [WKB, seval])))

/-- The list behind the first k operations, seen by the reference. -/
theorem l02Seen_k (d : DiskD) (k : Nat) (hz : szD d) (hp : diskP d) (hk : k ≤ d.Wait.length) : FnOK Try.prog 57 ⟨2, [(0, some (.ro ((d.Files).map (FileD.k 5)))), (1, some (.ro ((d.Wait).map (FsOpD.k 5))))], [.agg [.v (.int .i64 d.Room), .v (.int .i64 d.Fuse), .sl 0 2 0 (d.Files).length, .sl 1 4 0 (d.Wait).length], .c (.v (.int .i64 (k : Int)))], .c (.sl 2 2 0 (stF d.Files d.Wait k).length), [(2, some (.mix 95 ((stF d.Files d.Wait k).map (FileD.k 5))))], 3⟩ := by
  obtain ⟨z1, z2, z3, z4⟩ := id hz
  obtain ⟨p1, p2, p3, p4⟩ := id hp
  unfold hdD at p1
  have cl := l02Files_k d.Files z1 fun f h => (z3 f h).2
  refine fnOK_of true mixed Try.func57 rfl (by rfl) (by rfl) ?_
  have hres := congrArg Array.toList Try.results57
  simp only [Try.ntmps57, BGB, seval]
  (have gx := And.intro @List.length_map.{0,0} @lit_n; have q1 := cl; refine go ?_; (repeat' first | exact Ef.mk | apply Lf.mk | refine fun (K : KT) hK hE hT => ?_ | refine fun (KS : KE) hKS => ?_ | refine fun (D : KD) hD => ?_ | refine fun (hg : (_ : Prop)) => ?_ | fail); all_goals (first | (refine Wr.mk ?_; (try clear gx q1); repeat first | clear hK hE hT K | clear hR hE hT K) | assumption | skip))
  refine loop_v (X := {j : Nat // j ≤ k}) [10] (fun x => [(16, .c (.v (.int .i64 ((x.1 : Nat) : Int)))), (5, .c (.sl 3 2 0 (stF d.Files d.Wait x.1).length))]) (fun x => [(0, some (.ro ((d.Files).map (FileD.k 5)))), (1, some (.ro ((d.Wait).map (FsOpD.k 5)))), (2, some (.box 50 [.v (.int .i64 d.Room), .v (.int .i64 d.Fuse), .sl 0 2 0 (d.Files).length, .sl 1 4 0 (d.Wait).length])), (3, some (.mix 95 ((stF d.Files d.Wait x.1).map (FileD.k 5))))]) 4 (fun x => k - x.1) ⟨0, by omega⟩ ?_
  simp only [KPB, seval]
  refine ⟨?_, ?_⟩
  · refine Wk.trans (wk_nm (g := 3) rfl) ?_
    simp only [EVB, seval]
    (refine wk_a ?_; simp only [MAB, seval]; refine ⟨rfl, rfl, (by decide), ?_, ?_⟩; all_goals (first | (simp only [WKB, seval, stF_zero]; done) | (simp [WKB, seval, stF_zero]; done) | simp only [WKB, seval]))
  · rintro ⟨j, hj⟩ K hR hE hT
    rcases Nat.lt_or_ge j k with hlt | hge
    case inr =>
      obtain rfl : j = k := by omega
      (have gx := @List.length_map.{0,0}; refine go ?_; (repeat' first | exact Ef.mk | apply Lf.mk | refine fun (K : KT) hK hE hT => ?_ | refine fun (KS : KE) hKS => ?_ | refine fun (D : KD) hD => ?_ | refine fun (hg : (_ : Prop)) => ?_ | fail); all_goals (first | (refine Wr.mk ?_; (try clear gx); repeat first | clear hK hE hT K | clear hR hE hT K) | assumption | skip))
      (refine post_a hres (.inl rfl) ?_; simp only [RSB, ENB, seval, tiAll, true_and]; simp only [MAB, seval]; refine ⟨rfl, rfl, ?_, ?_, ?_⟩ <;> (first | rfl | (simp [WKB, Nat.add_comm, true_and]; done) | (simp only [WKB, seval])))
    case inl =>
      have hlt' : j < d.Wait.length := by omega
      obtain ⟨o1, o2, o3⟩ := p4.2 j hlt' hlt'
      obtain ⟨q1, q2, q3⟩ := okF_reach (by omega) (by omega) (okF_mono p4 (Nat.le_of_lt hlt')) (Nat.le_of_lt hlt')
      have es := stF_succ (M := d.Files) hlt'
      obtain ⟨M, hM⟩ : ∃ M, M = stF d.Files d.Wait j := ⟨_, rfl⟩
      obtain ⟨o, ho⟩ : ∃ o, o = d.Wait[j] := ⟨_, rfl⟩
      rw [← ho] at o1 o2 es
      rw [← hM] at q1 q2 q3 es o2
      simp only [← hM]
      have hD := opO_data o1
      have k3 := l02Make_b M o (by omega) q3 (by omega) (opO_kind o1) o2
      (have gx := And.intro (@List.length_map.{0,0}) (And.intro (@List.getElem_map.{0,0}) (And.intro (ho).symm @FsOpD.k.eq_1)); have q1 := k3; refine go ?_; (repeat' first | exact Ef.mk | apply Lf.mk | refine fun (K : KT) hK hE hT => ?_ | refine fun (KS : KE) hKS => ?_ | refine fun (D : KD) hD => ?_ | refine fun (hg : (_ : Prop)) => ?_ | fail); all_goals (first | (refine Wr.mk ?_; (try clear gx q1); repeat first | clear hK hE hT K | clear hR hE hT K) | assumption | skip))
      (refine hR.out ⟨j + 1, by omega⟩ _ _ _ (by simp only; omega) ?_; (refine wk_a ?_; simp only [MAB, seval]; refine ⟨rfl, rfl, (by decide), ?_, ?_⟩; all_goals (first | (simp only [WKB, seval, es]; done) | (simp [WKB, seval, es]; done) | simp only [WKB, seval])))

set_option maxHeartbeats 4000000 in
theorem specSeen_k (d : DiskD) (hz : szD d) : FnOK Try.prog 18 ⟨2, [(0, some (.ro ((d.Files).map (FileD.k 5)))), (1, some (.ro ((d.Wait).map (FsOpD.k 5))))], [.agg [.v (.int .i64 d.Room), .v (.int .i64 d.Fuse), .sl 0 2 0 (d.Files).length, .sl 1 4 0 (d.Wait).length]], .c (.sl 2 2 0 (seenR d).length), [(2, some (.mix 95 ((seenR d).map (FileD.k 5))))], 3⟩ := by
  have cd := specDiskOk_k d hz
  by_cases hp : diskP d
  · rw [diskO_y hp] at cd
    rw [seenR_y hp]
    have cs := l02Seen_k d d.Wait.length hz hp (Nat.le_refl _)
    refine fnOK_of true mixed Try.func18 rfl (by rfl) (by rfl) ?_
    have hres := congrArg Array.toList Try.results18
    simp only [Try.ntmps18, BGB, seval]
    (have gx := @List.length_map.{0,0}; have q1 := cd; have q2 := cs; refine go ?_; (repeat' first | exact Ef.mk | apply Lf.mk | refine fun (K : KT) hK hE hT => ?_ | refine fun (KS : KE) hKS => ?_ | refine fun (D : KD) hD => ?_ | refine fun (hg : (_ : Prop)) => ?_ | fail); all_goals (first | (refine Wr.mk ?_; (try clear gx q1 q2); repeat first | clear hK hE hT K | clear hR hE hT K) | assumption | skip))
    (refine post_a hres (.inl rfl) ?_; simp only [RSB, ENB, seval, tiAll, seenF]; simp only [MAB, seval]; refine ⟨rfl, rfl, ?_, ?_, ?_⟩ <;> (first | rfl | (simp [WKB, Nat.add_comm, seenF]; done) | (simp only [WKB, seval])))
  · rw [diskO_n hp] at cd
    rw [seenR_n hp]
    refine fnOK_of true mixed Try.func18 rfl (by rfl) (by rfl) ?_
    have hres := congrArg Array.toList Try.results18
    simp only [Try.ntmps18, BGB, seval]
    (have gx := @List.length_map.{0,0}; have q1 := cd; refine go ?_; (repeat' first | exact Ef.mk | apply Lf.mk | refine fun (K : KT) hK hE hT => ?_ | refine fun (KS : KE) hKS => ?_ | refine fun (D : KD) hD => ?_ | refine fun (hg : (_ : Prop)) => ?_ | fail); all_goals (first | (refine Wr.mk ?_; (try clear gx q1); repeat first | clear hK hE hT K | clear hR hE hT K) | assumption | skip))
    (refine post_a hres (.inl rfl) ?_; simp only [RSB, ENB, seval, tiAll, List.map_nil]; simp only [MAB, seval]; refine ⟨rfl, rfl, ?_, ?_, ?_⟩ <;> (first | rfl | (simp [WKB, Nat.add_comm, List.map_nil]; done) | (simp only [WKB, seval])))

end Go.Proofs.Ytfnhchcgieeedaa

namespace Go.Proofs.Ytfnhchcgieeedaa
set_option linter.unusedSimpArgs false
set_option linter.unusedVariables false
set_option linter.defProp false
set_option maxRecDepth 20000
open Go.RowKit

set_option maxHeartbeats 8000000 in
theorem l02Copy_k (d : DiskD) (h : (d.Files).length ≤ 1048576 ∧ (d.Wait).length ≤ 1048576 ∧ (∀ s ∈ d.Files, s.Data.length ≤ 1048576) ∧ (∀ s ∈ d.Wait, s.Data.length ≤ 1048576)) : FnOK Try.prog 75 ⟨2, [(0, some (.ro ((d.Files).map (FileD.k 5)))), (1, some (.ro ((d.Wait).map (FsOpD.k 5))))], [.agg [.v (.int .i64 d.Room), .v (.int .i64 d.Fuse), .sl 0 2 0 (d.Files).length, .sl 1 4 0 (d.Wait).length]], .agg [.v (.int .i64 d.Room), .v (.int .i64 d.Fuse), .sl 2 2 0 (d.Files).length, .sl 3 4 0 (d.Wait).length], [(2, some (.nst 95 ((d.Files).map (FileD.k 5)) none)), (3, some (.nst 66 ((d.Wait).map (FsOpD.k 5)) none))], 4⟩ := by
  obtain ⟨h1, h2, h3, h4⟩ := h
  have cl := l02Files_k d.Files h1 h3
  refine fnOK_of true mixed Try.func75 rfl (by rfl) (by rfl) ?_
  have hres := congrArg Array.toList Try.results75
  simp only [Try.ntmps75, BGB, seval]
  (have gx := @List.length_map.{0,0}; have q1 := cl; refine go ?_; (repeat' first | exact Ef.mk | apply Lf.mk | refine fun (K : KT) hK hE hT => ?_ | refine fun (KS : KE) hKS => ?_ | refine fun (D : KD) hD => ?_ | refine fun (hg : (_ : Prop)) => ?_ | fail); all_goals (first | (refine Wr.mk ?_; (try clear gx q1); repeat first | clear hK hE hT K | clear hR hE hT K) | assumption | skip))
  refine loop_v (X := {k : Nat // k ≤ d.Wait.length}) [10] (fun x => [(14, .c (.v (.int .i64 ((x.1 : Nat) : Int)))), (3, .c (.sl 5 4 0 (d.Wait.take x.1).length))]) (fun x => [(0, some (.ro ((d.Files).map (FileD.k 5)))), (1, some (.ro ((d.Wait).map (FsOpD.k 5)))), (4, some (.nst 95 (d.Files.map (FileD.k 5)) none)), (2, some (.box 50 [.v (.int .i64 d.Room), .v (.int .i64 d.Fuse), .sl 4 2 0 d.Files.length, .sl 1 4 0 d.Wait.length])), (3, some (.box 50 [.v (.int .i64 0), .v (.int .i64 0), .nil, .nil])), (5, some (.nst 66 ((d.Wait.take x.1).map (FsOpD.k 5)) none))]) 6 (fun x => d.Wait.length - x.1) ⟨0, by omega⟩ ?_
  simp only [KPB, seval]
  refine ⟨?_, ?_⟩
  · (refine wk_a ?_; simp only [MAB, seval]; refine ⟨rfl, rfl, (by decide), ?_, ?_⟩; all_goals (first | (simp only [WKB, seval, List.take_zero]; done) | (simp [WKB, seval, List.take_zero]; done) | simp only [WKB, seval]))
  · rintro ⟨k, hk⟩ K hR hE hT
    have l1 : (d.Wait.take k).length = k := by rw [List.length_take]; omega
    rcases Nat.lt_or_ge k d.Wait.length with hlt | hge
    case inr =>
      obtain rfl : k = d.Wait.length := by omega
      simp only [List.take_length]
      (have gx := @List.length_map.{0,0}; refine go ?_; (repeat' first | exact Ef.mk | apply Lf.mk | refine fun (K : KT) hK hE hT => ?_ | refine fun (KS : KE) hKS => ?_ | refine fun (D : KD) hD => ?_ | refine fun (hg : (_ : Prop)) => ?_ | fail); all_goals (first | (refine Wr.mk ?_; (try clear gx); repeat first | clear hK hE hT K | clear hR hE hT K) | assumption | skip))
      (refine post_a hres (.inl rfl) ?_; simp only [RSB, ENB, seval, tiAll, true_and]; simp only [MAB, seval]; refine ⟨rfl, rfl, ?_, ?_, ?_⟩ <;> (first | rfl | (simp [WKB, Nat.add_comm, true_and]; done) | (simp only [WKB, seval])))
    case inl =>
      have e : (d.Wait.take (k + 1)).map (FsOpD.k 5) = (d.Wait.take k).map (FsOpD.k 5) ++ [FsOpD.k 5 d.Wait[k]] := by rw [List.take_succ_eq_append_getElem hlt, List.map_append]; rfl
      have l2 : (d.Wait.take (k + 1)).length = k + 1 := by rw [List.length_take]; omega
      have hdk := h4 _ (List.getElem_mem hlt)
      obtain ⟨o, ho⟩ : ∃ o, o = d.Wait[k] := ⟨_, rfl⟩
      rw [← ho] at e hdk
      have tO : List.take o.Data.length (List.map bytK o.Data) = List.map bytK o.Data := List.take_of_length_le (by rw [List.length_map]; exact Nat.le_refl _)
      (have gx := And.intro (@List.length_map.{0,0}) (And.intro (@List.getElem_map.{0,0}) (And.intro ((ho).symm) (And.intro (@FsOpD.k.eq_1) (And.intro (@l1) (And.intro @tO @List.nil_append.{0}))))); refine go ?_; (repeat' first | exact Ef.mk | apply Lf.mk | refine fun (K : KT) hK hE hT => ?_ | refine fun (KS : KE) hKS => ?_ | refine fun (D : KD) hD => ?_ | refine fun (hg : (_ : Prop)) => ?_ | fail); all_goals (first | (refine Wr.mk ?_; (try clear gx); repeat first | clear hK hE hT K | clear hR hE hT K) | assumption | skip))
      (refine hR.out ⟨k + 1, by omega⟩ _ _ _ (by simp only; omega) ?_; (refine wk_a ?_; simp only [MAB, seval]; refine ⟨rfl, rfl, (by decide), ?_, ?_⟩; all_goals (first | (simp only [WKB, seval, e, FsOpD.k, l1, l2, tO]; done) | (simp [WKB, seval, e, FsOpD.k, l1, l2, tO]; done) | simp only [WKB, seval])))

set_option maxHeartbeats 8000000 in
theorem specDiskSync_k (d : DiskD) (hz : szD d) : FnOK Try.prog 29 ⟨2, [(0, some (.ro ((d.Files).map (FileD.k 5)))), (1, some (.ro ((d.Wait).map (FsOpD.k 5))))], [.agg [.v (.int .i64 d.Room), .v (.int .i64 d.Fuse), .sl 0 2 0 (d.Files).length, .sl 1 4 0 (d.Wait).length]], .tup [.inr [.v (.int .i64 (syR d).Room), .v (.int .i64 (syR d).Fuse), .sl 2 2 0 ((syR d).Files).length, .sl 3 4 0 ((syR d).Wait).length], .inl (.v (.int .i64 (syC d)))], [(2, some (.mix 95 (((syR d).Files).map (FileD.k 5)))), (3, some (.nst 66 (((syR d).Wait).map (FsOpD.k 5)) none))], 4⟩ := by
  have cd := specDiskOk_k d hz
  have cc := l02Copy_k d (szD_L hz)
  have cs := specSeen_k d hz
  by_cases hp : diskP d
  · rw [diskO_y hp] at cd
    rw [seenR_y hp] at cs
    have p1 := hp.1
    unfold hdD at p1
    by_cases hf : d.Fuse = 0
    · rw [syR_z hp hf, syC_z hp hf]
      refine fnOK_of true mixed Try.func29 rfl (by rfl) (by rfl) ?_
      have hres := congrArg Array.toList Try.results29
      simp only [Try.ntmps29, BGB, seval]
      (have gx := And.intro @List.length_map.{0,0} @hf; have q1 := cd; have q2 := cc; refine go ?_; (repeat' first | exact Ef.mk | apply Lf.mk | refine fun (K : KT) hK hE hT => ?_ | refine fun (KS : KE) hKS => ?_ | refine fun (D : KD) hD => ?_ | refine fun (hg : (_ : Prop)) => ?_ | fail); all_goals (first | (refine Wr.mk ?_; (try clear gx q1 q2); repeat first | clear hK hE hT K | clear hR hE hT K) | assumption | skip))
      refine post_w (wk_nm (g := 4) rfl) ?_
      simp only [EVB, seval]
      (refine post_a hres (.inl rfl) ?_; simp only [RSB, ENB, seval, tiAll, hf]; simp only [MAB, seval]; refine ⟨rfl, rfl, ?_, ?_, ?_⟩ <;> (first | rfl | (simp [WKB, Nat.add_comm, hf]; done) | (simp only [WKB, seval])))
    · rw [syR_y hp hf, syC_y hp hf]
      dsimp only
      obtain ⟨M, hM⟩ : ∃ M, M = seenF d := ⟨_, rfl⟩
      rw [← hM] at cs ⊢
      rcases Int.lt_or_le 0 d.Fuse with h0 | h0
      · have e : brn d.Fuse = d.Fuse - 1 := by unfold brn; rw [if_pos h0]
        rw [e]
        refine fnOK_of true mixed Try.func29 rfl (by rfl) (by rfl) ?_
        have hres := congrArg Array.toList Try.results29
        simp only [Try.ntmps29, BGB, seval]
        (have gx := @List.length_map.{0,0}; have q1 := cd; have q2 := cs; refine go ?_; (repeat' first | exact Ef.mk | apply Lf.mk | refine fun (K : KT) hK hE hT => ?_ | refine fun (KS : KE) hKS => ?_ | refine fun (D : KD) hD => ?_ | refine fun (hg : (_ : Prop)) => ?_ | fail); all_goals (first | (refine Wr.mk ?_; (try clear gx q1 q2); repeat first | clear hK hE hT K | clear hR hE hT K) | assumption | skip))
        (refine post_a hres (.inl rfl) ?_; simp only [RSB, ENB, seval, tiAll, List.map_nil]; simp only [MAB, seval]; refine ⟨rfl, rfl, ?_, ?_, ?_⟩ <;> (first | rfl | (simp [WKB, Nat.add_comm, List.map_nil]; done) | (simp only [WKB, seval])))
      · have e : brn d.Fuse = d.Fuse := by unfold brn; rw [if_neg (by omega)]
        rw [e]
        refine fnOK_of true mixed Try.func29 rfl (by rfl) (by rfl) ?_
        have hres := congrArg Array.toList Try.results29
        simp only [Try.ntmps29, BGB, seval]
        (have gx := @List.length_map.{0,0}; have q1 := cd; have q2 := cs; refine go ?_; (repeat' first | exact Ef.mk | apply Lf.mk | refine fun (K : KT) hK hE hT => ?_ | refine fun (KS : KE) hKS => ?_ | refine fun (D : KD) hD => ?_ | refine fun (hg : (_ : Prop)) => ?_ | fail); all_goals (first | (refine Wr.mk ?_; (try clear gx q1 q2); repeat first | clear hK hE hT K | clear hR hE hT K) | assumption | skip))
        (refine post_a hres (.inl rfl) ?_; simp only [RSB, ENB, seval, tiAll, List.map_nil]; simp only [MAB, seval]; refine ⟨rfl, rfl, ?_, ?_, ?_⟩ <;> (first | rfl | (simp [WKB, Nat.add_comm, List.map_nil]; done) | (simp only [WKB, seval])))
  · rw [diskO_n hp] at cd
    rw [syR_n hp, syC_n hp]
    refine fnOK_of true mixed Try.func29 rfl (by rfl) (by rfl) ?_
    have hres := congrArg Array.toList Try.results29
    simp only [Try.ntmps29, BGB, seval]
    (have gx := @List.length_map.{0,0}; have q1 := cd; refine go ?_; (repeat' first | exact Ef.mk | apply Lf.mk | refine fun (K : KT) hK hE hT => ?_ | refine fun (KS : KE) hKS => ?_ | refine fun (D : KD) hD => ?_ | refine fun (hg : (_ : Prop)) => ?_ | fail); all_goals (first | (refine Wr.mk ?_; (try clear gx q1); repeat first | clear hK hE hT K | clear hR hE hT K) | assumption | skip))
    (refine post_a hres (.inl rfl) ?_; simp only [RSB, ENB, seval, tiAll, dk0, List.map_nil]; simp only [MAB, seval]; refine ⟨rfl, rfl, ?_, ?_, ?_⟩ <;> (first | rfl | (simp [WKB, Nat.add_comm, dk0, List.map_nil]; done) | (simp only [WKB, seval])))

set_option maxHeartbeats 16000000 in
theorem specDiskCrash_k (d : DiskD) (n b : Int) (hz : szD d) : FnOK Try.prog 26 ⟨2, [(0, some (.ro ((d.Files).map (FileD.k 5)))), (1, some (.ro ((d.Wait).map (FsOpD.k 5))))], [.agg [.v (.int .i64 d.Room), .v (.int .i64 d.Fuse), .sl 0 2 0 (d.Files).length, .sl 1 4 0 (d.Wait).length], .c (.v (.int .i64 n)), .c (.v (.int .i64 b))], .tup [.inr [.v (.int .i64 (crR d n b).Room), .v (.int .i64 (crR d n b).Fuse), .sl 2 2 0 ((crR d n b).Files).length, .sl 3 4 0 ((crR d n b).Wait).length], .inl (.v (.bool (diskO d)))], [(2, some (.mix 95 (((crR d n b).Files).map (FileD.k 5)))), (3, some (.nst 66 (((crR d n b).Wait).map (FsOpD.k 5)) none))], 4⟩ := by
  have cd := specDiskOk_k d hz
  obtain ⟨z1, z2, z3, z4⟩ := id hz
  by_cases hp : diskP d
  · obtain ⟨p1, p2, p3, p4⟩ := id hp
    rw [diskO_y hp] at cd ⊢
    rw [crR_y hp]
    dsimp only
    unfold hdD at p1
    have ck := sclamp_k n d.Wait.length
    have hkl := clF_le n d.Wait.length
    have cs := l02Seen_k d (clF n d.Wait.length) hz hp hkl
    have hend := @crF_end d n b
    have hno := @crF_no d n b
    have hpt := @crF_pt d n b
    obtain ⟨R, hR0⟩ : ∃ R, R = crF d n b := ⟨_, rfl⟩
    rw [← hR0] at hend hno hpt ⊢
    obtain ⟨m, hm⟩ : ∃ m, m = clF n d.Wait.length := ⟨_, rfl⟩
    rw [← hm] at ck hkl hend cs
    simp only [← hm] at hno hpt
    obtain ⟨q1, q2, q3⟩ := okF_reach (by omega) (by omega) (okF_mono p4 hkl) hkl
    rcases Nat.lt_or_ge m d.Wait.length with hlt | hge
    · obtain ⟨o1, o2, o3⟩ := p4.2 m hlt hlt
      have hno := hno hlt
      have hpt := hpt hlt
      obtain ⟨M, hM⟩ : ∃ M, M = stF d.Files d.Wait m := ⟨_, rfl⟩
      obtain ⟨o, ho⟩ : ∃ o, o = d.Wait[m] := ⟨_, rfl⟩
      rw [← ho] at o1 o2 hno hpt
      rw [← hM] at o2 q1 q2 q3 hno hpt cs
      by_cases h2 : o.Kind = 2
      · have hpt := hpt h2
        have hDl := opO_data o1
        have cc := sclamp_k b o.Data.length
        have hcl := clF_le b o.Data.length
        have eD : (ptO o b).Data = o.Data.take (clF b o.Data.length) := rfl
        have k3 := l02Make_b M (ptO o b) (by omega) q3 (by rw [eD, List.length_take]; omega) (by show 1 ≤ o.Kind ∧ o.Kind ≤ 4; exact opO_kind o1) o2
        obtain ⟨c, hc⟩ : ∃ c, c = clF b o.Data.length := ⟨_, rfl⟩
        rw [← hc] at cc hcl eD
        have lD : (ptO o b).Data.length = c := by rw [eD, List.length_take]; omega
        have mD : (ptO o b).Data.map bytK = (o.Data.map bytK).take c := by rw [eD, List.map_take]
        have kD : (ptO o b).Kind = 2 := h2
        have kN : (ptO o b).Name = o.Name := rfl
        have kT : (ptO o b).To = o.To := rfl
        rw [← hpt, lD, mD, kD, kN, kT] at k3
        refine fnOK_of true mixed Try.func26 rfl (by rfl) (by rfl) ?_
        have hres := congrArg Array.toList Try.results26
        simp only [Try.ntmps26, BGB, seval]
        (have gx := And.intro (@List.length_map.{0,0}) (And.intro (@List.getElem_map.{0,0}) (And.intro ((ho).symm) (And.intro (@FsOpD.k.eq_1) (And.intro (@h2) (And.intro (@lit_n) (And.intro @Option.toArray_none.{0} @Option.toArray_some.{0})))))); have q1 := cd; have q2 := ck; have q3 := cs; have q4 := cc; have q5 := k3; refine go ?_; (repeat' first | exact Ef.mk | apply Lf.mk | refine fun (K : KT) hK hE hT => ?_ | refine fun (KS : KE) hKS => ?_ | refine fun (D : KD) hD => ?_ | refine fun (hg : (_ : Prop)) => ?_ | fail); all_goals (first | (refine Wr.mk ?_; (try clear gx q1 q2 q3 q4 q5); repeat first | clear hK hE hT K | clear hR hE hT K) | assumption | skip))
        (refine post_a hres (.inl rfl) ?_; simp only [RSB, ENB, seval, tiAll, List.map_nil]; simp only [MAB, seval]; refine ⟨rfl, rfl, ?_, ?_, ?_⟩ <;> (first | rfl | (simp [WKB, Nat.add_comm, List.map_nil]; done) | (simp only [WKB, seval])))
      · have hno := hno h2
        rw [← hno] at cs
        refine fnOK_of true mixed Try.func26 rfl (by rfl) (by rfl) ?_
        have hres := congrArg Array.toList Try.results26
        simp only [Try.ntmps26, BGB, seval]
        (have gx := And.intro (@List.length_map.{0,0}) (And.intro (@List.getElem_map.{0,0}) (And.intro (ho).symm @FsOpD.k.eq_1)); have q1 := cd; have q2 := ck; have q3 := cs; refine go ?_; (repeat' first | exact Ef.mk | apply Lf.mk | refine fun (K : KT) hK hE hT => ?_ | refine fun (KS : KE) hKS => ?_ | refine fun (D : KD) hD => ?_ | refine fun (hg : (_ : Prop)) => ?_ | fail); all_goals (first | (refine Wr.mk ?_; (try clear gx q1 q2 q3); repeat first | clear hK hE hT K | clear hR hE hT K) | assumption | skip))
        (refine post_a hres (.inl rfl) ?_; simp only [RSB, ENB, seval, tiAll, List.map_nil]; simp only [MAB, seval]; refine ⟨rfl, rfl, ?_, ?_, ?_⟩ <;> (first | rfl | (simp [WKB, Nat.add_comm, List.map_nil]; done) | (simp only [WKB, seval])))
    · have hend := hend (by omega)
      rw [← hend] at cs
      refine fnOK_of true mixed Try.func26 rfl (by rfl) (by rfl) ?_
      have hres := congrArg Array.toList Try.results26
      simp only [Try.ntmps26, BGB, seval]
      (have gx := @List.length_map.{0,0}; have q1 := cd; have q2 := ck; have q3 := cs; refine go ?_; (repeat' first | exact Ef.mk | apply Lf.mk | refine fun (K : KT) hK hE hT => ?_ | refine fun (KS : KE) hKS => ?_ | refine fun (D : KD) hD => ?_ | refine fun (hg : (_ : Prop)) => ?_ | fail); all_goals (first | (refine Wr.mk ?_; (try clear gx q1 q2 q3); repeat first | clear hK hE hT K | clear hR hE hT K) | assumption | skip))
      (refine post_a hres (.inl rfl) ?_; simp only [RSB, ENB, seval, tiAll, List.map_nil]; simp only [MAB, seval]; refine ⟨rfl, rfl, ?_, ?_, ?_⟩ <;> (first | rfl | (simp [WKB, Nat.add_comm, List.map_nil]; done) | (simp only [WKB, seval])))
  · rw [diskO_n hp] at cd ⊢
    rw [crR_n hp]
    refine fnOK_of true mixed Try.func26 rfl (by rfl) (by rfl) ?_
    have hres := congrArg Array.toList Try.results26
    simp only [Try.ntmps26, BGB, seval]
    (have gx := @List.length_map.{0,0}; have q1 := cd; refine go ?_; (repeat' first | exact Ef.mk | apply Lf.mk | refine fun (K : KT) hK hE hT => ?_ | refine fun (KS : KE) hKS => ?_ | refine fun (D : KD) hD => ?_ | refine fun (hg : (_ : Prop)) => ?_ | fail); all_goals (first | (refine Wr.mk ?_; (try clear gx q1); repeat first | clear hK hE hT K | clear hR hE hT K) | assumption | skip))
    (refine post_a hres (.inl rfl) ?_; simp only [RSB, ENB, seval, tiAll, dk0, List.map_nil]; simp only [MAB, seval]; refine ⟨rfl, rfl, ?_, ?_, ?_⟩ <;> (first | rfl | (simp [WKB, Nat.add_comm, dk0, List.map_nil]; done) | (simp only [WKB, seval])))

end Go.Proofs.Ytfnhchcgieeedaa
