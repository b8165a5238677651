/-
  The engine, texts LV36 LV37 in one. No conditions of its own.
-/
import Derived.Test.YtfnhchcgieeedaaGO
import Derived.Test.YtfnhchcgieeedaaMXB
import Derived.Test.YtfnhchcgieeedaaDW3
import Derived.Test.YtfnhchcgieeedaaSh7
namespace Go.Proofs.Ytfnhchcgieeedaa
set_option linter.unusedSimpArgs false
set_option linter.unusedVariables false
set_option linter.unusedSimpArgs false
set_option linter.unusedVariables false
set_option linter.defProp false
set_option maxRecDepth 20000
open Go.RowKit

theorem specSeen_b (d : DiskD) (hz : szD d) : FnOK Try.prog 18 ⟨2, [(0, some (.nst 95 ((d.Files).map (FileD.k 5)) none)), (1, some (.nst 66 ((d.Wait).map (FsOpD.k 5)) none))], [.agg [.v (.int .i64 d.Room), .v (.int .i64 d.Fuse), .sl 0 2 0 (d.Files).length, .sl 1 4 0 (d.Wait).length]], .c (.sl 2 2 0 (seenR d).length), [(0, none), (1, none), (2, some (.mix 95 ((seenR d).map (FileD.k 5))))], 3⟩ :=
  FnOK.giveN (i := 0) (FnOK.giveN (i := 1) (specSeen_k d hz) (by simp [wfs, cvOff]) rfl (by decide) (.inr (.inl ⟨_, rfl⟩)) (by simp) fun g b hb => by
    simp at hb
    obtain ⟨rfl, rfl⟩ := hb
    exact ⟨by decide, trivial⟩) (by simp [wfs, cvOff]) rfl (by decide) (.inr (.inl ⟨_, rfl⟩)) (by simp) fun g b hb => by
    simp at hb
    obtain ⟨rfl, rfl⟩ := hb
    exact ⟨by decide, trivial⟩

theorem szF_get : ∀ {l : List FileD} {f : FileD}, f ∈ l → f.Name.length + f.Data.length ≤ szF l
  | g :: l, f, h => by
    simp only [szF]
    rcases List.mem_cons.1 h with rfl | h
    · omega
    · have := szF_get h; omega
theorem szO_get : ∀ {l : List FsOpD} {o : FsOpD}, o ∈ l → o.Name.length + o.To.length + o.Data.length ≤ szO l
  | g :: l, o, h => by
    simp only [szO]
    rcases List.mem_cons.1 h with rfl | h
    · omega
    · have := szO_get h; omega
theorem fiSum_sz : ∀ l : List FileD, fiSum l ≤ l.length + szF l
  | [] => by simp [fiSum]
  | f :: l => by
    have := fiSum_sz l
    simp only [fiSum, szF, List.length_cons]; omega
theorem opSum_sz : ∀ l : List FsOpD, opSum l ≤ 3 * l.length + szO l
  | [] => by simp [opSum]
  | o :: l => by
    have := opSum_sz l
    simp only [opSum, szO, List.length_cons]; omega
theorem szD_of {d : DiskD} (h : d.Files.length + szF d.Files + (d.Wait.length + szO d.Wait) ≤ 1048576) : szD d :=
  ⟨by omega, by omega, fun f hf => by have := szF_get hf; omega, fun o ho => by have := szO_get ho; omega⟩
theorem seenR_len (d : DiskD) : (seenR d).length ≤ 72 ∧ byF (seenR d) ≤ 200000 ∧ ∀ f ∈ seenR d, f.Data.length ≤ 1048576 := by
  by_cases hp : diskP d
  · rw [seenR_y hp]
    obtain ⟨q1, q2, q3, q4⟩ := stF_ok hp (Nat.le_refl _)
    exact ⟨q2, q3, fun f hf => by have := q4 f hf; omega⟩
  · rw [seenR_n hp]; simp [byF]

set_option maxHeartbeats 16000000 in
theorem FnExactSeen_k (x : DiskD) (rx : x.rng) : FnOK Try.prog 4 ⟨2, [(0, some (.ro ((x.Files).map (FileD.k 5)))), (1, some (.ro ((x.Wait).map (FsOpD.k 5))))], [.agg [.v (.int .i64 x.Room), .v (.int .i64 x.Fuse), .sl 0 2 0 (x.Files).length, .sl 1 4 0 (x.Wait).length]], .c (.v (.bool true)), [], 2⟩ := by
  have r0 := rx.2.2.1.1
  have r1 : ∀ s ∈ x.Files, s.Name.length ≤ 9223372036854775807 ∧ s.Data.length ≤ 9223372036854775807 := fun s hs => by
    have := rx.2.2.1.2 s hs
    unfold FileD.rng maxLen at this
    omega
  have r2 := rx.2.2.2.1
  have r3 : ∀ s ∈ x.Wait, s.Name.length ≤ 9223372036854775807 ∧ s.To.length ≤ 9223372036854775807 ∧ s.Data.length ≤ 9223372036854775807 := fun s hs => by
    have := rx.2.2.2.2 s hs
    unfold FsOpD.rng maxLen at this
    omega
  simp only [maxLen] at r0 r2
  have cz := szDisk_k x 1048576 ⟨by omega, fun s hs => (r1 s hs).1, fun s hs => (r1 s hs).2⟩ ⟨by omega, fun s hs => (r3 s hs).1, fun s hs => (r3 s hs).2.1, fun s hs => (r3 s hs).2.2⟩ (by omega)
  rcases Nat.lt_or_ge 1048576 (x.Files.length + szF x.Files + (x.Wait.length + szO x.Wait)) with c1 | c1
  · have s1 : szL 1048576 (x.Files.length + szF x.Files + (x.Wait.length + szO x.Wait)) = -1 := szL_neg _ _ c1
    refine fnOK_of true mixed Try.func4 rfl (by rfl) (by rfl) ?_
    have hres := congrArg Array.toList Try.results4
    simp only [Try.ntmps4, BGB, seval]
    (have gx := @s1; have q1 := cz; refine go ?_; (repeat' first | exact Ef.mk | apply Lf.mk | refine fun (K : KT) hK hE hT => ?_ | refine fun (KS : KE) hKS => ?_ | refine fun (D : KD) hD => ?_ | refine fun (hg : (_ : Prop)) => ?_ | fail); all_goals (first | (refine Wr.mk ?_; (try clear gx q1); repeat first | clear hK hE hT K | clear hR hE hT K) | assumption | skip))
    (refine post_a hres (.inl rfl) ?_; simp only [RSB, ENB, seval, tiAll, true_and]; simp only [MAB, seval]; refine ⟨rfl, rfl, ?_, ?_, ?_⟩ <;> (first | rfl | (simp [WKB, Nat.add_comm, true_and]; done) | (simp only [WKB, seval])))
  have s1 : szL 1048576 (x.Files.length + szF x.Files + (x.Wait.length + szO x.Wait)) = ((1048576 - (x.Files.length + szF x.Files + (x.Wait.length + szO x.Wait)) : Nat) : Int) := szL_sub _ _ c1
  have zz := szD_of c1
  have bl := szD_L zz
  have b1 := fiSum_sz x.Files
  have b2 := opSum_sz x.Wait
  have ev := eqDisk_k x x bl bl
  rw [decide_eq_true rfl] at ev
  have ct := toDisk_k x bl
  have cm := markDisk_k x 1 (by omega)
  have cs := specSeen_b x zz
  have ci := implSeen_k x zz
  obtain ⟨z0, z1, z2⟩ := seenR_len x
  obtain ⟨r, hr⟩ : ∃ r, r = seenR x := ⟨_, rfl⟩
  rw [← hr] at cs ci z0 z1 z2
  clear hr
  have b3 := fiSum_by r
  have ee := eqFileS_k r r (by omega) (by omega) z2 z2
  rw [decide_eq_true rfl] at ee
  have m2 := markFileS_k r 1 (by omega)
  have m3 := heldFileS_k r 1 (by omega)
  refine fnOK_of true mixed Try.func4 rfl (by rfl) (by rfl) ?_
  have hres := congrArg Array.toList Try.results4
  simp only [Try.ntmps4, BGB, seval]
  (have gx := And.intro (@s1) (And.intro @range_len @bne_self_eq_false.{0}); have q1 := cz; have q2 := ct; have q3 := cs; have q4 := ci; have q5 := ee; have q6 := ev; have q7 := cm; have q8 := m2; have q9 := m3; refine go ?_; (repeat' first | exact Ef.mk | apply Lf.mk | refine fun (K : KT) hK hE hT => ?_ | refine fun (KS : KE) hKS => ?_ | refine fun (D : KD) hD => ?_ | refine fun (hg : (_ : Prop)) => ?_ | fail); all_goals (first | (refine Wr.mk ?_; (try clear gx q1 q2 q3 q4 q5 q6 q7 q8 q9); repeat first | clear hK hE hT K | clear hR hE hT K) | assumption | skip))
  all_goals (refine post_a hres (.inl rfl) ?_; simp only [RSB, ENB, seval, tiAll, true_and]; simp only [MAB, seval]; refine ⟨rfl, rfl, ?_, ?_, ?_⟩ <;> (first | rfl | (simp [WKB, Nat.add_comm, true_and]; done) | (simp only [WKB, seval])))

end Go.Proofs.Ytfnhchcgieeedaa

namespace Go.Proofs.Ytfnhchcgieeedaa
set_option linter.unusedSimpArgs false
set_option linter.unusedVariables false
set_option linter.defProp false
set_option maxRecDepth 20000
open Go.RowKit

theorem plainN_two {g : Nat} {b : Blk} {T T' : Nat} {es es' : List (List DC)} (h : (g, some b) ∈ [(2, some (Blk.mix T es)), (3, some (.nst T' es' none))]) : 2 ≤ g ∧ b.plainN := by
  simp at h
  rcases h with ⟨rfl, rfl⟩ | ⟨rfl, rfl⟩ <;> exact ⟨by decide, trivial⟩
theorem specDiskSync_b (d : DiskD) (hz : szD d) : FnOK Try.prog 29 ⟨2, [(0, some (.nst 95 ((d.Files).map (FileD.k 5)) none)), (1, some (.nst 66 ((d.Wait).map (FsOpD.k 5)) none))], [.agg [.v (.int .i64 d.Room), .v (.int .i64 d.Fuse), .sl 0 2 0 (d.Files).length, .sl 1 4 0 (d.Wait).length]], .tup [.inr [.v (.int .i64 (syR d).Room), .v (.int .i64 (syR d).Fuse), .sl 2 2 0 ((syR d).Files).length, .sl 3 4 0 ((syR d).Wait).length], .inl (.v (.int .i64 (syC d)))], [(0, none), (1, none), (2, some (.mix 95 (((syR d).Files).map (FileD.k 5)))), (3, some (.nst 66 (((syR d).Wait).map (FsOpD.k 5)) none))], 4⟩ :=
  FnOK.giveN (i := 0) (FnOK.giveN (i := 1) (specDiskSync_k d hz) (by simp [wfs, cvOff]) rfl (by decide) (.inr (.inl ⟨_, rfl⟩)) (by simp) fun g b hb => plainN_two hb) (by simp [wfs, cvOff]) rfl (by decide) (.inr (.inl ⟨_, rfl⟩)) (by simp) fun g b hb => by
    rcases List.mem_cons.1 hb with hb | hb
    · cases hb
    · exact plainN_two hb

theorem syR_mk (d : DiskD) (hz : szD d) (hs : opSum d.Wait ≤ 9999999) (hf : fiSum d.Files ≤ 1099511 + 1048576) : (syR d).Files.length ≤ 1048576 ∧ (syR d).Wait.length ≤ 1048576 ∧ (∀ f ∈ (syR d).Files, f.Data.length ≤ 1048576) ∧ (∀ o ∈ (syR d).Wait, o.Data.length ≤ 1048576) ∧ fiSum (syR d).Files ≤ 9999999 ∧ opSum (syR d).Wait ≤ 9999999 := by
  by_cases hp : diskP d
  · by_cases h0 : d.Fuse = 0
    · rw [syR_z hp h0]
      exact ⟨hz.1, hz.2.1, fun f h => (hz.2.2.1 f h).2, fun o h => (hz.2.2.2 o h).2.2, by omega, hs⟩
    · rw [syR_y hp h0]
      obtain ⟨q1, q2, q3, q4⟩ := stF_ok hp (Nat.le_refl _)
      have hb := fiSum_by (seenF d)
      have q2' : (seenF d).length ≤ 72 := q2
      have q3' : byF (seenF d) ≤ 200000 := q3
      refine ⟨?_, by simp, fun f h => ?_, fun o h => (by cases h), ?_, by simp [opSum]⟩
      · show (seenF d).length ≤ _; omega
      · have := q4 f h; omega
      · show fiSum (seenF d) ≤ _; omega
  · rw [syR_n hp]; simp [dk0, fiSum, opSum]

set_option maxHeartbeats 16000000 in
theorem FnExactDiskSync_k (x : DiskD) (rx : x.rng) : FnOK Try.prog 6 ⟨2, [(0, some (.ro ((x.Files).map (FileD.k 5)))), (1, some (.ro ((x.Wait).map (FsOpD.k 5))))], [.agg [.v (.int .i64 x.Room), .v (.int .i64 x.Fuse), .sl 0 2 0 (x.Files).length, .sl 1 4 0 (x.Wait).length]], .c (.v (.bool true)), [], 2⟩ := by
  have r0 := rx.2.2.1.1
  have r1 : ∀ s ∈ x.Files, s.Name.length ≤ 9223372036854775807 ∧ s.Data.length ≤ 9223372036854775807 := fun s hs => by
    have := rx.2.2.1.2 s hs
    unfold FileD.rng maxLen at this
    omega
  have r2 := rx.2.2.2.1
  have r3 : ∀ s ∈ x.Wait, s.Name.length ≤ 9223372036854775807 ∧ s.To.length ≤ 9223372036854775807 ∧ s.Data.length ≤ 9223372036854775807 := fun s hs => by
    have := rx.2.2.2.2 s hs
    unfold FsOpD.rng maxLen at this
    omega
  simp only [maxLen] at r0 r2
  have cz := szDisk_k x 1048576 ⟨by omega, fun s hs => (r1 s hs).1, fun s hs => (r1 s hs).2⟩ ⟨by omega, fun s hs => (r3 s hs).1, fun s hs => (r3 s hs).2.1, fun s hs => (r3 s hs).2.2⟩ (by omega)
  rcases Nat.lt_or_ge 1048576 (x.Files.length + szF x.Files + (x.Wait.length + szO x.Wait)) with c1 | c1
  · have s1 : szL 1048576 (x.Files.length + szF x.Files + (x.Wait.length + szO x.Wait)) = -1 := szL_neg _ _ c1
    refine fnOK_of true mixed Try.func6 rfl (by rfl) (by rfl) ?_
    have hres := congrArg Array.toList Try.results6
    simp only [Try.ntmps6, BGB, seval]
    (have gx := @s1; have q1 := cz; refine go ?_; (repeat' first | exact Ef.mk | apply Lf.mk | refine fun (K : KT) hK hE hT => ?_ | refine fun (KS : KE) hKS => ?_ | refine fun (D : KD) hD => ?_ | refine fun (hg : (_ : Prop)) => ?_ | fail); all_goals (first | (refine Wr.mk ?_; (try clear gx q1); repeat first | clear hK hE hT K | clear hR hE hT K) | assumption | skip))
    (refine post_a hres (.inl rfl) ?_; simp only [RSB, ENB, seval, tiAll, true_and]; simp only [MAB, seval]; refine ⟨rfl, rfl, ?_, ?_, ?_⟩ <;> (first | rfl | (simp [WKB, Nat.add_comm, true_and]; done) | (simp only [WKB, seval])))
  have s1 : szL 1048576 (x.Files.length + szF x.Files + (x.Wait.length + szO x.Wait)) = ((1048576 - (x.Files.length + szF x.Files + (x.Wait.length + szO x.Wait)) : Nat) : Int) := szL_sub _ _ c1
  have zz := szD_of c1
  have bl := szD_L zz
  have b1 := fiSum_sz x.Files
  have b2 := opSum_sz x.Wait
  have ev := eqDisk_k x x bl bl
  rw [decide_eq_true rfl] at ev
  have ct := toDisk_k x bl
  have cm := markDisk_k x 1 (by omega)
  have cs := specDiskSync_b x zz
  have ci := implDiskSync_k x zz
  obtain ⟨z0, z1, z2, z3, z4, z5⟩ := syR_mk x zz (by omega) (by omega)
  obtain ⟨r, hr⟩ : ∃ r, r = syR x := ⟨_, rfl⟩
  rw [← hr] at cs ci z0 z1 z2 z3 z4 z5
  clear hr
  obtain ⟨c, hc⟩ : ∃ c, c = syC x := ⟨_, rfl⟩
  rw [← hc] at cs ci
  clear hc
  have br : (r.Files).length ≤ 1048576 ∧ (r.Wait).length ≤ 1048576 ∧ (∀ s ∈ r.Files, s.Data.length ≤ 1048576) ∧ (∀ s ∈ r.Wait, s.Data.length ≤ 1048576) := ⟨z0, z1, z2, z3⟩
  have ee := eqDisk_k r r br br
  rw [decide_eq_true rfl] at ee
  have m2 := markDisk_k r 1 (by omega)
  have m3 := heldDisk_k r 1 (by omega)
  refine fnOK_of true mixed Try.func6 rfl (by rfl) (by rfl) ?_
  have hres := congrArg Array.toList Try.results6
  simp only [Try.ntmps6, BGB, seval]
  (have gx := And.intro (@s1) (And.intro @range_len @bne_self_eq_false.{0}); have q1 := cz; have q2 := ct; have q3 := cs; have q4 := ci; have q5 := ee; have q6 := ev; have q7 := cm; have q8 := m2; have q9 := m3; refine go ?_; (repeat' first | exact Ef.mk | apply Lf.mk | refine fun (K : KT) hK hE hT => ?_ | refine fun (KS : KE) hKS => ?_ | refine fun (D : KD) hD => ?_ | refine fun (hg : (_ : Prop)) => ?_ | fail); all_goals (first | (refine Wr.mk ?_; (try clear gx q1 q2 q3 q4 q5 q6 q7 q8 q9); repeat first | clear hK hE hT K | clear hR hE hT K) | assumption | skip))
  all_goals (refine post_a hres (.inl rfl) ?_; simp only [RSB, ENB, seval, tiAll, true_and]; simp only [MAB, seval]; refine ⟨rfl, rfl, ?_, ?_, ?_⟩ <;> (first | rfl | (simp [WKB, Nat.add_comm, true_and]; done) | (simp only [WKB, seval])))

end Go.Proofs.Ytfnhchcgieeedaa
