/-
  The law FnExactDiskCrash returns true. No conditions of its own.
-/
import Derived.Test.YtfnhchcgieeedaaGO
import Derived.Test.YtfnhchcgieeedaaLV37
namespace Go.Proofs.Ytfnhchcgieeedaa
set_option linter.unusedSimpArgs false
set_option linter.unusedVariables false
set_option linter.unusedSimpArgs false
set_option linter.unusedVariables false
set_option linter.defProp false
set_option maxRecDepth 20000
open Go.RowKit

theorem specDiskCrash_b (d : DiskD) (n b : Int) (hz : szD d) : FnOK Try.prog 26 ⟨2, [(0, some (.nst 95 ((d.Files).map (FileD.k 5)) none)), (1, some (.nst 66 ((d.Wait).map (FsOpD.k 5)) none))], [.agg [.v (.int .i64 d.Room), .v (.int .i64 d.Fuse), .sl 0 2 0 (d.Files).length, .sl 1 4 0 (d.Wait).length], .c (.v (.int .i64 n)), .c (.v (.int .i64 b))], .tup [.inr [.v (.int .i64 (crR d n b).Room), .v (.int .i64 (crR d n b).Fuse), .sl 2 2 0 ((crR d n b).Files).length, .sl 3 4 0 ((crR d n b).Wait).length], .inl (.v (.bool (diskO d)))], [(0, none), (1, none), (2, some (.mix 95 (((crR d n b).Files).map (FileD.k 5)))), (3, some (.nst 66 (((crR d n b).Wait).map (FsOpD.k 5)) none))], 4⟩ :=
  FnOK.giveN (i := 0) (FnOK.giveN (i := 1) (specDiskCrash_k d n b hz) (by simp [wfs, cvOff]) rfl (by decide) (.inr (.inl ⟨_, rfl⟩)) (by simp) fun g b hb => plainN_two hb) (by simp [wfs, cvOff]) rfl (by decide) (.inr (.inl ⟨_, rfl⟩)) (by simp) fun g b hb => by
    rcases List.mem_cons.1 hb with hb | hb
    · cases hb
    · exact plainN_two hb

theorem crF_mk {d : DiskD} (hp : diskP d) (n b : Int) : (crF d n b).length ≤ 73 ∧ byF (crF d n b) ≤ 600000 := by
  have hkl := clF_le n d.Wait.length
  obtain ⟨q1, q2, q3, q4⟩ := stF_ok hp hkl
  rcases Nat.lt_or_ge (clF n d.Wait.length) d.Wait.length with h | h
  · by_cases hk : (d.Wait[clF n d.Wait.length]).Kind = 2
    · rw [crF_pt h hk]
      have h1 := mkF_len (stF d.Files d.Wait (clF n d.Wait.length)) (ptO (d.Wait[clF n d.Wait.length]) b)
      have h2 := byF_mk (stF d.Files d.Wait (clF n d.Wait.length)) (ptO (d.Wait[clF n d.Wait.length]) b)
      have h3 := opO_data (hp.2.2.2.2 _ h h).1
      have h4 : (ptO (d.Wait[clF n d.Wait.length]) b).Data.length ≤ (d.Wait[clF n d.Wait.length]).Data.length := by
        show (List.take _ _).length ≤ _
        rw [List.length_take]; omega
      omega
    · rw [crF_no h hk]; omega
  · rw [crF_end (by omega)]; omega
theorem crR_mk (d : DiskD) (n b : Int) : (crR d n b).Files.length ≤ 1048576 ∧ (crR d n b).Wait.length ≤ 1048576 ∧ (∀ f ∈ (crR d n b).Files, f.Data.length ≤ 1048576) ∧ (∀ o ∈ (crR d n b).Wait, o.Data.length ≤ 1048576) ∧ fiSum (crR d n b).Files ≤ 9999999 ∧ opSum (crR d n b).Wait ≤ 9999999 := by
  by_cases hp : diskP d
  · rw [crR_y hp]
    obtain ⟨q2, q3⟩ := crF_mk hp n b
    have hb := fiSum_by (crF d n b)
    refine ⟨?_, by simp, fun f h => ?_, fun o h => (by cases h), ?_, by simp [opSum]⟩
    · show (crF d n b).length ≤ _; omega
    · have := byF_ge (M := crF d n b) h; omega
    · show fiSum (crF d n b) ≤ _; omega
  · rw [crR_n hp]; simp [dk0, fiSum, opSum]

set_option maxHeartbeats 16000000 in
theorem FnExactDiskCrash_k (x : DiskD) (n b : Int) (rx : x.rng) (_rn : I64 n) (_rb : I64 b) : FnOK Try.prog 5 ⟨2, [(0, some (.ro ((x.Files).map (FileD.k 5)))), (1, some (.ro ((x.Wait).map (FsOpD.k 5))))], [.agg [.v (.int .i64 x.Room), .v (.int .i64 x.Fuse), .sl 0 2 0 (x.Files).length, .sl 1 4 0 (x.Wait).length], .c (.v (.int .i64 n)), .c (.v (.int .i64 b))], .c (.v (.bool true)), [], 2⟩ := by
  have r0 := rx.2.2.1.1
  have r1 : ∀ s ∈ x.Files, s.Name.length ≤ 9223372036854775807 ∧ s.Data.length ≤ 9223372036854775807 := fun s hs => by
    have := rx.2.2.1.2 s hs
    unfold FileD.rng maxLen at this
    omega
  have r2 := rx.2.2.2.1
  have r3 : ∀ s ∈ x.Wait, s.Name.length ≤ 9223372036854775807 ∧ s.To.length ≤ 9223372036854775807 ∧ s.Data.length ≤ 9223372036854775807 := fun s hs => by
    have := rx.2.2.2.2 s hs
    unfold FsOpD.rng maxLen at this
    omega
  simp only [maxLen] at r0 r2
  have cz := szDisk_k x 1048576 ⟨by omega, fun s hs => (r1 s hs).1, fun s hs => (r1 s hs).2⟩ ⟨by omega, fun s hs => (r3 s hs).1, fun s hs => (r3 s hs).2.1, fun s hs => (r3 s hs).2.2⟩ (by omega)
  rcases Nat.lt_or_ge 1048576 (x.Files.length + szF x.Files + (x.Wait.length + szO x.Wait)) with c1 | c1
  · have s1 : szL 1048576 (x.Files.length + szF x.Files + (x.Wait.length + szO x.Wait)) = -1 := szL_neg _ _ c1
    refine fnOK_of true mixed Try.func5 rfl (by rfl) (by rfl) ?_
    have hres := congrArg Array.toList Try.results5
    simp only [Try.ntmps5, BGB, seval]
    (have gx := @s1; have q1 := cz; refine go ?_; (repeat' first | exact Ef.mk | apply Lf.mk | refine fun (K : KT) hK hE hT => ?_ | refine fun (KS : KE) hKS => ?_ | refine fun (D : KD) hD => ?_ | refine fun (hg : (_ : Prop)) => ?_ | fail); all_goals (first | (refine Wr.mk ?_; (try clear gx q1); repeat first | clear hK hE hT K | clear hR hE hT K) | assumption | skip))
    (refine post_a hres (.inl rfl) ?_; simp only [RSB, ENB, seval, tiAll, true_and]; simp only [MAB, seval]; refine ⟨rfl, rfl, ?_, ?_, ?_⟩ <;> (first | rfl | (simp [WKB, Nat.add_comm, true_and]; done) | (simp only [WKB, seval])))
  have s1 : szL 1048576 (x.Files.length + szF x.Files + (x.Wait.length + szO x.Wait)) = ((1048576 - (x.Files.length + szF x.Files + (x.Wait.length + szO x.Wait)) : Nat) : Int) := szL_sub _ _ c1
  have zz := szD_of c1
  have bl := szD_L zz
  have b1 := fiSum_sz x.Files
  have b2 := opSum_sz x.Wait
  have ev := eqDisk_k x x bl bl
  rw [decide_eq_true rfl] at ev
  have ct := toDisk_k x bl
  have cm := markDisk_k x 1 (by omega)
  have cs := specDiskCrash_b x n b zz
  have ci := implDiskCrash_k x n b zz
  obtain ⟨z0, z1, z2, z3, z4, z5⟩ := crR_mk x n b
  obtain ⟨r, hr⟩ : ∃ r, r = crR x n b := ⟨_, rfl⟩
  rw [← hr] at cs ci z0 z1 z2 z3 z4 z5
  clear hr
  obtain ⟨c, hc⟩ : ∃ c, c = diskO x := ⟨_, rfl⟩
  rw [← hc] at cs ci
  clear hc
  have br : (r.Files).length ≤ 1048576 ∧ (r.Wait).length ≤ 1048576 ∧ (∀ s ∈ r.Files, s.Data.length ≤ 1048576) ∧ (∀ s ∈ r.Wait, s.Data.length ≤ 1048576) := ⟨z0, z1, z2, z3⟩
  have ee := eqDisk_k r r br br
  rw [decide_eq_true rfl] at ee
  have m2 := markDisk_k r 1 (by omega)
  have m3 := heldDisk_k r 1 (by omega)
  refine fnOK_of true mixed Try.func5 rfl (by rfl) (by rfl) ?_
  have hres := congrArg Array.toList Try.results5
  simp only [Try.ntmps5, BGB, seval]
  (have gx := And.intro (@s1) (And.intro @range_len @bne_self_eq_false.{0}); have q1 := cz; have q2 := ct; have q3 := cs; have q4 := ci; have q5 := ee; have q6 := ev; have q7 := cm; have q8 := m2; have q9 := m3; refine go ?_; (repeat' first | exact Ef.mk | apply Lf.mk | refine fun (K : KT) hK hE hT => ?_ | refine fun (KS : KE) hKS => ?_ | refine fun (D : KD) hD => ?_ | refine fun (hg : (_ : Prop)) => ?_ | fail); all_goals (first | (refine Wr.mk ?_; (try clear gx q1 q2 q3 q4 q5 q6 q7 q8 q9); repeat first | clear hK hE hT K | clear hR hE hT K) | assumption | skip))
  all_goals (refine post_a hres (.inl rfl) ?_; simp only [RSB, ENB, seval, tiAll, true_and]; simp only [MAB, seval]; refine ⟨rfl, rfl, ?_, ?_, ?_⟩ <;> (first | rfl | (simp [WKB, Nat.add_comm, true_and]; done) | (simp only [WKB, seval])))

end Go.Proofs.Ytfnhchcgieeedaa
