/-
  Contracts of the law's helpers for a disk. No conditions of its own.
-/
import Derived.Test.YtfnhchcgieeedaaGO
import Derived.Test.YtfnhchcgieeedaaDH3
namespace Go.Proofs.Ytfnhchcgieeedaa
set_option linter.unusedSimpArgs false
set_option linter.unusedVariables false
set_option linter.unusedSimpArgs false
set_option linter.unusedVariables false
set_option linter.defProp false
set_option maxRecDepth 20000
open Go.RowKit

structure DiskD where
  Room : Int
  Fuse : Int
  Files : List FileD
  Wait : List FsOpD
deriving DecidableEq

set_option maxHeartbeats 2000000 in
theorem toDisk_k (x : DiskD) (h : (x.Files).length ≤ 1048576 ∧ (x.Wait).length ≤ 1048576 ∧ (∀ s ∈ x.Files, s.Data.length ≤ 1048576) ∧ (∀ s ∈ x.Wait, s.Data.length ≤ 1048576)) : FnOK Try.prog 19 ⟨2, [(0, some (.ro ((x.Files).map (FileD.k 5)))), (1, some (.ro ((x.Wait).map (FsOpD.k 5))))], [.agg [.v (.int .i64 x.Room), .v (.int .i64 x.Fuse), .sl 0 2 0 (x.Files).length, .sl 1 4 0 (x.Wait).length]], .agg [.v (.int .i64 x.Room), .v (.int .i64 x.Fuse), .sl 2 2 0 (x.Files).length, .sl 3 4 0 (x.Wait).length], [(2, some (.nst 95 ((x.Files).map (FileD.k 5)) none)), (3, some (.nst 66 ((x.Wait).map (FsOpD.k 5)) none))], 4⟩ := by
  obtain ⟨h1, h2, h3, h4⟩ := h
  have c1 := toFileS_k x.Files h1 h3
  have c2 := toFsOpS_k x.Wait h2 h4
  refine fnOK_of true mixed Try.func19 rfl (by rfl) (by rfl) ?_
  have hres := congrArg Array.toList Try.results19
  simp only [Try.ntmps19, BGB, seval]
  (have gx := true_and True; have q1 := c1; have q2 := c2; refine go ?_; (repeat' first | exact Ef.mk | apply Lf.mk | refine fun (K : KT) hK hE hT => ?_ | refine fun (KS : KE) hKS => ?_ | refine fun (D : KD) hD => ?_ | refine fun (hg : (_ : Prop)) => ?_ | fail); all_goals (first | (refine Wr.mk ?_; (try clear gx q1 q2); repeat first | clear hK hE hT K | clear hR hE hT K) | assumption | skip))
  (refine post_a hres (.inl rfl) ?_; simp only [RSB, ENB, seval, tiAll, true_and]; simp only [MAB, seval]; refine ⟨rfl, rfl, ?_, ?_, ?_⟩ <;> (first | rfl | (simp [WKB, Nat.add_comm, true_and]; done) | (simp only [WKB, seval])))

set_option maxHeartbeats 2000000 in
theorem eqDisk_k (x y : DiskD) (h : (x.Files).length ≤ 1048576 ∧ (x.Wait).length ≤ 1048576 ∧ (∀ s ∈ x.Files, s.Data.length ≤ 1048576) ∧ (∀ s ∈ x.Wait, s.Data.length ≤ 1048576)) (k : (y.Files).length ≤ 1048576 ∧ (y.Wait).length ≤ 1048576 ∧ (∀ s ∈ y.Files, s.Data.length ≤ 1048576) ∧ (∀ s ∈ y.Wait, s.Data.length ≤ 1048576)) : FnOK Try.prog 22 ⟨4, [(0, some (.ro ((x.Files).map (FileD.k 5)))), (1, some (.ro ((x.Wait).map (FsOpD.k 5)))), (2, some (.ro ((y.Files).map (FileD.k 5)))), (3, some (.ro ((y.Wait).map (FsOpD.k 5))))], [.agg [.v (.int .i64 x.Room), .v (.int .i64 x.Fuse), .sl 0 2 0 (x.Files).length, .sl 1 4 0 (x.Wait).length], .agg [.v (.int .i64 y.Room), .v (.int .i64 y.Fuse), .sl 2 2 0 (y.Files).length, .sl 3 4 0 (y.Wait).length]], .c (.v (.bool (decide (x = y)))), [], 4⟩ := by
  obtain ⟨h1, h2, h3, h4⟩ := h
  obtain ⟨k1, k2, k3, k4⟩ := k
  have c1 := eqFileS_k x.Files y.Files h1 k1 h3 k3
  have c2 := eqFsOpS_k x.Wait y.Wait h2 k2 h4 k4
  have hd : (x = y) ↔ (x.Room = y.Room ∧ x.Fuse = y.Fuse ∧ x.Files = y.Files ∧ x.Wait = y.Wait) := by cases x; cases y; simp
  refine fnOK_of true mixed Try.func22 rfl (by rfl) (by rfl) ?_
  have hres := congrArg Array.toList Try.results22
  simp only [Try.ntmps22, BGB, seval]
  (have gx := true_and True; have q1 := c1; have q2 := c2; refine go ?_; (repeat' first | exact Ef.mk | apply Lf.mk | refine fun (K : KT) hK hE hT => ?_ | refine fun (KS : KE) hKS => ?_ | refine fun (D : KD) hD => ?_ | refine fun (hg : (_ : Prop)) => ?_ | fail); all_goals (first | (refine Wr.mk ?_; (try clear gx q1 q2); repeat first | clear hK hE hT K | clear hR hE hT K) | assumption | skip))
  all_goals (refine post_a hres (.inl rfl) ?_; simp only [RSB, ENB, seval, tiAll, true_and]; simp only [MAB, seval]; refine ⟨rfl, rfl, ?_, ?_, ?_⟩ <;> (first | rfl | (simp [WKB, Nat.add_comm, true_and]; done) | (simp only [WKB, seval])))
  all_goals (refine congrArg (fun b => SV.c (CV.v (Value.bool b))) ?_; symm; simp only [decide_eq_false_iff_not, decide_eq_true_eq, hd]; simp_all)

set_option maxHeartbeats 2000000 in
theorem markDisk_k (x : DiskD) (k : Nat) (h : k + fiSum x.Files + opSum x.Wait ≤ 1099511627) : FnOK Try.prog 23 ⟨2, [(0, some (.nst 95 ((x.Files).map (FileD.k 5)) none)), (1, some (.nst 66 ((x.Wait).map (FsOpD.k 5)) none))], [.agg [.v (.int .i64 x.Room), .v (.int .i64 x.Fuse), .sl 0 2 0 (x.Files).length, .sl 1 4 0 (x.Wait).length], .c (.v (.int .i64 (k : Int)))], .c (.v (.int .i64 ((k + fiSum x.Files + opSum x.Wait : Nat) : Int))), [(0, some (.nst 95 ((List.range (x.Files).length).map (fiG 5 k x.Files)) none)), (1, some (.nst 66 ((List.range (x.Wait).length).map (opG 5 (k + fiSum x.Files) x.Wait)) none))], 2⟩ := by
  have c1 := markFileS_k x.Files k (by omega)
  have c2 := markFsOpS_k x.Wait (k + fiSum x.Files) (by omega)
  refine fnOK_of true mixed Try.func23 rfl (by rfl) (by rfl) ?_
  have hres := congrArg Array.toList Try.results23
  simp only [Try.ntmps23, BGB, seval]
  (have gx := @range_len; have q1 := c1; have q2 := c2; refine go ?_; (repeat' first | exact Ef.mk | apply Lf.mk | refine fun (K : KT) hK hE hT => ?_ | refine fun (KS : KE) hKS => ?_ | refine fun (D : KD) hD => ?_ | refine fun (hg : (_ : Prop)) => ?_ | fail); all_goals (first | (refine Wr.mk ?_; (try clear gx q1 q2); repeat first | clear hK hE hT K | clear hR hE hT K) | assumption | skip))
  (refine post_a hres (.inl rfl) ?_; simp only [RSB, ENB, seval, tiAll, true_and]; simp only [MAB, seval]; refine ⟨rfl, rfl, ?_, ?_, ?_⟩ <;> (first | rfl | (simp [WKB, Nat.add_comm, true_and]; done) | (simp only [WKB, seval])))

set_option maxHeartbeats 2000000 in
theorem heldDisk_k (x : DiskD) (k : Nat) (h : k + fiSum x.Files + opSum x.Wait ≤ 1099511627) : FnOK Try.prog 28 ⟨2, [(0, some (.ro ((List.range (x.Files).length).map (fiG 5 k x.Files)))), (1, some (.ro ((List.range (x.Wait).length).map (opG 5 (k + fiSum x.Files) x.Wait))))], [.agg [.v (.int .i64 x.Room), .v (.int .i64 x.Fuse), .sl 0 2 0 (x.Files).length, .sl 1 4 0 (x.Wait).length], .c (.v (.int .i64 (k : Int)))], .c (.v (.int .i64 ((k + fiSum x.Files + opSum x.Wait : Nat) : Int))), [], 2⟩ := by
  have c1 := heldFileS_k x.Files k (by omega)
  have c2 := heldFsOpS_k x.Wait (k + fiSum x.Files) (by omega)
  refine fnOK_of true mixed Try.func28 rfl (by rfl) (by rfl) ?_
  have hres := congrArg Array.toList Try.results28
  simp only [Try.ntmps28, BGB, seval]
  (have gx := @range_len; have q1 := c1; have q2 := c2; refine go ?_; (repeat' first | exact Ef.mk | apply Lf.mk | refine fun (K : KT) hK hE hT => ?_ | refine fun (KS : KE) hKS => ?_ | refine fun (D : KD) hD => ?_ | refine fun (hg : (_ : Prop)) => ?_ | fail); all_goals (first | (refine Wr.mk ?_; (try clear gx q1 q2); repeat first | clear hK hE hT K | clear hR hE hT K) | assumption | skip))
  (refine post_a hres (.inl rfl) ?_; simp only [RSB, ENB, seval, tiAll, true_and]; simp only [MAB, seval]; refine ⟨rfl, rfl, ?_, ?_, ?_⟩ <;> (first | rfl | (simp [WKB, Nat.add_comm, true_and]; done) | (simp only [WKB, seval])))

set_option maxHeartbeats 4000000 in
theorem szDisk_k (x : DiskD) (b : Nat) (h1 : x.Files.length ≤ 9223372036854775807 ∧ (∀ s ∈ x.Files, s.Name.length ≤ 9223372036854775807) ∧ ∀ s ∈ x.Files, s.Data.length ≤ 9223372036854775807)
    (h2 : x.Wait.length ≤ 9223372036854775807 ∧ (∀ s ∈ x.Wait, s.Name.length ≤ 9223372036854775807) ∧ (∀ s ∈ x.Wait, s.To.length ≤ 9223372036854775807) ∧ ∀ s ∈ x.Wait, s.Data.length ≤ 9223372036854775807) (hb : b ≤ 1048576) :
    FnOK Try.prog 17 ⟨2, [(0, some (.ro ((x.Files).map (FileD.k 5)))), (1, some (.ro ((x.Wait).map (FsOpD.k 5))))], [.agg [.v (.int .i64 x.Room), .v (.int .i64 x.Fuse), .sl 0 2 0 (x.Files).length, .sl 1 4 0 (x.Wait).length], .c (.v (.int .i64 (b : Int)))], .c (.v (.int .i64 (szL b (x.Files.length + szF x.Files + (x.Wait.length + szO x.Wait))))), [], 2⟩ := by
  have c1 := szFileS_k x.Files b 5 h1.1 h1.2.1 h1.2.2 hb
  rcases Nat.lt_or_ge b (x.Files.length + szF x.Files) with h0 | h0
  · rw [szL_neg _ _ h0] at c1
    refine fnOK_of true mixed Try.func17 rfl (by rfl) (by rfl) ?_
    have hres := congrArg Array.toList Try.results17
    simp only [Try.ntmps17, BGB, seval]
    (have gx := true_and True; have q1 := c1; refine go ?_; (repeat' first | exact Ef.mk | apply Lf.mk | refine fun (K : KT) hK hE hT => ?_ | refine fun (KS : KE) hKS => ?_ | refine fun (D : KD) hD => ?_ | refine fun (hg : (_ : Prop)) => ?_ | fail); all_goals (first | (refine Wr.mk ?_; (try clear gx q1); repeat first | clear hK hE hT K | clear hR hE hT K) | assumption | skip))
    (refine post_a hres (.inl rfl) ?_; simp only [RSB, ENB, seval, tiAll, szL_neg b (x.Files.length + szF x.Files + (x.Wait.length + szO x.Wait)) (by omega)]; simp only [MAB, seval]; refine ⟨rfl, rfl, ?_, ?_, ?_⟩ <;> (first | rfl | (simp [WKB, Nat.add_comm, szL_neg b (x.Files.length + szF x.Files + (x.Wait.length + szO x.Wait)) (by omega)]; done) | (simp only [WKB, seval])))
  · rw [szL_sub _ _ h0] at c1
    have c2 := szFsOpS_k x.Wait (b - (x.Files.length + szF x.Files)) 5 h2.1 h2.2.1 h2.2.2.1 h2.2.2.2 (by omega)
    rcases Nat.lt_or_ge (b - (x.Files.length + szF x.Files)) (x.Wait.length + szO x.Wait) with h3 | h3
    · rw [szL_neg _ _ h3] at c2
      refine fnOK_of true mixed Try.func17 rfl (by rfl) (by rfl) ?_
      have hres := congrArg Array.toList Try.results17
      simp only [Try.ntmps17, BGB, seval]
      (have gx := true_and True; have q1 := c1; have q2 := c2; refine go ?_; (repeat' first | exact Ef.mk | apply Lf.mk | refine fun (K : KT) hK hE hT => ?_ | refine fun (KS : KE) hKS => ?_ | refine fun (D : KD) hD => ?_ | refine fun (hg : (_ : Prop)) => ?_ | fail); all_goals (first | (refine Wr.mk ?_; (try clear gx q1 q2); repeat first | clear hK hE hT K | clear hR hE hT K) | assumption | skip))
      (refine post_a hres (.inl rfl) ?_; simp only [RSB, ENB, seval, tiAll, szL_neg b (x.Files.length + szF x.Files + (x.Wait.length + szO x.Wait)) (by omega)]; simp only [MAB, seval]; refine ⟨rfl, rfl, ?_, ?_, ?_⟩ <;> (first | rfl | (simp [WKB, Nat.add_comm, szL_neg b (x.Files.length + szF x.Files + (x.Wait.length + szO x.Wait)) (by omega)]; done) | (simp only [WKB, seval])))
    · rw [szL_sub _ _ h3] at c2
      refine fnOK_of true mixed Try.func17 rfl (by rfl) (by rfl) ?_
      have hres := congrArg Array.toList Try.results17
      simp only [Try.ntmps17, BGB, seval]
      (have gx := true_and True; have q1 := c1; have q2 := c2; refine go ?_; (repeat' first | exact Ef.mk | apply Lf.mk | refine fun (K : KT) hK hE hT => ?_ | refine fun (KS : KE) hKS => ?_ | refine fun (D : KD) hD => ?_ | refine fun (hg : (_ : Prop)) => ?_ | fail); all_goals (first | (refine Wr.mk ?_; (try clear gx q1 q2); repeat first | clear hK hE hT K | clear hR hE hT K) | assumption | skip))
      have e2 : b - (x.Files.length + szF x.Files) - (x.Wait.length + szO x.Wait) = b - (x.Files.length + szF x.Files + (x.Wait.length + szO x.Wait)) := by omega
      (refine post_a hres (.inl rfl) ?_; simp only [RSB, ENB, seval, tiAll, szL_sub b (x.Files.length + szF x.Files + (x.Wait.length + szO x.Wait)) (by omega), e2]; simp only [MAB, seval]; refine ⟨rfl, rfl, ?_, ?_, ?_⟩ <;> (first | rfl | (simp [WKB, Nat.add_comm, szL_sub b (x.Files.length + szF x.Files + (x.Wait.length + szO x.Wait)) (by omega), e2]; done) | (simp only [WKB, seval])))

end Go.Proofs.Ytfnhchcgieeedaa
