/-
  The program's copy of a disk. No conditions of its own.
-/
import Derived.Test.YtfnhchcgieeedaaGO
import Derived.Test.YtfnhchcgieeedaaDI9
namespace Go.Proofs.Ytfnhchcgieeedaa
set_option linter.unusedSimpArgs false
set_option linter.unusedVariables false
set_option linter.unusedSimpArgs false
set_option linter.unusedVariables false
set_option linter.defProp false
set_option maxRecDepth 20000
open Go.RowKit

set_option maxHeartbeats 8000000 in
theorem copyDisk_k (d : DiskD) (h : (d.Files).length ≤ 1048576 ∧ (d.Wait).length ≤ 1048576 ∧ (∀ s ∈ d.Files, s.Data.length ≤ 1048576) ∧ (∀ s ∈ d.Wait, s.Data.length ≤ 1048576)) : FnOK Try.prog 76 ⟨2, [(0, some (.ro ((d.Files).map (FileD.k 5)))), (1, some (.ro ((d.Wait).map (FsOpD.k 5))))], [.agg [.v (.int .i64 d.Room), .v (.int .i64 d.Fuse), .sl 0 2 0 (d.Files).length, .sl 1 4 0 (d.Wait).length]], .agg [.v (.int .i64 d.Room), .v (.int .i64 d.Fuse), .sl 2 2 0 (d.Files).length, .sl 3 4 0 (d.Wait).length], [(2, some (.nst 95 ((d.Files).map (FileD.k 5)) none)), (3, some (.nst 66 ((d.Wait).map (FsOpD.k 5)) none))], 4⟩ := by
  obtain ⟨h1, h2, h3, h4⟩ := h
  refine fnOK_of true mixed Try.func76 rfl (by rfl) (by rfl) ?_
  have hres := congrArg Array.toList Try.results76
  simp only [Try.ntmps76, BGB, seval]
  (have gx := @List.length_map.{0,0}; refine go ?_; (repeat' first | exact Ef.mk | apply Lf.mk | refine fun (K : KT) hK hE hT => ?_ | refine fun (KS : KE) hKS => ?_ | refine fun (D : KD) hD => ?_ | refine fun (hg : (_ : Prop)) => ?_ | fail); all_goals (first | (refine Wr.mk ?_; (try clear gx); repeat first | clear hK hE hT K | clear hR hE hT K) | assumption | skip))
  refine loop_v (X := {k : Nat // k ≤ d.Files.length}) [] (fun x => [(16, .c (.v (.int .i64 ((x.1 : Nat) : Int))))]) (fun x => [(0, some (.ro ((d.Files).map (FileD.k 5)))), (1, some (.ro ((d.Wait).map (FsOpD.k 5)))), (2, some (.box 50 [.v (.int .i64 d.Room), .v (.int .i64 d.Fuse), .sl 0 2 0 (d.Files).length, .sl 1 4 0 (d.Wait).length])), (3, some (.box 50 [.v (.int .i64 0), .v (.int .i64 0), .nil, .nil])), (5, some (.nst 95 ((d.Files.take x.1).map (FileD.k 5)) none)), (4, some (.box 50 [.v (.int .i64 d.Room), .v (.int .i64 d.Fuse), .sl 5 2 0 (d.Files.take x.1).length, .nil]))]) 6 (fun x => d.Files.length - x.1) ⟨0, by omega⟩ ?_
  simp only [KPB, seval]
  refine ⟨?_, ?_⟩
  · (refine wk_a ?_; simp only [MAB, seval]; refine ⟨rfl, rfl, (by decide), ?_, ?_⟩; all_goals (first | (simp only [WKB, seval, List.take_zero, List.map_nil]; done) | (simp [WKB, seval, List.take_zero, List.map_nil]; done) | simp only [WKB, seval]))
  · rintro ⟨k, hk⟩ K hR hE hT
    have l1 : (d.Files.take k).length = k := by rw [List.length_take]; omega
    rcases Nat.lt_or_ge k d.Files.length with hlt | hge
    case inr =>
      obtain rfl : k = d.Files.length := by omega
      simp only [List.take_length]
      (have gx := @List.length_map.{0,0}; refine go ?_; (repeat' first | exact Ef.mk | apply Lf.mk | refine fun (K : KT) hK hE hT => ?_ | refine fun (KS : KE) hKS => ?_ | refine fun (D : KD) hD => ?_ | refine fun (hg : (_ : Prop)) => ?_ | fail); all_goals (first | (refine Wr.mk ?_; (try clear gx); repeat first | clear hK hE hT K | clear hR hE hT K) | assumption | skip))
      refine loop_v (X := {k : Nat // k ≤ d.Wait.length}) [] (fun x => [(35, .c (.v (.int .i64 ((x.1 : Nat) : Int))))]) (fun x => [(0, some (.ro ((d.Files).map (FileD.k 5)))), (1, some (.ro ((d.Wait).map (FsOpD.k 5)))), (2, some (.box 50 [.v (.int .i64 d.Room), .v (.int .i64 d.Fuse), .sl 0 2 0 (d.Files).length, .sl 1 4 0 (d.Wait).length])), (3, some (.box 50 [.v (.int .i64 0), .v (.int .i64 0), .nil, .nil])), (5, some (.nst 95 (d.Files.map (FileD.k 5)) none)), (6, some (.nst 66 ((d.Wait.take x.1).map (FsOpD.k 5)) none)), (4, some (.box 50 [.v (.int .i64 d.Room), .v (.int .i64 d.Fuse), .sl 5 2 0 d.Files.length, .sl 6 4 0 (d.Wait.take x.1).length]))]) 7 (fun x => d.Wait.length - x.1) ⟨0, by omega⟩ ?_
      simp only [KPB, seval]
      refine ⟨?_, ?_⟩
      · (refine wk_a ?_; simp only [MAB, seval]; refine ⟨rfl, rfl, (by decide), ?_, ?_⟩; all_goals (first | (simp only [WKB, seval, List.take_zero, List.map_nil]; done) | (simp [WKB, seval, List.take_zero, List.map_nil]; done) | simp only [WKB, seval]))
      · rintro ⟨k, hk⟩ K hR hE hT
        have l1 : (d.Wait.take k).length = k := by rw [List.length_take]; omega
        rcases Nat.lt_or_ge k d.Wait.length with hlt | hge
        case inr =>
          obtain rfl : k = d.Wait.length := by omega
          simp only [List.take_length]
          (have gx := @List.length_map.{0,0}; refine go ?_; (repeat' first | exact Ef.mk | apply Lf.mk | refine fun (K : KT) hK hE hT => ?_ | refine fun (KS : KE) hKS => ?_ | refine fun (D : KD) hD => ?_ | refine fun (hg : (_ : Prop)) => ?_ | fail); all_goals (first | (refine Wr.mk ?_; (try clear gx); repeat first | clear hK hE hT K | clear hR hE hT K) | assumption | skip))
          (refine post_a hres (.inl rfl) ?_; simp only [RSB, ENB, seval, tiAll, true_and]; simp only [MAB, seval]; refine ⟨rfl, rfl, ?_, ?_, ?_⟩ <;> (first | rfl | (simp [WKB, Nat.add_comm, true_and]; done) | (simp only [WKB, seval])))
        case inl =>
          have e : (d.Wait.take (k + 1)).map (FsOpD.k 5) = (d.Wait.take k).map (FsOpD.k 5) ++ [FsOpD.k 5 d.Wait[k]] := by rw [List.take_succ_eq_append_getElem hlt, List.map_append]; rfl
          have l2 : (d.Wait.take (k + 1)).length = k + 1 := by rw [List.length_take]; omega
          have c := copyOp_k d.Wait[k] (h4 _ (List.getElem_mem hlt))
          (have gx := And.intro (@List.length_map.{0,0}) (And.intro (@List.getElem_map.{0,0}) (And.intro @FsOpD.k.eq_1 @l1)); have q1 := c; refine go ?_; (repeat' first | exact Ef.mk | apply Lf.mk | refine fun (K : KT) hK hE hT => ?_ | refine fun (KS : KE) hKS => ?_ | refine fun (D : KD) hD => ?_ | refine fun (hg : (_ : Prop)) => ?_ | fail); all_goals (first | (refine Wr.mk ?_; (try clear gx q1); repeat first | clear hK hE hT K | clear hR hE hT K) | assumption | skip))
          (refine hR.out ⟨k + 1, by omega⟩ _ _ _ (by simp only; omega) ?_; (refine wk_a ?_; simp only [MAB, seval]; refine ⟨rfl, rfl, (by decide), ?_, ?_⟩; all_goals (first | (simp only [WKB, seval, e, FsOpD.k, l1, l2]; done) | (simp [WKB, seval, e, FsOpD.k, l1, l2]; done) | simp only [WKB, seval])))
    case inl =>
      have e : (d.Files.take (k + 1)).map (FileD.k 5) = (d.Files.take k).map (FileD.k 5) ++ [FileD.k 5 d.Files[k]] := by rw [take_snoc hlt, List.map_append]; rfl
      have l2 : (d.Files.take (k + 1)).length = k + 1 := by rw [List.length_take]; omega
      have c := copyB_k d.Files[k].Data (h3 _ (List.getElem_mem hlt))
      (have gx := And.intro (@List.length_map.{0,0}) (And.intro (@List.getElem_map.{0,0}) (And.intro @FileD.k.eq_1 @l1)); have q1 := c; refine go ?_; (repeat' first | exact Ef.mk | apply Lf.mk | refine fun (K : KT) hK hE hT => ?_ | refine fun (KS : KE) hKS => ?_ | refine fun (D : KD) hD => ?_ | refine fun (hg : (_ : Prop)) => ?_ | fail); all_goals (first | (refine Wr.mk ?_; (try clear gx q1); repeat first | clear hK hE hT K | clear hR hE hT K) | assumption | skip))
      (refine hR.out ⟨k + 1, by omega⟩ _ _ _ (by simp only; omega) ?_; (refine wk_a ?_; simp only [MAB, seval]; refine ⟨rfl, rfl, (by decide), ?_, ?_⟩; all_goals (first | (simp only [WKB, seval, e, FileD.k, l1, l2]; done) | (simp [WKB, seval, e, FileD.k, l1, l2]; done) | simp only [WKB, seval])))

end Go.Proofs.Ytfnhchcgieeedaa
