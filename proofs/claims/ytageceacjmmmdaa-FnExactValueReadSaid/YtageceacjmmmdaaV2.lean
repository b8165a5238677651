/-
  Copies. No conditions of its own.
-/
import Derived.Test.YtageceacjmmmdaaGO
import Derived.Test.YtageceacjmmmdaaH2d
namespace Go.Proofs.Ytageceacjmmmdaa
set_option linter.unusedSimpArgs false
set_option linter.unusedVariables false
set_option linter.unusedSimpArgs false
set_option linter.unusedVariables false
set_option linter.defProp false
open Go.RowKit

theorem copyInts_k (l : List Int) (h : l.length ≤ 1048576) : FnOK Try.prog 181 ⟨1, [(0, some (.ro (l.map intK)))], [.c (.sl 0 1 0 l.length)], .c (.sl 1 1 0 l.length), [(1, some (.row 3 (l.map intK)))], 2⟩ := by
  refine fnOK_of true mixed Try.func181 rfl (by rfl) (by rfl) ?_
  have hres := congrArg Array.toList Try.results181
  simp only [Try.ntmps181, BGB, seval]
  (have gx := And.intro @List.length_map.{0,0} @map_take; refine go ?_; (repeat' (first | exact Ef.mk | refine Lf.mk ?_ ?_ | refine fun (K : KT) hK hE hT => ?_ | refine fun (KS : Eff → Prop) hKS => ?_ | refine fun (D : List Keys → Prop) hD => ?_ | refine fun (hg : (_ : Prop)) => ?_ | fail)); all_goals (first | (refine Wr.mk ?_; (try clear gx); repeat (first | (clear hK hE hT; clear K) | (clear hR hE hT; clear K))) | assumption | skip))
  (refine post_a hres (.inl rfl) ?_; simp only [RSB, ENB, seval, tiAll, true_and]; simp only [MAB, seval]; refine ⟨rfl, rfl, ?_, ?_, ?_⟩ <;> (first | rfl | (simp [WKB, Nat.add_comm, true_and]; done) | (simp only [WKB, seval])))

theorem copyBytes_k (l : List UInt8) (h : l.length ≤ 1048576) : FnOK Try.prog 116 ⟨1, [(0, some (.ro (l.map bytK)))], [.c (.sl 0 1 0 l.length)], .c (.sl 1 1 0 l.length), [(1, some (.row 5 (l.map bytK)))], 2⟩ := by
  refine fnOK_of true mixed Try.func116 rfl (by rfl) (by rfl) ?_
  have hres := congrArg Array.toList Try.results116
  simp only [Try.ntmps116, BGB, seval]
  (have gx := And.intro @List.length_map.{0,0} @map_take; refine go ?_; (repeat' (first | exact Ef.mk | refine Lf.mk ?_ ?_ | refine fun (K : KT) hK hE hT => ?_ | refine fun (KS : Eff → Prop) hKS => ?_ | refine fun (D : List Keys → Prop) hD => ?_ | refine fun (hg : (_ : Prop)) => ?_ | fail)); all_goals (first | (refine Wr.mk ?_; (try clear gx); repeat (first | (clear hK hE hT; clear K) | (clear hR hE hT; clear K))) | assumption | skip))
  (refine post_a hres (.inl rfl) ?_; simp only [RSB, ENB, seval, tiAll, true_and]; simp only [MAB, seval]; refine ⟨rfl, rfl, ?_, ?_, ?_⟩ <;> (first | rfl | (simp [WKB, Nat.add_comm, true_and]; done) | (simp only [WKB, seval])))

theorem copySet_k (x : SetD) (h : (x.Bits).length ≤ 1048576) : FnOK Try.prog 88 ⟨1, [(0, some (.ro ((x.Bits).map bytK)))], [.agg [.v (.int .i64 x.N), .sl 0 1 0 (x.Bits).length]], .agg [.v (.int .i64 x.N), .sl 1 1 0 (x.Bits).length], [(1, some (.row 5 ((x.Bits).map bytK)))], 2⟩ := by
  refine fnOK_of true mixed Try.func88 rfl (by rfl) (by rfl) ?_
  have hres := congrArg Array.toList Try.results88
  simp only [Try.ntmps88, BGB, seval]
  (have gx := @List.length_map.{0,0}; have q1 := copyBytes_k x.Bits h; refine go ?_; (repeat' (first | exact Ef.mk | refine Lf.mk ?_ ?_ | refine fun (K : KT) hK hE hT => ?_ | refine fun (KS : Eff → Prop) hKS => ?_ | refine fun (D : List Keys → Prop) hD => ?_ | refine fun (hg : (_ : Prop)) => ?_ | fail)); all_goals (first | (refine Wr.mk ?_; (try clear gx); (try clear q1); repeat (first | (clear hK hE hT; clear K) | (clear hR hE hT; clear K))) | assumption | skip))
  (refine post_a hres (.inl rfl) ?_; simp only [RSB, ENB, seval, tiAll, true_and]; simp only [MAB, seval]; refine ⟨rfl, rfl, ?_, ?_, ?_⟩ <;> (first | rfl | (simp [WKB, Nat.add_comm, true_and]; done) | (simp only [WKB, seval])))

theorem l09Copy_k (x : SetD) (h : (x.Bits).length ≤ 1048576) : FnOK Try.prog 187 ⟨1, [(0, some (.ro ((x.Bits).map bytK)))], [.agg [.v (.int .i64 x.N), .sl 0 1 0 (x.Bits).length]], .agg [.v (.int .i64 x.N), .sl 1 1 0 (x.Bits).length], [(1, some (.row 5 ((x.Bits).map bytK)))], 2⟩ := by
  refine fnOK_of true mixed Try.func187 rfl (by rfl) (by rfl) ?_
  have hres := congrArg Array.toList Try.results187
  simp only [Try.ntmps187, BGB, seval]
  (have gx := And.intro @List.length_map.{0,0} @map_take; refine go ?_; (repeat' (first | exact Ef.mk | refine Lf.mk ?_ ?_ | refine fun (K : KT) hK hE hT => ?_ | refine fun (KS : Eff → Prop) hKS => ?_ | refine fun (D : List Keys → Prop) hD => ?_ | refine fun (hg : (_ : Prop)) => ?_ | fail)); all_goals (first | (refine Wr.mk ?_; (try clear gx); repeat (first | (clear hK hE hT; clear K) | (clear hR hE hT; clear K))) | assumption | skip))
  (refine post_a hres (.inl rfl) ?_; simp only [RSB, ENB, seval, tiAll, true_and]; simp only [MAB, seval]; refine ⟨rfl, rfl, ?_, ?_, ?_⟩ <;> (first | rfl | (simp [WKB, Nat.add_comm, true_and]; done) | (simp only [WKB, seval])))

set_option maxHeartbeats 2000000 in
theorem l11Copy_k (x : RunD) (h : (x.Vals).length ≤ 1048576 ∧ (x.EVals).length ≤ 1048576 ∧ (x.Next.Bits).length ≤ 1048576) : FnOK Try.prog 127 ⟨3, [(0, some (.ro ((x.Vals).map intK))), (1, some (.ro ((x.EVals).map intK))), (2, some (.ro ((x.Next.Bits).map bytK)))], [.agg [.v (.int .i64 x.Job.Prog), .v (.int .i64 x.Job.Src), .v (.int .i64 x.Iter), .v (.bool x.Done), .sl 0 1 0 (x.Vals).length, .sl 1 1 0 (x.EVals).length, .v (.int .i64 x.Next.N), .sl 2 1 0 (x.Next.Bits).length]], .agg [.v (.int .i64 x.Job.Prog), .v (.int .i64 x.Job.Src), .v (.int .i64 x.Iter), .v (.bool x.Done), .sl 3 1 0 (x.Vals).length, .sl 4 1 0 (x.EVals).length, .v (.int .i64 x.Next.N), .sl 5 1 0 (x.Next.Bits).length], [(3, some (.row 3 ((x.Vals).map intK))), (4, some (.row 3 ((x.EVals).map intK))), (5, some (.row 5 ((x.Next.Bits).map bytK)))], 6⟩ := by
  obtain ⟨h0, h1, h2⟩ := h
  refine fnOK_of true mixed Try.func127 rfl (by rfl) (by rfl) ?_
  have hres := congrArg Array.toList Try.results127
  simp only [Try.ntmps127, BGB, seval]
  (have gx := And.intro @List.length_map.{0,0} @map_take; have q1 := l09Copy_k x.Next h2; refine go ?_; (repeat' (first | exact Ef.mk | refine Lf.mk ?_ ?_ | refine fun (K : KT) hK hE hT => ?_ | refine fun (KS : Eff → Prop) hKS => ?_ | refine fun (D : List Keys → Prop) hD => ?_ | refine fun (hg : (_ : Prop)) => ?_ | fail)); all_goals (first | (refine Wr.mk ?_; (try clear gx); (try clear q1); repeat (first | (clear hK hE hT; clear K) | (clear hR hE hT; clear K))) | assumption | skip))
  (refine post_a hres (.inl rfl) ?_; simp only [RSB, ENB, seval, tiAll, true_and]; simp only [MAB, seval]; refine ⟨rfl, rfl, ?_, ?_, ?_⟩ <;> (first | rfl | (simp [WKB, Nat.add_comm, true_and]; done) | (simp only [WKB, seval])))

end Go.Proofs.Ytageceacjmmmdaa
