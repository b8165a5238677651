/-
  Copies. No conditions of its own.
-/
import Derived.Test.YtfkpmhnfpljakaaGO
import Derived.Test.YtfkpmhnfpljakaaH2d
namespace Go.Proofs.Ytfkpmhnfpljakaa
set_option linter.unusedSimpArgs false
set_option linter.unusedVariables false
set_option linter.unusedSimpArgs false
set_option linter.unusedVariables false
set_option linter.defProp false
open Go.RowKit

theorem copyInts_k (l : List Int) (h : l.length ≤ 1048576) : FnOK Try.prog 89 ⟨1, [(0, some (.ro (l.map intK)))], [.c (.sl 0 1 0 l.length)], .c (.sl 1 1 0 l.length), [(1, some (.row 3 (l.map intK)))], 2⟩ := by
  refine fnOK_of true mixed Try.func89 rfl (by rfl) (by rfl) ?_
  have hres := congrArg Array.toList Try.results89
  simp only [Try.ntmps89, BGB, seval]
  (have gx := And.intro @List.length_map.{0,0} @map_take; refine go ?_; (repeat' (first | exact Ef.mk | refine Lf.mk ?_ ?_ | refine fun (K : KT) hK hE hT => ?_ | refine fun (KS : Eff → Prop) hKS => ?_ | refine fun (D : List Keys → Prop) hD => ?_ | refine fun (hg : (_ : Prop)) => ?_ | fail)); all_goals (first | (refine Wr.mk ?_; (try clear gx); repeat (first | (clear hK hE hT; clear K) | (clear hR hE hT; clear K))) | assumption | skip))
  (refine post_a hres (.inl rfl) ?_; simp only [RSB, ENB, seval, tiAll, true_and]; simp only [MAB, seval]; refine ⟨rfl, rfl, ?_, ?_, ?_⟩ <;> (first | rfl | (simp [WKB, Nat.add_comm, true_and]; done) | (simp only [WKB, seval])))

theorem copyBytes_k (l : List UInt8) (h : l.length ≤ 1048576) : FnOK Try.prog 140 ⟨1, [(0, some (.ro (l.map bytK)))], [.c (.sl 0 1 0 l.length)], .c (.sl 1 1 0 l.length), [(1, some (.row 5 (l.map bytK)))], 2⟩ := by
  refine fnOK_of true mixed Try.func140 rfl (by rfl) (by rfl) ?_
  have hres := congrArg Array.toList Try.results140
  simp only [Try.ntmps140, BGB, seval]
  (have gx := And.intro @List.length_map.{0,0} @map_take; refine go ?_; (repeat' (first | exact Ef.mk | refine Lf.mk ?_ ?_ | refine fun (K : KT) hK hE hT => ?_ | refine fun (KS : Eff → Prop) hKS => ?_ | refine fun (D : List Keys → Prop) hD => ?_ | refine fun (hg : (_ : Prop)) => ?_ | fail)); all_goals (first | (refine Wr.mk ?_; (try clear gx); repeat (first | (clear hK hE hT; clear K) | (clear hR hE hT; clear K))) | assumption | skip))
  (refine post_a hres (.inl rfl) ?_; simp only [RSB, ENB, seval, tiAll, true_and]; simp only [MAB, seval]; refine ⟨rfl, rfl, ?_, ?_, ?_⟩ <;> (first | rfl | (simp [WKB, Nat.add_comm, true_and]; done) | (simp only [WKB, seval])))

theorem copySet_k (x : SetD) (h : (x.Bits).length ≤ 1048576) : FnOK Try.prog 90 ⟨1, [(0, some (.ro ((x.Bits).map bytK)))], [.agg [.v (.int .i64 x.N), .sl 0 1 0 (x.Bits).length]], .agg [.v (.int .i64 x.N), .sl 1 1 0 (x.Bits).length], [(1, some (.row 5 ((x.Bits).map bytK)))], 2⟩ := by
  refine fnOK_of true mixed Try.func90 rfl (by rfl) (by rfl) ?_
  have hres := congrArg Array.toList Try.results90
  simp only [Try.ntmps90, BGB, seval]
  (have gx := @List.length_map.{0,0}; have q1 := copyBytes_k x.Bits h; refine go ?_; (repeat' (first | exact Ef.mk | refine Lf.mk ?_ ?_ | refine fun (K : KT) hK hE hT => ?_ | refine fun (KS : Eff → Prop) hKS => ?_ | refine fun (D : List Keys → Prop) hD => ?_ | refine fun (hg : (_ : Prop)) => ?_ | fail)); all_goals (first | (refine Wr.mk ?_; (try clear gx); (try clear q1); repeat (first | (clear hK hE hT; clear K) | (clear hR hE hT; clear K))) | assumption | skip))
  (refine post_a hres (.inl rfl) ?_; simp only [RSB, ENB, seval, tiAll, true_and]; simp only [MAB, seval]; refine ⟨rfl, rfl, ?_, ?_, ?_⟩ <;> (first | rfl | (simp [WKB, Nat.add_comm, true_and]; done) | (simp only [WKB, seval])))

theorem l09Copy_k (x : SetD) (h : (x.Bits).length ≤ 1048576) : FnOK Try.prog 88 ⟨1, [(0, some (.ro ((x.Bits).map bytK)))], [.agg [.v (.int .i64 x.N), .sl 0 1 0 (x.Bits).length]], .agg [.v (.int .i64 x.N), .sl 1 1 0 (x.Bits).length], [(1, some (.row 5 ((x.Bits).map bytK)))], 2⟩ := by
  refine fnOK_of true mixed Try.func88 rfl (by rfl) (by rfl) ?_
  have hres := congrArg Array.toList Try.results88
  simp only [Try.ntmps88, BGB, seval]
  (have gx := And.intro @List.length_map.{0,0} @map_take; refine go ?_; (repeat' (first | exact Ef.mk | refine Lf.mk ?_ ?_ | refine fun (K : KT) hK hE hT => ?_ | refine fun (KS : Eff → Prop) hKS => ?_ | refine fun (D : List Keys → Prop) hD => ?_ | refine fun (hg : (_ : Prop)) => ?_ | fail)); all_goals (first | (refine Wr.mk ?_; (try clear gx); repeat (first | (clear hK hE hT; clear K) | (clear hR hE hT; clear K))) | assumption | skip))
  (refine post_a hres (.inl rfl) ?_; simp only [RSB, ENB, seval, tiAll, true_and]; simp only [MAB, seval]; refine ⟨rfl, rfl, ?_, ?_, ?_⟩ <;> (first | rfl | (simp [WKB, Nat.add_comm, true_and]; done) | (simp only [WKB, seval])))

end Go.Proofs.Ytfkpmhnfpljakaa
