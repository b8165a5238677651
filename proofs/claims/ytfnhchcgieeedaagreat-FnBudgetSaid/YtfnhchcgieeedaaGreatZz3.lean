/-
  Texts D4 V1 in one. No conditions of its own.
-/
import Derived.Test.YtfnhchcgieeedaaGreatGO
import Derived.Test.YtfnhchcgieeedaaGreatZz2
import Derived.Test.YtfnhchcgieeedaaGreatMKA
import Derived.Test.YtfnhchcgieeedaaGreatZz1
namespace Go.Proofs.YtfnhchcgieeedaaGreat
set_option linter.unusedSimpArgs false
set_option linter.unusedVariables false
set_option linter.unusedSimpArgs false
set_option linter.unusedVariables false
set_option linter.defProp false
open Go.RowKit

def mnC (b : List UInt8) : Cu := ⟨(newC b).i, IntKind.i64.wrap ((newC b).h + 777)⟩
def mnV (b : List UInt8) (n : Int) : Int := bwV b (mnC b) n

set_option maxHeartbeats 2000000 in
theorem makeNum_k (b : List UInt8) (n : Int) (hb : b.length ≤ 1048576) (hn : n ≤ 256) : FnOK Tryz.prog 8 ⟨1, [(0, some (.ro (b.map bytK)))], [.c (.sl 0 1 0 b.length), .c (.v (.int .i64 n))],
    .c (.v (.int .i64 (mnV b n))), [], 1⟩ := by
  have k0 := l01New_k b hb
  have k1 := l01Below_k b ⟨(newC b).i, IntKind.i64.wrap ((newC b).h + 777)⟩ n hb (newC_le b) hn
  dsimp only at k1
  refine fnOK_of false mixed Tryz.func8 rfl (by rfl) (by rfl) ?_
  have hres := congrArg Array.toList Tryz.results8
  simp only [Tryz.ntmps8, BGB, seval]
  (have gx := true_and True; have q1 := k0; have q2 := k1; refine go ?_; (repeat' first | exact Ef.mk | apply Lf.mk | refine fun (K : KT) hK hE hT => ?_ | refine fun (KS : KE) hKS => ?_ | refine fun (D : KD) hD => ?_ | refine fun (hg : (_ : Prop)) => ?_ | fail); all_goals (first | (refine Wr.mk ?_; (try clear gx q1 q2); repeat first | clear hK hE hT K | clear hR hE hT K) | assumption | skip))
  all_goals (refine post_a hres (.inl rfl) ?_; simp only [RSB, ENB, seval, tiAll, mnV, mnC]; simp only [MAB, seval]; refine ⟨rfl, rfl, ?_, ?_, ?_⟩ <;> (first | rfl | (simp [WKB, Nat.add_comm, mnV, mnC]; done) | (simp only [WKB, seval])))

end Go.Proofs.YtfnhchcgieeedaaGreat


namespace Go.Proofs.YtfnhchcgieeedaaGreat
set_option linter.unusedSimpArgs false
set_option linter.unusedVariables false
set_option linter.unusedSimpArgs false
set_option linter.unusedVariables false
set_option linter.defProp false
open Go.RowKit

/-- does an edge's entry lie at v? -/
def locAt (v : Int) (x : LocD) : Prop := x.Edge.From = v ∨ x.Edge.To = v
instance (v : Int) (x : LocD) : Decidable (locAt v x) := inferInstanceAs (Decidable (_ ∨ _))
def locView (v : Int) (x : LocD) : ViewD := ⟨x.Edge.To == v, x.Edge.From == v, x.Edge.W, x.Edge.Val⟩
def svV (l : List LocD) (v : Int) (i : Nat) : Option ViewD := (l[i]?).bind fun x => if locAt v x then some (locView v x) else none
def svI (l : List LocD) (v : Int) (i : Nat) : Option Int := (l[i]?).bind fun x => if locAt v x then some (i : Int) else none

theorem sv_hit {l : List LocD} {v : Int} {k : Nat} (h : k < l.length) (hv : l[k].Edge.From = v ∨ l[k].Edge.To = v) :
    svV l v k = some (locView v l[k]) ∧ svI l v k = some (k : Int) := by
  have : locAt v l[k] := hv
  simp [svV, svI, h, this]
theorem sv_miss {l : List LocD} {v : Int} {k : Nat} (h : k < l.length) (h1 : ¬ l[k].Edge.From = v) (h2 : ¬ l[k].Edge.To = v) :
    svV l v k = none ∧ svI l v k = none := by
  have : ¬ locAt v l[k] := fun h => h.elim h1 h2
  simp [svV, svI, h, this]


set_option maxHeartbeats 4000000 in
theorem implSubViews_k (x : SubD) (v : Int) (h : (x.Locs).length ≤ 1048576) : FnOK Tryz.prog 71 ⟨1, [(0, some (.ro ((x.Locs).map LocD.k)))], [.agg [.v (.int .i64 x.P), .v (.int .i64 x.Lo), .v (.int .i64 x.Hi), .sl 0 7 0 (x.Locs).length, .v (.int .i64 x.Reads)], .c (.v (.int .i64 v))], .tup [.inl (.sl 1 4 0 (fm (svV x.Locs v) x.Locs.length).length), .inl (.sl 2 1 0 (fm (svI x.Locs v) x.Locs.length).length)],
    [(1, some (.row 162 ((fm (svV x.Locs v) x.Locs.length).map ViewD.k))), (2, some (.row 3 ((fm (svI x.Locs v) x.Locs.length).map intK)))], 3⟩ := by
  obtain ⟨xP, xLo, xHi, l, xReads⟩ := x
  dsimp only at h
  dsimp only
  refine fnOK_of true mixed Tryz.func71 rfl (by rfl) (by rfl) ?_
  have hres := congrArg Array.toList Tryz.results71
  simp only [Tryz.ntmps71, BGB, seval]
  (have gx := true_and True; refine go ?_; (repeat' first | exact Ef.mk | apply Lf.mk | refine fun (K : KT) hK hE hT => ?_ | refine fun (KS : KE) hKS => ?_ | refine fun (D : KD) hD => ?_ | refine fun (hg : (_ : Prop)) => ?_ | fail); all_goals (first | (refine Wr.mk ?_; (try clear gx); repeat first | clear hK hE hT K | clear hR hE hT K) | assumption | skip))
  refine loop_v (X := {k : Nat // k ≤ l.length}) [] (fun x => [(6, .c (.sl 2 4 0 (fm (svV l v) x.1).length)), (7, .c (.sl 3 1 0 (fm (svI l v) x.1).length)), (14, .c (.v (.int .i64 ((x.1 : Nat) : Int))))]) (fun x => [(0, some (.ro (l.map LocD.k))), (1, some (.box 116 [.v (.int .i64 xP), .v (.int .i64 xLo), .v (.int .i64 xHi), .sl 0 7 0 l.length, .v (.int .i64 xReads)])), (2, some (.row 162 ((fm (svV l v) x.1).map ViewD.k))), (3, some (.row 3 ((fm (svI l v) x.1).map intK)))]) 4 (fun x => l.length - x.1) ⟨0, by omega⟩ ?_
  simp only [KPB, seval]
  refine ⟨?_, ?_⟩
  · (refine wk_a ?_; simp only [MAB, seval]; refine ⟨rfl, rfl, (by decide), ?_, ?_⟩; all_goals (first | (simp only [WKB, seval, fm_zero]; done) | (simp [WKB, seval, fm_zero]; done) | simp only [WKB, seval]))
  · rintro ⟨k, hk⟩ K hR hE hT
    have l1 := fm_len (svV l v) k
    have l2 := fm_len (svI l v) k
    (have gx := And.intro (@List.length_map.{0,0}) (And.intro @List.getElem_map.{0,0} @LocD.k.eq_1); refine go ?_; (repeat' first | exact Ef.mk | apply Lf.mk | refine fun (K : KT) hK hE hT => ?_ | refine fun (KS : KE) hKS => ?_ | refine fun (D : KD) hD => ?_ | refine fun (hg : (_ : Prop)) => ?_ | fail); all_goals (first | (refine Wr.mk ?_; (try clear gx); repeat first | clear hK hE hT K | clear hR hE hT K) | assumption | skip))
    · obtain ⟨e1, e2⟩ := sv_hit (v := v) (show k < l.length by first | assumption | omega) (.inr (by assumption))
      (refine hR.out ⟨k + 1, by omega⟩ _ _ _ (by simp only; omega) ?_; (refine wk_a ?_; simp only [MAB, seval]; refine ⟨rfl, rfl, (by decide), ?_, ?_⟩; all_goals (first | (simp only [WKB, seval, fm_some e1, fm_some e2, ViewD.k, intK, locView]; done) | (simp [WKB, seval, fm_some e1, fm_some e2, ViewD.k, intK, locView]; done) | simp only [WKB, seval])))
    · obtain ⟨e1, e2⟩ := sv_miss (v := v) (show k < l.length by first | assumption | omega) (by assumption) (by assumption)
      (refine hR.out ⟨k + 1, by omega⟩ _ _ _ (by simp only; omega) ?_; (refine wk_a ?_; simp only [MAB, seval]; refine ⟨rfl, rfl, (by decide), ?_, ?_⟩; all_goals (first | (simp only [WKB, seval, fm_none e1, fm_none e2]; done) | (simp [WKB, seval, fm_none e1, fm_none e2]; done) | simp only [WKB, seval])))
    · obtain ⟨e1, e2⟩ := sv_hit (v := v) (show k < l.length by first | assumption | omega) (.inl (by assumption))
      (refine hR.out ⟨k + 1, by omega⟩ _ _ _ (by simp only; omega) ?_; (refine wk_a ?_; simp only [MAB, seval]; refine ⟨rfl, rfl, (by decide), ?_, ?_⟩; all_goals (first | (simp only [WKB, seval, fm_some e1, fm_some e2, ViewD.k, intK, locView]; done) | (simp [WKB, seval, fm_some e1, fm_some e2, ViewD.k, intK, locView]; done) | simp only [WKB, seval])))
    · obtain rfl : k = l.length := by omega
      (refine post_a hres (.inl rfl) ?_; simp only [RSB, ENB, seval, tiAll, true_and]; simp only [MAB, seval]; refine ⟨rfl, rfl, ?_, ?_, ?_⟩ <;> (first | rfl | (simp [WKB, Nat.add_comm, true_and]; done) | (simp only [WKB, seval])))

end Go.Proofs.YtfnhchcgieeedaaGreat

