/-
  Contracts: SubVertex of the reference. No conditions of its own.
-/
import Derived.Test.YtcbnfkbnbdbfoaaGreatGO
import Derived.Test.YtcbnfkbnbdbfoaaGreatSX5
namespace Go.Proofs.YtcbnfkbnbdbfoaaGreat
set_option linter.unusedSimpArgs false
set_option linter.unusedVariables false
set_option linter.unusedSimpArgs false
set_option linter.unusedVariables false
set_option linter.defProp false
set_option maxRecDepth 20000
open Go.RowKit
attribute [local irreducible] lexD

/-- Something was wrong among the first places, or ahead of them. -/
def bdTo (c : Bool) (l : List LocD) : Nat → Bool
  | 0 => c
  | k + 1 => bdTo c l k || match l[k]? with
    | none => false
    | some x => !decide (locE x)
theorem bdTo_zero (c : Bool) (l : List LocD) : bdTo c l 0 = c := rfl
theorem bdTo_true (l : List LocD) : ∀ k, bdTo true l k = true
  | 0 => rfl
  | k + 1 => by rw [bdTo, bdTo_true l k]; rfl
theorem bdTo_good {l : List LocD} {c : Bool} {k : Nat} (h : k < l.length) (hv : locE l[k]) : bdTo c l (k + 1) = bdTo c l k := by
  rw [bdTo, List.getElem?_eq_getElem h]
  simp [hv]
theorem bdTo_bad {l : List LocD} {c : Bool} {k : Nat} (h : k < l.length) (hv : ¬ locE l[k]) : bdTo c l (k + 1) = true := by
  rw [bdTo, List.getElem?_eq_getElem h]
  simp [hv]
theorem bdTo_f {l : List LocD} : ∀ {k : Nat}, k ≤ l.length → bdTo false l k = false → locsOk l k
  | 0, _, _ => locsOk_zero l
  | k + 1, hk, h => by
    rw [bdTo, Bool.or_eq_false_iff, List.getElem?_eq_getElem (show k < l.length by omega)] at h
    exact locsOk_succ (bdTo_f (by omega) h.1) hk (by simpa using h.2)
theorem bdTo_t {l : List LocD} {k : Nat} (hk : k ≤ l.length) (h : bdTo false l k = true) : ¬ locsOk l k := by
  intro ho
  have : ∀ j, j ≤ k → bdTo false l j = false := by
    intro j
    induction j with
    | zero => intro _; rfl
    | succ j ih => intro hj; rw [bdTo_good (by omega) (ho j (by omega) (by omega))]; exact ih (by omega)
  rw [this k (Nat.le_refl _)] at h
  cases h


set_option maxHeartbeats 16000000 in
theorem specSubVertex_k (f : FRunD) (s : SubD) (w : SetD) (v : Int) (hf : (f.Vals).length ≤ 1048576 ∧ (f.Next.Bits).length ≤ 1048576 ∧ (f.Farm.Ends).length ≤ 1048576 ∧ (f.Farm.Shards).length ≤ 1048576 ∧ (∀ s ∈ f.Farm.Shards, s.Edges.length ≤ 1048576)) (hs : (s.Locs).length ≤ 1048576) (hw : w.Bits.length ≤ 1048576) : FnOK Tryz.prog 11 ⟨6, [(0, some (.ro ((f.Vals).map intK))), (1, some (.ro ((f.Next.Bits).map bytK))), (2, some (.ro ((f.Farm.Ends).map intK))), (3, some (.ro ((f.Farm.Shards).map (ShardD.k 96)))), (4, some (.ro ((s.Locs).map LocD.k))), (5, some (.ro ((w.Bits).map bytK)))], [.agg [.v (.int .i64 f.Job.Prog), .v (.int .i64 f.Job.Src), .v (.int .i64 f.Iter), .v (.bool f.Done), .sl 0 1 0 (f.Vals).length, .v (.int .i64 f.Next.N), .sl 1 1 0 (f.Next.Bits).length, .v (.int .i64 f.Farm.N), .sl 2 1 0 (f.Farm.Ends).length, .sl 3 3 0 (f.Farm.Shards).length], .agg [.v (.int .i64 s.P), .v (.int .i64 s.Lo), .v (.int .i64 s.Hi), .sl 4 7 0 (s.Locs).length, .v (.int .i64 s.Reads)], .agg [.v (.int .i64 w.N), .sl 5 1 0 (w.Bits).length], .c (.v (.int .i64 v))],
    .tup [.inr [.v (.int .i64 (svF f s w v).Job.Prog), .v (.int .i64 (svF f s w v).Job.Src), .v (.int .i64 (svF f s w v).Iter), .v (.bool (svF f s w v).Done), .sl 6 1 0 ((svF f s w v).Vals).length, .v (.int .i64 (svF f s w v).Next.N), .sl 7 1 0 ((svF f s w v).Next.Bits).length, .v (.int .i64 (svF f s w v).Farm.N), .sl 8 1 0 ((svF f s w v).Farm.Ends).length, .sl 9 3 0 ((svF f s w v).Farm.Shards).length], .inr [.v (.int .i64 (svS f s w v).P), .v (.int .i64 (svS f s w v).Lo), .v (.int .i64 (svS f s w v).Hi), .sl 10 7 0 ((svS f s w v).Locs).length, .v (.int .i64 (svS f s w v).Reads)], .inr [.v (.int .i64 (svW f s w v).N), .sl 11 1 0 ((svW f s w v).Bits).length]], [(6, some (.row 3 (((svF f s w v).Vals).map intK))), (7, some (.row 5 (((svF f s w v).Next.Bits).map bytK))), (8, some (.row 3 (((svF f s w v).Farm.Ends).map intK))), (9, some (.nst 179 (((svF f s w v).Farm.Shards).map (ShardD.k 96)) none)), (10, some (.row 98 (((svS f s w v).Locs).map LocD.k))), (11, some (.row 5 (((svW f s w v).Bits).map bytK)))], 12⟩ := by
  have c1 := specFRunOk_k f hf
  have c2 := specSetOk_k w.N w.Bits hw
  obtain ⟨f0, f1, f2, f3, f4⟩ := hf
  by_cases hp : svP f s w v
  case neg =>
    obtain ⟨e1, e2, e3⟩ := sv_no (f := f) (s := s) (w := w) (v := v) (fun q => hp q.1)
    rw [e1, e2, e3]
    dsimp only
    obtain ⟨b1, h1⟩ : ∃ b, b = pB (FrOk f) := ⟨_, rfl⟩
    obtain ⟨b2, h2⟩ : ∃ b, b = setOk w.N w.Bits := ⟨_, rfl⟩
    have hno : b1 = true → b2 = true → s.Lo ≤ v → v < s.Hi → 0 ≤ v → v < f.Farm.N → w.N = f.Farm.N → s.Locs.length ≤ 400 → False := fun q1 q2 q3 q4 q5 q6 q7 q8 => hp ⟨pB_i (by rw [← h1]; exact q1), ⟨q3, q4, q5, q6⟩, ⟨by rw [← h2]; exact q2, q7⟩, q8⟩
    rw [← h1] at c1
    rw [← h2] at c2
    clear h1 h2 e1 e2 e3 hp
    have hbt := bdTo_true s.Locs
    refine fnOK_of true mixed Tryz.func11 rfl (by rfl) (by rfl) ?_
    have hres := congrArg Array.toList Tryz.results11
    simp only [Tryz.ntmps11, BGB, seval]
    (have gx := @List.length_map.{0,0}; have q1 := c1; have q2 := c2; refine go ?_; (repeat' (first | exact Ef.mk | refine Lf.mk ?_ ?_ | refine fun (K : KT) hK hE hT => ?_ | refine fun (KS : Eff → Prop) hKS => ?_ | refine fun (D : List Keys → Prop) hD => ?_ | refine fun (hg : (_ : Prop)) => ?_ | fail)); all_goals (first | (refine Wr.mk ?_; (try clear gx); (try clear q1 q2); repeat (first | (clear hK hE hT; clear K) | (clear hR hE hT; clear K))) | assumption | skip))
    all_goals first
      | (exfalso; exact hno (by assumption) (by assumption) (by omega) (by omega) (by omega) (by omega) (by omega) (by omega))
      | skip
    all_goals (
      refine loop_v (X := {i : Nat // i ≤ s.Locs.length}) [] (fun x => [(11, .c (.v (.bool true))), (62, .c (.v (.int .i64 ((x.1 : Nat) : Int))))]) (fun x => [(0, some (.ro ((f.Vals).map intK))), (1, some (.ro ((f.Next.Bits).map bytK))), (2, some (.ro ((f.Farm.Ends).map intK))), (3, some (.ro ((f.Farm.Shards).map (ShardD.k 96)))), (4, some (.ro ((s.Locs).map LocD.k))), (5, some (.ro ((w.Bits).map bytK))), (6, some (.box 45 [.v (.int .i64 f.Job.Prog), .v (.int .i64 f.Job.Src), .v (.int .i64 f.Iter), .v (.bool f.Done), .sl 0 1 0 (f.Vals).length, .v (.int .i64 f.Next.N), .sl 1 1 0 (f.Next.Bits).length, .v (.int .i64 f.Farm.N), .sl 2 1 0 (f.Farm.Ends).length, .sl 3 3 0 (f.Farm.Shards).length])), (7, some (.box 48 [.v (.int .i64 s.P), .v (.int .i64 s.Lo), .v (.int .i64 s.Hi), .sl 4 7 0 (s.Locs).length, .v (.int .i64 s.Reads)])), (8, some (.box 40 [.v (.int .i64 w.N), .sl 5 1 0 (w.Bits).length])), (9, some (.box 45 [.v (.int .i64 0), .v (.int .i64 0), .v (.int .i64 0), .v (.bool false), .nil, .v (.int .i64 0), .nil, .v (.int .i64 0), .nil, .nil])), (10, some (.box 48 [.v (.int .i64 0), .v (.int .i64 0), .v (.int .i64 0), .nil, .v (.int .i64 0)])), (11, some (.box 40 [.v (.int .i64 0), .nil]))]) 12 (fun x => s.Locs.length - x.1) ⟨0, by omega⟩ ?_
      simp only [KPB, seval]
      refine ⟨?_, ?_⟩
      · (first
          | (have hd : decide (400 < (s.Locs.length : Int)) = true := decide_eq_true (by rcases Nat.lt_or_ge 400 s.Locs.length with q | q; omega; exact (hno (by assumption) (by assumption) (by omega) (by omega) (by omega) (by omega) (by omega) (by omega)).elim)
             (refine wk_a ?_; simp only [MAB, seval]; refine ⟨rfl, rfl, (by decide), ?_, ?_⟩; all_goals (first | (simp only [WKB, seval, hd, Nat.reduceLT, Nat.zero_lt_succ]; done) | (simp [WKB, seval, hd]; done) | simp only [WKB, seval])))
          | (refine wk_a ?_; simp only [MAB, seval]; refine ⟨rfl, rfl, (by decide), ?_, ?_⟩; all_goals (first | (simp only [WKB, seval, true_and, Nat.reduceLT, Nat.zero_lt_succ]; done) | (simp [WKB, seval, true_and]; done) | simp only [WKB, seval])))
      · rintro ⟨i, hi⟩ K hR hE hT
        rcases Nat.lt_or_ge i s.Locs.length with hlt | hge
        case inl =>
          (have gx := And.intro (@List.length_map.{0,0}) (And.intro @List.getElem_map.{0,0} @LocD.k.eq_1); refine go ?_; (repeat' (first | exact Ef.mk | refine Lf.mk ?_ ?_ | refine fun (K : KT) hK hE hT => ?_ | refine fun (KS : Eff → Prop) hKS => ?_ | refine fun (D : List Keys → Prop) hD => ?_ | refine fun (hg : (_ : Prop)) => ?_ | fail)); all_goals (first | (refine Wr.mk ?_; (try clear gx); repeat (first | (clear hK hE hT; clear K) | (clear hR hE hT; clear K))) | assumption | skip))
          refine hR.out ⟨i + 1, by omega⟩ _ _ _ (by simp only; omega) ?_
          (refine wk_a ?_; simp only [MAB, seval]; refine ⟨rfl, rfl, (by decide), ?_, ?_⟩; all_goals (first | (simp only [WKB, seval, true_and, Nat.reduceLT, Nat.zero_lt_succ]; done) | (simp [WKB, seval, true_and]; done) | simp only [WKB, seval]))
        case inr =>
          obtain rfl : i = s.Locs.length := by omega
          (have gx := @List.length_map.{0,0}; refine go ?_; (repeat' (first | exact Ef.mk | refine Lf.mk ?_ ?_ | refine fun (K : KT) hK hE hT => ?_ | refine fun (KS : Eff → Prop) hKS => ?_ | refine fun (D : List Keys → Prop) hD => ?_ | refine fun (hg : (_ : Prop)) => ?_ | fail)); all_goals (first | (refine Wr.mk ?_; (try clear gx); repeat (first | (clear hK hE hT; clear K) | (clear hR hE hT; clear K))) | assumption | skip))
          (refine post_a hres (.inl rfl) ?_; simp only [RSB, ENB, seval, tiAll, true_and]; simp only [MAB, seval]; refine ⟨rfl, rfl, ?_, ?_, ?_⟩ <;> (first | rfl | (simp [WKB, Nat.add_comm, true_and]; done) | (simp only [WKB, seval]))))
  case pos =>
    obtain ⟨p1, ⟨p5, p6, p7, p8⟩, ⟨p2, p3⟩, p4⟩ := id hp
    have hin := fr_in p1
    rw [pB_t p1] at c1
    rw [p2] at c2
    obtain ⟨k, rfl⟩ := Int.eq_ofNat_of_zero_le p7
    rw [p3] at p2
    have p1 := p8
    refine fnOK_of true mixed Tryz.func11 rfl (by rfl) (by rfl) ?_
    have hres := congrArg Array.toList Tryz.results11
    simp only [Tryz.ntmps11, BGB, seval]
    (have gx := @List.length_map.{0,0}; have q1 := c1; have q2 := c2; refine go ?_; (repeat' (first | exact Ef.mk | refine Lf.mk ?_ ?_ | refine fun (K : KT) hK hE hT => ?_ | refine fun (KS : Eff → Prop) hKS => ?_ | refine fun (D : List Keys → Prop) hD => ?_ | refine fun (hg : (_ : Prop)) => ?_ | fail)); all_goals (first | (refine Wr.mk ?_; (try clear gx); (try clear q1 q2); repeat (first | (clear hK hE hT; clear K) | (clear hR hE hT; clear K))) | assumption | skip))
    all_goals first | (exfalso; omega) | skip
    refine loop_v (X := {i : Nat // i ≤ s.Locs.length}) [] (fun x => [(11, .c (.v (.bool (bdTo false s.Locs x.1)))), (62, .c (.v (.int .i64 ((x.1 : Nat) : Int))))]) (fun x => [(0, some (.ro ((f.Vals).map intK))), (1, some (.ro ((f.Next.Bits).map bytK))), (2, some (.ro ((f.Farm.Ends).map intK))), (3, some (.ro ((f.Farm.Shards).map (ShardD.k 96)))), (4, some (.ro ((s.Locs).map LocD.k))), (5, some (.ro ((w.Bits).map bytK))), (6, some (.box 45 [.v (.int .i64 f.Job.Prog), .v (.int .i64 f.Job.Src), .v (.int .i64 f.Iter), .v (.bool f.Done), .sl 0 1 0 (f.Vals).length, .v (.int .i64 f.Next.N), .sl 1 1 0 (f.Next.Bits).length, .v (.int .i64 f.Farm.N), .sl 2 1 0 (f.Farm.Ends).length, .sl 3 3 0 (f.Farm.Shards).length])), (7, some (.box 48 [.v (.int .i64 s.P), .v (.int .i64 s.Lo), .v (.int .i64 s.Hi), .sl 4 7 0 (s.Locs).length, .v (.int .i64 s.Reads)])), (8, some (.box 40 [.v (.int .i64 w.N), .sl 5 1 0 (w.Bits).length])), (9, some (.box 45 [.v (.int .i64 0), .v (.int .i64 0), .v (.int .i64 0), .v (.bool false), .nil, .v (.int .i64 0), .nil, .v (.int .i64 0), .nil, .nil])), (10, some (.box 48 [.v (.int .i64 0), .v (.int .i64 0), .v (.int .i64 0), .nil, .v (.int .i64 0)])), (11, some (.box 40 [.v (.int .i64 0), .nil]))]) 12 (fun x => s.Locs.length - x.1) ⟨0, by omega⟩ ?_
    simp only [KPB, seval]
    refine ⟨?_, ?_⟩
    · have hd : decide (400 < (s.Locs.length : Int)) = false := decide_eq_false (by omega)
      (refine wk_a ?_; simp only [MAB, seval]; refine ⟨rfl, rfl, (by decide), ?_, ?_⟩; all_goals (first | (simp only [WKB, seval, bdTo_zero, hd, Nat.reduceLT, Nat.zero_lt_succ]; done) | (simp [WKB, seval, bdTo_zero, hd]; done) | simp only [WKB, seval]))
    · rintro ⟨i, hi⟩ K hR hE hT
      rcases Nat.lt_or_ge i s.Locs.length with hlt | hge
      case inl =>
        have hgo := fun h => bdTo_good (c := false) hlt h
        have hba := fun h => bdTo_bad (c := false) hlt h
        have hpre : bdTo false s.Locs i = true → bdTo false s.Locs (i + 1) = true := fun h => by rw [bdTo, h]; rfl
        obtain ⟨y, hy⟩ : ∃ y, y = s.Locs[i] := ⟨_, rfl⟩
        rw [← hy] at hgo hba
        cases hb : bdTo false s.Locs i with
        | true =>
          have e := hpre hb
          (have gx := And.intro (@List.length_map.{0,0}) (And.intro (@List.getElem_map.{0,0}) (And.intro (hy).symm @LocD.k.eq_1)); refine go ?_; (repeat' (first | exact Ef.mk | refine Lf.mk ?_ ?_ | refine fun (K : KT) hK hE hT => ?_ | refine fun (KS : Eff → Prop) hKS => ?_ | refine fun (D : List Keys → Prop) hD => ?_ | refine fun (hg : (_ : Prop)) => ?_ | fail)); all_goals (first | (refine Wr.mk ?_; (try clear gx); repeat (first | (clear hK hE hT; clear K) | (clear hR hE hT; clear K))) | assumption | skip))
          all_goals first | (exfalso; omega) | skip
          all_goals (refine hR.out ⟨i + 1, by omega⟩ _ _ _ (by simp only; omega) ?_; (refine wk_a ?_; simp only [MAB, seval]; refine ⟨rfl, rfl, (by decide), ?_, ?_⟩; all_goals (first | (simp only [WKB, seval, e, Nat.reduceLT, Nat.zero_lt_succ]; done) | (simp [WKB, seval, e]; done) | simp only [WKB, seval])))
        | false =>
          by_cases he : locE y
          case pos =>
            have e := hgo he
            rw [hb] at e
            unfold locE at he
            have hw2 : decide (1000 < y.Edge.W) = false := decide_eq_false (by omega)
            (have gx := And.intro (@List.length_map.{0,0}) (And.intro (@List.getElem_map.{0,0}) (And.intro (hy).symm @LocD.k.eq_1)); refine go ?_; (repeat' (first | exact Ef.mk | refine Lf.mk ?_ ?_ | refine fun (K : KT) hK hE hT => ?_ | refine fun (KS : Eff → Prop) hKS => ?_ | refine fun (D : List Keys → Prop) hD => ?_ | refine fun (hg : (_ : Prop)) => ?_ | fail)); all_goals (first | (refine Wr.mk ?_; (try clear gx); repeat (first | (clear hK hE hT; clear K) | (clear hR hE hT; clear K))) | assumption | skip))
            all_goals first | (exfalso; omega) | skip
            all_goals (refine hR.out ⟨i + 1, by omega⟩ _ _ _ (by simp only; omega) ?_; (refine wk_a ?_; simp only [MAB, seval]; refine ⟨rfl, rfl, (by decide), ?_, ?_⟩; all_goals (first | (simp only [WKB, seval, e, hw2, Nat.reduceLT, Nat.zero_lt_succ]; done) | (simp [WKB, seval, e, hw2]; done) | simp only [WKB, seval])))
          case neg =>
            have e := hba he
            unfold locE at he
            (have gx := And.intro (@List.length_map.{0,0}) (And.intro (@List.getElem_map.{0,0}) (And.intro (hy).symm @LocD.k.eq_1)); refine go ?_; (repeat' (first | exact Ef.mk | refine Lf.mk ?_ ?_ | refine fun (K : KT) hK hE hT => ?_ | refine fun (KS : Eff → Prop) hKS => ?_ | refine fun (D : List Keys → Prop) hD => ?_ | refine fun (hg : (_ : Prop)) => ?_ | fail)); all_goals (first | (refine Wr.mk ?_; (try clear gx); repeat (first | (clear hK hE hT; clear K) | (clear hR hE hT; clear K))) | assumption | skip))
            all_goals first | (exfalso; omega) | skip
            all_goals (first
              | (have hw2 : decide (1000 < y.Edge.W) = true := decide_eq_true (by omega)
                 refine hR.out ⟨i + 1, by omega⟩ _ _ _ (by simp only; omega) ?_
                 (refine wk_a ?_; simp only [MAB, seval]; refine ⟨rfl, rfl, (by decide), ?_, ?_⟩; all_goals (first | (simp only [WKB, seval, e, hw2, Nat.reduceLT, Nat.zero_lt_succ]; done) | (simp [WKB, seval, e, hw2]; done) | simp only [WKB, seval])))
              | (refine hR.out ⟨i + 1, by omega⟩ _ _ _ (by simp only; omega) ?_
                 (refine wk_a ?_; simp only [MAB, seval]; refine ⟨rfl, rfl, (by decide), ?_, ?_⟩; all_goals (first | (simp only [WKB, seval, e, Nat.reduceLT, Nat.zero_lt_succ]; done) | (simp [WKB, seval, e]; done) | simp only [WKB, seval]))))
      case inr =>
        obtain rfl : i = s.Locs.length := by omega
        cases hb : bdTo false s.Locs s.Locs.length with
        | true =>
          have hnb := bdTo_t (Nat.le_refl _) hb
          obtain ⟨e1, e2, e3⟩ := sv_no (f := f) (s := s) (w := w) (v := (k : Int)) (fun q => hnb q.2)
          (have gx := @List.length_map.{0,0}; refine go ?_; (repeat' (first | exact Ef.mk | refine Lf.mk ?_ ?_ | refine fun (K : KT) hK hE hT => ?_ | refine fun (KS : Eff → Prop) hKS => ?_ | refine fun (D : List Keys → Prop) hD => ?_ | refine fun (hg : (_ : Prop)) => ?_ | fail)); all_goals (first | (refine Wr.mk ?_; (try clear gx); repeat (first | (clear hK hE hT; clear K) | (clear hR hE hT; clear K))) | assumption | skip))
          (refine post_a hres (.inl rfl) ?_; simp only [RSB, ENB, seval, tiAll, e1, e2, e3]; simp only [MAB, seval]; refine ⟨rfl, rfl, ?_, ?_, ?_⟩ <;> (first | rfl | (simp [WKB, Nat.add_comm, e1, e2, e3]; done) | (simp only [WKB, seval])))
        | false =>
          have hok := bdTo_f (Nat.le_refl _) hb
          obtain ⟨e1, e2, e3⟩ := sv_yes (f := f) (s := s) (w := w) (k := k) ⟨hp, hok⟩
          obtain ⟨q1, q2, q3⟩ := sv_lens (v := k) hin p4 hok p2 p1
          have cc := l13Copy_k f ⟨f0, f1, f2, f3, f4⟩
          have cd := l13Sub_k s hs
          have ce := l09Copy_k w hw
          have cu := l13Vertex_k f s w.Bits k (svG f s) (rOf f s.Locs) rfl rfl (ix_of hin p4 hok) hin.so p2 hin.sn p1
          have ex : vxEnd (gOf f.Farm.N s.Locs) (rOf f s.Locs) w.Bits k = vxEnd (svG f s) (rOf f s.Locs) w.Bits k := rfl
          rw [ex] at q1 q2 q3
          obtain ⟨E, hE0⟩ : ∃ E, E = vxEnd (svG f s) (rOf f s.Locs) w.Bits k := ⟨_, rfl⟩
          obtain ⟨nv, hnv⟩ : ∃ n, n = vxVal (svG f s) (rOf f s.Locs) k := ⟨_, rfl⟩
          rw [← hE0] at q1 q2 q3
          simp only [← hE0, ← hnv] at cu e1 e2 e3
          have q4 := setEv_len q1
          rw [p3] at ce
          clear ex hE0 hnv
          (have gx := And.intro @List.length_map.{0,0} @p3; have q1 := cc; have q2 := cd; have q3 := ce; have q4 := cu; refine go ?_; (repeat' (first | exact Ef.mk | refine Lf.mk ?_ ?_ | refine fun (K : KT) hK hE hT => ?_ | refine fun (KS : Eff → Prop) hKS => ?_ | refine fun (D : List Keys → Prop) hD => ?_ | refine fun (hg : (_ : Prop)) => ?_ | fail)); all_goals (first | (refine Wr.mk ?_; (try clear gx); (try clear q1 q2 q3 q4); repeat (first | (clear hK hE hT; clear K) | (clear hR hE hT; clear K))) | assumption | skip))
          (refine post_a hres (.inl rfl) ?_; simp only [RSB, ENB, seval, tiAll, e1, e2, e3, List.length_set, q2, q3, q4]; simp only [MAB, seval]; refine ⟨rfl, rfl, ?_, ?_, ?_⟩ <;> (first | rfl | (simp [WKB, Nat.add_comm, e1, e2, e3, List.length_set, q2, q3, q4]; done) | (simp only [WKB, seval])))

end Go.Proofs.YtcbnfkbnbdbfoaaGreat
