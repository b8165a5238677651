/-
  Contracts: degrees inwards, cuts, intervals of vertices, by both. No conditions of its own.
-/
import Derived.Test.YtcbnfkbnbdbfoaaGO
import Derived.Test.YtcbnfkbnbdbfoaaCT1
namespace Go.Proofs.Ytcbnfkbnbdbfoaa
set_option linter.unusedSimpArgs false
set_option linter.unusedVariables false
set_option linter.unusedSimpArgs false
set_option linter.unusedVariables false
set_option linter.defProp false
set_option maxRecDepth 20000
open Go.RowKit
attribute [local irreducible] lexD

theorem swE_at {l : List EdgeD} {k : Nat} (h : k < l.length) : ((l.map swE)[k]'(by simpa using h)).From = l[k].To := by rw [List.getElem_map]; rfl


set_option maxHeartbeats 4000000 in
theorem implInDegs_k (g : GraphD) (hl : g.Edges.length ≤ 1048576) : FnOK Try.prog 100 ⟨1, [(0, some (.ro ((g.Edges).map EdgeD.k)))], [.agg [.v (.int .i64 g.N), .sl 0 3 0 (g.Edges).length]], .c (.sl 1 1 0 (inDegs g).length), [(1, some (.row 3 ((inDegs g).map intK)))], 2⟩ := by
  have hs := implGraphOk_k g (by omega)
  cases ho : graphOk g with
  | false =>
    rw [ho] at hs
    have e : inDegs g = [] := by unfold inDegs outDegs; rw [revG_ok, ho]; rfl
    rw [e]
    refine fnOK_of true mixed Try.func100 rfl (by rfl) (by rfl) ?_
    have hres := congrArg Array.toList Try.results100
    simp only [Try.ntmps100, BGB, seval]
    (have gx := true_and True; have q1 := hs; refine go ?_; (repeat' (first | exact Ef.mk | refine Lf.mk ?_ ?_ | refine fun (K : KT) hK hE hT => ?_ | refine fun (KS : Eff → Prop) hKS => ?_ | refine fun (D : List Keys → Prop) hD => ?_ | refine fun (hg : (_ : Prop)) => ?_ | fail)); all_goals (first | (refine Wr.mk ?_; (try clear gx); (try clear q1); repeat (first | (clear hK hE hT; clear K) | (clear hR hE hT; clear K))) | assumption | skip))
    (refine post_a hres (.inl rfl) ?_; simp only [RSB, ENB, seval, tiAll, true_and]; simp only [MAB, seval]; refine ⟨rfl, rfl, ?_, ?_, ?_⟩ <;> (first | rfl | (simp [WKB, Nat.add_comm, true_and]; done) | (simp only [WKB, seval])))
  | true =>
    rw [ho] at hs
    have hd := degRow_out (revG g) (by rw [revG_ok]; exact ho)
    obtain ⟨h1, h2, h3, h4⟩ := graphOk_in ho
    have hdl := inDegs_len ho
    have hid : outDegs (revG g) = inDegs g := rfl
    rw [hid] at hd
    obtain ⟨R, hR0⟩ : ∃ R, R = inDegs g := ⟨_, rfl⟩
    rw [← hR0] at hd hdl ⊢
    clear hid hR0
    obtain ⟨n, l⟩ := g
    dsimp only [revG, List.length_map] at *
    obtain ⟨m, rfl⟩ := Int.eq_ofNat_of_zero_le h1
    simp only [Int.toNat_natCast] at hd hdl
    rw [← hd, hdl]
    obtain ⟨L, hL⟩ : ∃ L, L = l.map swE := ⟨_, rfl⟩
    have hLl : L.length = l.length := by rw [hL, List.length_map]
    have hLk : ∀ k (h : k < l.length), (L[k]'(by omega)).From = l[k].To := fun k h => by subst hL; exact swE_at h
    rw [← hL, hLl]
    clear hL hd hdl
    refine fnOK_of true mixed Try.func100 rfl (by rfl) (by rfl) ?_
    have hres := congrArg Array.toList Try.results100
    simp only [Try.ntmps100, BGB, seval]
    (have gx := true_and True; have q1 := hs; refine go ?_; (repeat' (first | exact Ef.mk | refine Lf.mk ?_ ?_ | refine fun (K : KT) hK hE hT => ?_ | refine fun (KS : Eff → Prop) hKS => ?_ | refine fun (D : List Keys → Prop) hD => ?_ | refine fun (hg : (_ : Prop)) => ?_ | fail)); all_goals (first | (refine Wr.mk ?_; (try clear gx); (try clear q1); repeat (first | (clear hK hE hT; clear K) | (clear hR hE hT; clear K))) | assumption | skip))
    refine loop_v (X := {k : Nat // k ≤ l.length}) [] (fun x => [(15, .c (.v (.int .i64 ((x.1 : Nat) : Int))))]) (fun x => [(0, some (.ro (l.map EdgeD.k))), (1, some (.box 53 [.v (.int .i64 (m : Int)), .sl 0 3 0 l.length])), (2, some (.row 3 (degRow m L x.1)))]) 3 (fun x => l.length - x.1) ⟨0, by omega⟩ ?_
    simp only [KPB, seval]
    refine ⟨?_, ?_⟩
    · (refine wk_a ?_; simp only [MAB, seval]; refine ⟨rfl, rfl, (by decide), ?_, ?_⟩; all_goals (first | (simp only [WKB, seval, degRow_zero, Nat.reduceLT, Nat.zero_lt_succ]; done) | (simp [WKB, seval, degRow_zero]; done) | simp only [WKB, seval]))
    · rintro ⟨k, hk⟩ K hR hE hT
      rcases Nat.lt_or_ge k l.length with hlt | hge
      case inr =>
        (have gx := @List.length_map.{0,0}; refine go ?_; (repeat' (first | exact Ef.mk | refine Lf.mk ?_ ?_ | refine fun (K : KT) hK hE hT => ?_ | refine fun (KS : Eff → Prop) hKS => ?_ | refine fun (D : List Keys → Prop) hD => ?_ | refine fun (hg : (_ : Prop)) => ?_ | fail)); all_goals (first | (refine Wr.mk ?_; (try clear gx); repeat (first | (clear hK hE hT; clear K) | (clear hR hE hT; clear K))) | assumption | skip))
        obtain rfl : k = l.length := by omega
        (refine post_a hres (.inl rfl) ?_; simp only [RSB, ENB, seval, tiAll, true_and]; simp only [MAB, seval]; refine ⟨rfl, rfl, ?_, ?_, ?_⟩ <;> (first | rfl | (simp [WKB, Nat.add_comm, true_and]; done) | (simp only [WKB, seval])))
      case inl =>
        obtain ⟨_, _, q1, q2, _⟩ := h4 k hlt
        obtain ⟨v, hv⟩ := Int.eq_ofNat_of_zero_le q1
        have hdn := degN_le L k v
        have hvm : v < m := by omega
        have e := degRow_set m L k v (by omega) (by rw [hLk k hlt]; exact hv) hvm
        (have gx := And.intro (@List.length_map.{0,0}) (And.intro (@List.getElem_map.{0,0}) (And.intro (@EdgeD.k.eq_1) (And.intro (@hv) (And.intro @degRow_len @degRow_get)))); refine go ?_; (repeat' (first | exact Ef.mk | refine Lf.mk ?_ ?_ | refine fun (K : KT) hK hE hT => ?_ | refine fun (KS : Eff → Prop) hKS => ?_ | refine fun (D : List Keys → Prop) hD => ?_ | refine fun (hg : (_ : Prop)) => ?_ | fail)); all_goals (first | (refine Wr.mk ?_; (try clear gx); repeat (first | (clear hK hE hT; clear K) | (clear hR hE hT; clear K))) | assumption | skip))
        (refine hR.out ⟨k + 1, by omega⟩ _ _ _ (by simp only; omega) ?_; (refine wk_a ?_; simp only [MAB, seval]; refine ⟨rfl, rfl, (by decide), ?_, ?_⟩; all_goals (first | (simp only [WKB, seval, e, Nat.reduceLT, Nat.zero_lt_succ]; done) | (simp [WKB, seval, e]; done) | simp only [WKB, seval])))

set_option maxHeartbeats 4000000 in
theorem specInDegs_k (g : GraphD) (hl : g.Edges.length ≤ 1048576) : FnOK Try.prog 96 ⟨1, [(0, some (.ro ((g.Edges).map EdgeD.k)))], [.agg [.v (.int .i64 g.N), .sl 0 3 0 (g.Edges).length]], .c (.sl 1 1 0 (inDegs g).length), [(1, some (.row 3 ((inDegs g).map intK)))], 2⟩ := by
  have hs := specGraphOk_k g (by omega)
  cases ho : graphOk g with
  | false =>
    rw [ho] at hs
    have e : inDegs g = [] := by unfold inDegs outDegs; rw [revG_ok, ho]; rfl
    rw [e]
    refine fnOK_of true mixed Try.func96 rfl (by rfl) (by rfl) ?_
    have hres := congrArg Array.toList Try.results96
    simp only [Try.ntmps96, BGB, seval]
    (have gx := true_and True; have q1 := hs; refine go ?_; (repeat' (first | exact Ef.mk | refine Lf.mk ?_ ?_ | refine fun (K : KT) hK hE hT => ?_ | refine fun (KS : Eff → Prop) hKS => ?_ | refine fun (D : List Keys → Prop) hD => ?_ | refine fun (hg : (_ : Prop)) => ?_ | fail)); all_goals (first | (refine Wr.mk ?_; (try clear gx); (try clear q1); repeat (first | (clear hK hE hT; clear K) | (clear hR hE hT; clear K))) | assumption | skip))
    (refine post_a hres (.inl rfl) ?_; simp only [RSB, ENB, seval, tiAll, true_and]; simp only [MAB, seval]; refine ⟨rfl, rfl, ?_, ?_, ?_⟩ <;> (first | rfl | (simp [WKB, Nat.add_comm, true_and]; done) | (simp only [WKB, seval])))
  | true =>
    rw [ho] at hs
    have hd := degRow_out (revG g) (by rw [revG_ok]; exact ho)
    obtain ⟨h1, h2, h3, h4⟩ := graphOk_in ho
    have hdl := inDegs_len ho
    have hid : outDegs (revG g) = inDegs g := rfl
    rw [hid] at hd
    obtain ⟨R, hR0⟩ : ∃ R, R = inDegs g := ⟨_, rfl⟩
    rw [← hR0] at hd hdl ⊢
    clear hid hR0
    obtain ⟨n, l⟩ := g
    dsimp only [revG, List.length_map] at *
    obtain ⟨m, rfl⟩ := Int.eq_ofNat_of_zero_le h1
    simp only [Int.toNat_natCast] at hd hdl
    rw [← hd, hdl]
    obtain ⟨L, hL⟩ : ∃ L, L = l.map swE := ⟨_, rfl⟩
    have hLl : L.length = l.length := by rw [hL, List.length_map]
    have hLk : ∀ k (h : k < l.length), (L[k]'(by omega)).From = l[k].To := fun k h => by subst hL; exact swE_at h
    rw [← hL, hLl]
    clear hL hd hdl
    refine fnOK_of true mixed Try.func96 rfl (by rfl) (by rfl) ?_
    have hres := congrArg Array.toList Try.results96
    simp only [Try.ntmps96, BGB, seval]
    (have gx := true_and True; have q1 := hs; refine go ?_; (repeat' (first | exact Ef.mk | refine Lf.mk ?_ ?_ | refine fun (K : KT) hK hE hT => ?_ | refine fun (KS : Eff → Prop) hKS => ?_ | refine fun (D : List Keys → Prop) hD => ?_ | refine fun (hg : (_ : Prop)) => ?_ | fail)); all_goals (first | (refine Wr.mk ?_; (try clear gx); (try clear q1); repeat (first | (clear hK hE hT; clear K) | (clear hR hE hT; clear K))) | assumption | skip))
    refine loop_v (X := {k : Nat // k ≤ l.length}) [] (fun x => [(15, .c (.v (.int .i64 ((x.1 : Nat) : Int))))]) (fun x => [(0, some (.ro (l.map EdgeD.k))), (1, some (.box 53 [.v (.int .i64 (m : Int)), .sl 0 3 0 l.length])), (2, some (.row 3 (degRow m L x.1)))]) 3 (fun x => l.length - x.1) ⟨0, by omega⟩ ?_
    simp only [KPB, seval]
    refine ⟨?_, ?_⟩
    · (refine wk_a ?_; simp only [MAB, seval]; refine ⟨rfl, rfl, (by decide), ?_, ?_⟩; all_goals (first | (simp only [WKB, seval, degRow_zero, Nat.reduceLT, Nat.zero_lt_succ]; done) | (simp [WKB, seval, degRow_zero]; done) | simp only [WKB, seval]))
    · rintro ⟨k, hk⟩ K hR hE hT
      rcases Nat.lt_or_ge k l.length with hlt | hge
      case inr =>
        (have gx := @List.length_map.{0,0}; refine go ?_; (repeat' (first | exact Ef.mk | refine Lf.mk ?_ ?_ | refine fun (K : KT) hK hE hT => ?_ | refine fun (KS : Eff → Prop) hKS => ?_ | refine fun (D : List Keys → Prop) hD => ?_ | refine fun (hg : (_ : Prop)) => ?_ | fail)); all_goals (first | (refine Wr.mk ?_; (try clear gx); repeat (first | (clear hK hE hT; clear K) | (clear hR hE hT; clear K))) | assumption | skip))
        obtain rfl : k = l.length := by omega
        (refine post_a hres (.inl rfl) ?_; simp only [RSB, ENB, seval, tiAll, true_and]; simp only [MAB, seval]; refine ⟨rfl, rfl, ?_, ?_, ?_⟩ <;> (first | rfl | (simp [WKB, Nat.add_comm, true_and]; done) | (simp only [WKB, seval])))
      case inl =>
        obtain ⟨_, _, q1, q2, _⟩ := h4 k hlt
        obtain ⟨v, hv⟩ := Int.eq_ofNat_of_zero_le q1
        have hdn := degN_le L k v
        have hvm : v < m := by omega
        have e := degRow_set m L k v (by omega) (by rw [hLk k hlt]; exact hv) hvm
        (have gx := And.intro (@List.length_map.{0,0}) (And.intro (@List.getElem_map.{0,0}) (And.intro (@EdgeD.k.eq_1) (And.intro (@hv) (And.intro @degRow_len @degRow_get)))); refine go ?_; (repeat' (first | exact Ef.mk | refine Lf.mk ?_ ?_ | refine fun (K : KT) hK hE hT => ?_ | refine fun (KS : Eff → Prop) hKS => ?_ | refine fun (D : List Keys → Prop) hD => ?_ | refine fun (hg : (_ : Prop)) => ?_ | fail)); all_goals (first | (refine Wr.mk ?_; (try clear gx); repeat (first | (clear hK hE hT; clear K) | (clear hR hE hT; clear K))) | assumption | skip))
        (refine hR.out ⟨k + 1, by omega⟩ _ _ _ (by simp only; omega) ?_; (refine wk_a ?_; simp only [MAB, seval]; refine ⟨rfl, rfl, (by decide), ?_, ?_⟩; all_goals (first | (simp only [WKB, seval, e, Nat.reduceLT, Nat.zero_lt_succ]; done) | (simp [WKB, seval, e]; done) | simp only [WKB, seval])))


set_option maxHeartbeats 4000000 in
theorem implIntervalOf_k (n : Int) (l : List Int) (v : Int) (h : EndsOk n l) (h0 : 0 ≤ v) (hv : v < n) (hl : l.length ≤ 1048576) : FnOK Try.prog 101 ⟨1, [(0, some (.ro (l.map intK)))], [.c (.sl 0 1 0 l.length), .c (.v (.int .i64 v))], .c (.v (.int .i64 ((ivN l v l.length : Nat) : Int))), [], 1⟩ := by
  have hk : 0 < l.length := by obtain ⟨hk, _⟩ := iv_in h h0 hv; omega
  obtain ⟨m, hm⟩ : ∃ m, l.length = m + 1 := ⟨l.length - 1, by omega⟩
  have e1 : (l.length : Int) - 1 = (m : Int) := by omega
  have e2 : l[m]'(by omega) = n := by
    have := h.2.2.2
    rw [hm, lastE_succ (by omega)] at this
    exact this
  refine fnOK_of true mixed Try.func101 rfl (by rfl) (by rfl) ?_
  have hres := congrArg Array.toList Try.results101
  simp only [Try.ntmps101, BGB, seval]
  (have gx := And.intro (@List.length_map.{0,0}) (And.intro (@List.getElem_map.{0,0}) (And.intro (@intK.eq_1) (And.intro @e1 @e2))); refine go ?_; (repeat' (first | exact Ef.mk | refine Lf.mk ?_ ?_ | refine fun (K : KT) hK hE hT => ?_ | refine fun (KS : Eff → Prop) hKS => ?_ | refine fun (D : List Keys → Prop) hD => ?_ | refine fun (hg : (_ : Prop)) => ?_ | fail)); all_goals (first | (refine Wr.mk ?_; (try clear gx); repeat (first | (clear hK hE hT; clear K) | (clear hR hE hT; clear K))) | assumption | skip))
  refine loop_v (X := {k : Nat // k ≤ l.length}) [] (fun x => [(5, .c (.v (.int .i64 ((ivN l v x.1 : Nat) : Int)))), (27, .c (.v (.int .i64 ((x.1 : Nat) : Int))))]) (fun x => [(0, some (.ro (l.map intK)))]) 1 (fun x => l.length - x.1) ⟨0, by omega⟩ ?_
  simp only [KPB, seval]
  refine ⟨?_, ?_⟩
  · (refine wk_a ?_; simp only [MAB, seval]; refine ⟨rfl, rfl, (by decide), ?_, ?_⟩; all_goals (first | (simp only [WKB, seval, ivN_zero, Nat.reduceLT, Nat.zero_lt_succ]; done) | (simp [WKB, seval, ivN_zero]; done) | simp only [WKB, seval]))
  · rintro ⟨k, hk⟩ K hR hE hT
    have l1 := ivN_le l v k
    rcases Nat.lt_or_ge k l.length with hlt | hge
    case inr =>
      obtain rfl : k = l.length := by omega
      (have gx := @List.length_map.{0,0}; refine go ?_; (repeat' (first | exact Ef.mk | refine Lf.mk ?_ ?_ | refine fun (K : KT) hK hE hT => ?_ | refine fun (KS : Eff → Prop) hKS => ?_ | refine fun (D : List Keys → Prop) hD => ?_ | refine fun (hg : (_ : Prop)) => ?_ | fail)); all_goals (first | (refine Wr.mk ?_; (try clear gx); repeat (first | (clear hK hE hT; clear K) | (clear hR hE hT; clear K))) | assumption | skip))
      (refine post_a hres (.inl rfl) ?_; simp only [RSB, ENB, seval, tiAll, true_and]; simp only [MAB, seval]; refine ⟨rfl, rfl, ?_, ?_, ?_⟩ <;> (first | rfl | (simp [WKB, Nat.add_comm, true_and]; done) | (simp only [WKB, seval])))
    case inl =>
      obtain ⟨y, hy⟩ : ∃ y, y = l[k] := ⟨_, rfl⟩
      by_cases hx : y ≤ v
      · have e := ivN_t hlt (v := v) (by rw [← hy]; exact hx)
        (have gx := And.intro (@List.length_map.{0,0}) (And.intro (@List.getElem_map.{0,0}) (And.intro (hy).symm @intK.eq_1)); refine go ?_; (repeat' (first | exact Ef.mk | refine Lf.mk ?_ ?_ | refine fun (K : KT) hK hE hT => ?_ | refine fun (KS : Eff → Prop) hKS => ?_ | refine fun (D : List Keys → Prop) hD => ?_ | refine fun (hg : (_ : Prop)) => ?_ | fail)); all_goals (first | (refine Wr.mk ?_; (try clear gx); repeat (first | (clear hK hE hT; clear K) | (clear hR hE hT; clear K))) | assumption | skip))
        (refine hR.out ⟨k + 1, by omega⟩ _ _ _ (by simp only; omega) ?_; (refine wk_a ?_; simp only [MAB, seval]; refine ⟨rfl, rfl, (by decide), ?_, ?_⟩; all_goals (first | (simp only [WKB, seval, e, Nat.reduceLT, Nat.zero_lt_succ]; done) | (simp [WKB, seval, e]; done) | simp only [WKB, seval])))
      · have e := ivN_f hlt (v := v) (by rw [← hy]; exact hx)
        (have gx := And.intro (@List.length_map.{0,0}) (And.intro (@List.getElem_map.{0,0}) (And.intro (hy).symm @intK.eq_1)); refine go ?_; (repeat' (first | exact Ef.mk | refine Lf.mk ?_ ?_ | refine fun (K : KT) hK hE hT => ?_ | refine fun (KS : Eff → Prop) hKS => ?_ | refine fun (D : List Keys → Prop) hD => ?_ | refine fun (hg : (_ : Prop)) => ?_ | fail)); all_goals (first | (refine Wr.mk ?_; (try clear gx); repeat (first | (clear hK hE hT; clear K) | (clear hR hE hT; clear K))) | assumption | skip))
        (refine hR.out ⟨k + 1, by omega⟩ _ _ _ (by simp only; omega) ?_; (refine wk_a ?_; simp only [MAB, seval]; refine ⟨rfl, rfl, (by decide), ?_, ?_⟩; all_goals (first | (simp only [WKB, seval, e, Nat.reduceLT, Nat.zero_lt_succ]; done) | (simp [WKB, seval, e]; done) | simp only [WKB, seval])))

set_option maxHeartbeats 4000000 in
theorem specIntervalOf_k (n : Int) (l : List Int) (v : Int) (h : EndsOk n l) (h0 : 0 ≤ v) (hv : v < n) (hl : l.length ≤ 1048576) : FnOK Try.prog 97 ⟨1, [(0, some (.ro (l.map intK)))], [.c (.sl 0 1 0 l.length), .c (.v (.int .i64 v))], .c (.v (.int .i64 ((ivN l v l.length : Nat) : Int))), [], 1⟩ := by
  have hk : 0 < l.length := by obtain ⟨hk, _⟩ := iv_in h h0 hv; omega
  obtain ⟨m, hm⟩ : ∃ m, l.length = m + 1 := ⟨l.length - 1, by omega⟩
  have e1 : (l.length : Int) - 1 = (m : Int) := by omega
  have e2 : l[m]'(by omega) = n := by
    have := h.2.2.2
    rw [hm, lastE_succ (by omega)] at this
    exact this
  refine fnOK_of true mixed Try.func97 rfl (by rfl) (by rfl) ?_
  have hres := congrArg Array.toList Try.results97
  simp only [Try.ntmps97, BGB, seval]
  (have gx := And.intro (@List.length_map.{0,0}) (And.intro (@List.getElem_map.{0,0}) (And.intro (@intK.eq_1) (And.intro @e1 @e2))); refine go ?_; (repeat' (first | exact Ef.mk | refine Lf.mk ?_ ?_ | refine fun (K : KT) hK hE hT => ?_ | refine fun (KS : Eff → Prop) hKS => ?_ | refine fun (D : List Keys → Prop) hD => ?_ | refine fun (hg : (_ : Prop)) => ?_ | fail)); all_goals (first | (refine Wr.mk ?_; (try clear gx); repeat (first | (clear hK hE hT; clear K) | (clear hR hE hT; clear K))) | assumption | skip))
  refine loop_v (X := {k : Nat // k ≤ l.length}) [] (fun x => [(5, .c (.v (.int .i64 ((ivN l v x.1 : Nat) : Int)))), (25, .c (.v (.int .i64 ((x.1 : Nat) : Int))))]) (fun x => [(0, some (.ro (l.map intK)))]) 1 (fun x => l.length - x.1) ⟨0, by omega⟩ ?_
  simp only [KPB, seval]
  refine ⟨?_, ?_⟩
  · (refine wk_a ?_; simp only [MAB, seval]; refine ⟨rfl, rfl, (by decide), ?_, ?_⟩; all_goals (first | (simp only [WKB, seval, ivN_zero, Nat.reduceLT, Nat.zero_lt_succ]; done) | (simp [WKB, seval, ivN_zero]; done) | simp only [WKB, seval]))
  · rintro ⟨k, hk⟩ K hR hE hT
    have l1 := ivN_le l v k
    rcases Nat.lt_or_ge k l.length with hlt | hge
    case inr =>
      obtain rfl : k = l.length := by omega
      (have gx := @List.length_map.{0,0}; refine go ?_; (repeat' (first | exact Ef.mk | refine Lf.mk ?_ ?_ | refine fun (K : KT) hK hE hT => ?_ | refine fun (KS : Eff → Prop) hKS => ?_ | refine fun (D : List Keys → Prop) hD => ?_ | refine fun (hg : (_ : Prop)) => ?_ | fail)); all_goals (first | (refine Wr.mk ?_; (try clear gx); repeat (first | (clear hK hE hT; clear K) | (clear hR hE hT; clear K))) | assumption | skip))
      (refine post_a hres (.inl rfl) ?_; simp only [RSB, ENB, seval, tiAll, true_and]; simp only [MAB, seval]; refine ⟨rfl, rfl, ?_, ?_, ?_⟩ <;> (first | rfl | (simp [WKB, Nat.add_comm, true_and]; done) | (simp only [WKB, seval])))
    case inl =>
      obtain ⟨y, hy⟩ : ∃ y, y = l[k] := ⟨_, rfl⟩
      by_cases hx : y ≤ v
      · have e := ivN_t hlt (v := v) (by rw [← hy]; exact hx)
        (have gx := And.intro (@List.length_map.{0,0}) (And.intro (@List.getElem_map.{0,0}) (And.intro (hy).symm @intK.eq_1)); refine go ?_; (repeat' (first | exact Ef.mk | refine Lf.mk ?_ ?_ | refine fun (K : KT) hK hE hT => ?_ | refine fun (KS : Eff → Prop) hKS => ?_ | refine fun (D : List Keys → Prop) hD => ?_ | refine fun (hg : (_ : Prop)) => ?_ | fail)); all_goals (first | (refine Wr.mk ?_; (try clear gx); repeat (first | (clear hK hE hT; clear K) | (clear hR hE hT; clear K))) | assumption | skip))
        (refine hR.out ⟨k + 1, by omega⟩ _ _ _ (by simp only; omega) ?_; (refine wk_a ?_; simp only [MAB, seval]; refine ⟨rfl, rfl, (by decide), ?_, ?_⟩; all_goals (first | (simp only [WKB, seval, e, Nat.reduceLT, Nat.zero_lt_succ]; done) | (simp [WKB, seval, e]; done) | simp only [WKB, seval])))
      · have e := ivN_f hlt (v := v) (by rw [← hy]; exact hx)
        (have gx := And.intro (@List.length_map.{0,0}) (And.intro (@List.getElem_map.{0,0}) (And.intro (hy).symm @intK.eq_1)); refine go ?_; (repeat' (first | exact Ef.mk | refine Lf.mk ?_ ?_ | refine fun (K : KT) hK hE hT => ?_ | refine fun (KS : Eff → Prop) hKS => ?_ | refine fun (D : List Keys → Prop) hD => ?_ | refine fun (hg : (_ : Prop)) => ?_ | fail)); all_goals (first | (refine Wr.mk ?_; (try clear gx); repeat (first | (clear hK hE hT; clear K) | (clear hR hE hT; clear K))) | assumption | skip))
        (refine hR.out ⟨k + 1, by omega⟩ _ _ _ (by simp only; omega) ?_; (refine wk_a ?_; simp only [MAB, seval]; refine ⟨rfl, rfl, (by decide), ?_, ?_⟩; all_goals (first | (simp only [WKB, seval, e, Nat.reduceLT, Nat.zero_lt_succ]; done) | (simp [WKB, seval, e]; done) | simp only [WKB, seval])))

/-- The ends at the head of a round. -/
def ctHd (d : List Int) (b : Int) (v : Nat) : List Int := if v = 0 then [] else (ctTo d b v).1 ++ [(v : Int)]
theorem ctHd_zero (d : List Int) (b : Int) : ctHd d b 0 = [] := rfl
theorem ctHd_pos {d : List Int} {b : Int} {v : Nat} (h : 0 < v) : ctHd d b v = (ctTo d b v).1 ++ [(v : Int)] := if_neg (by omega)
theorem cut_hd {g : GraphD} {b : Int} (h : cutOk g b = true) {m : Nat} (hm : g.N = (m : Int)) : cutL g b = ctHd (inDegs g) b m := by
  rw [cut_yes h, hm, Int.toNat_natCast]
  unfold ctHd
  by_cases e : m = 0
  · subst e; rfl
  · rw [if_pos (by omega), if_neg e]


set_option maxHeartbeats 8000000 in
theorem implCut_k (g : GraphD) (b : Int) (hl : g.Edges.length ≤ 1048576) : FnOK Try.prog 61 ⟨1, [(0, some (.ro ((g.Edges).map EdgeD.k)))], [.agg [.v (.int .i64 g.N), .sl 0 3 0 (g.Edges).length], .c (.v (.int .i64 b))], .c (.sl 1 1 0 (cutL g b).length), [(1, some (.row 3 ((cutL g b).map intK)))], 2⟩ := by
  have cg := implGraphOk_k g (by omega)
  cases ho : cutOk g b with
  | false =>
    rw [cut_no ho]
    obtain ⟨v1, e1⟩ : ∃ v, v = graphOk g := ⟨_, rfl⟩
    rw [← e1] at cg
    have hno : v1 = true → 1 ≤ b → b ≤ 400 → False := fun q1 q2 q3 => by
      unfold cutOk at ho
      rw [← e1, q1, decide_eq_true ⟨q2, q3⟩] at ho
      cases ho
    clear ho e1
    refine fnOK_of true mixed Try.func61 rfl (by rfl) (by rfl) ?_
    have hres := congrArg Array.toList Try.results61
    simp only [Try.ntmps61, BGB, seval]
    (have gx := true_and True; have q1 := cg; refine go ?_; (repeat' (first | exact Ef.mk | refine Lf.mk ?_ ?_ | refine fun (K : KT) hK hE hT => ?_ | refine fun (KS : Eff → Prop) hKS => ?_ | refine fun (D : List Keys → Prop) hD => ?_ | refine fun (hg : (_ : Prop)) => ?_ | fail)); all_goals (first | (refine Wr.mk ?_; (try clear gx); (try clear q1); repeat (first | (clear hK hE hT; clear K) | (clear hR hE hT; clear K))) | assumption | skip))
    all_goals first
      | (exfalso; exact hno (by assumption) (by omega) (by omega))
      | skip
    all_goals (refine post_a hres (.inl rfl) ?_; simp only [RSB, ENB, seval, tiAll, true_and]; simp only [MAB, seval]; refine ⟨rfl, rfl, ?_, ?_, ?_⟩ <;> (first | rfl | (simp [WKB, Nat.add_comm, true_and]; done) | (simp only [WKB, seval])))
  | true =>
    obtain ⟨hg, hb1, hb2⟩ := cutOk_out ho
    rw [hg] at cg
    obtain ⟨g1, g2, g3, _⟩ := graphOk_in hg
    have ci := implInDegs_k g (by omega)
    obtain ⟨m, hm⟩ := Int.eq_ofNat_of_zero_le g1
    have hdl := inDegs_len hg
    rw [hm, Int.toNat_natCast] at hdl
    have hdr := inDegs_rng g
    have hrg := ctTo_rng (b := b) hdr
    have hil := fun v => (ctTo_inc (d := inDegs g) (b := b) v).2.2
    rw [cut_hd ho hm]
    obtain ⟨D, hD⟩ : ∃ D, D = inDegs g := ⟨_, rfl⟩
    simp only [← hD] at ci hdl hdr hrg hil ⊢
    clear hD ho
    have hdg : ∀ v (h : v < m), D.getD v 0 = D[v]'(by omega) := fun v h => by rw [List.getD_eq_getElem?_getD, List.getElem?_eq_getElem (by omega)]; rfl
    obtain ⟨gn, ge⟩ := g
    dsimp only at *
    subst hm
    refine fnOK_of true mixed Try.func61 rfl (by rfl) (by rfl) ?_
    have hres := congrArg Array.toList Try.results61
    simp only [Try.ntmps61, BGB, seval]
    (have gx := @List.length_map.{0,0}; have q1 := cg; have q2 := ci; refine go ?_; (repeat' (first | exact Ef.mk | refine Lf.mk ?_ ?_ | refine fun (K : KT) hK hE hT => ?_ | refine fun (KS : Eff → Prop) hKS => ?_ | refine fun (D : List Keys → Prop) hD => ?_ | refine fun (hg : (_ : Prop)) => ?_ | fail)); all_goals (first | (refine Wr.mk ?_; (try clear gx); (try clear q1 q2); repeat (first | (clear hK hE hT; clear K) | (clear hR hE hT; clear K))) | assumption | skip))
    refine loop_v (X := {v : Nat // v ≤ m ∧ Rnd (v = 0 ∨ v = m ∨ b < (ctTo D b v).2 + D.getD v 0)}) [] (fun x => [(6, .c (.sl 3 1 0 (ctHd D b x.1).length)), (7, .c (.v (.int .i64 ((x.1 : Nat) : Int))))]) (fun x => [(0, some (.ro (ge.map EdgeD.k))), (1, some (.box 53 [.v (.int .i64 (m : Int)), .sl 0 3 0 ge.length])), (2, some (.row 3 (D.map intK))), (3, some (.row 3 ((ctHd D b x.1).map intK)))]) 4 (fun x => m - x.1) ⟨0, by omega, ⟨.inl rfl⟩⟩ ?_
    simp only [KPB, seval]
    refine ⟨?_, ?_⟩
    · (refine wk_a ?_; simp only [MAB, seval]; refine ⟨rfl, rfl, (by decide), ?_, ?_⟩; all_goals (first | (simp only [WKB, seval, ctHd_zero, Nat.reduceLT, Nat.zero_lt_succ]; done) | (simp [WKB, seval, ctHd_zero]; done) | simp only [WKB, seval]))
    · rintro ⟨v, hv, hi⟩ K hR hE hT
      rcases Nat.lt_or_ge v m with hlt | hge
      case inr =>
        obtain rfl : v = m := by omega
        (have gx := @List.length_map.{0,0}; refine go ?_; (repeat' (first | exact Ef.mk | refine Lf.mk ?_ ?_ | refine fun (K : KT) hK hE hT => ?_ | refine fun (KS : Eff → Prop) hKS => ?_ | refine fun (D : List Keys → Prop) hD => ?_ | refine fun (hg : (_ : Prop)) => ?_ | fail)); all_goals (first | (refine Wr.mk ?_; (try clear gx); repeat (first | (clear hK hE hT; clear K) | (clear hR hE hT; clear K))) | assumption | skip))
        (refine post_a hres (.inl rfl) ?_; simp only [RSB, ENB, seval, tiAll, true_and]; simp only [MAB, seval]; refine ⟨rfl, rfl, ?_, ?_, ?_⟩ <;> (first | rfl | (simp [WKB, Nat.add_comm, true_and]; done) | (simp only [WKB, seval])))
      case inl =>
        have hH : (ctHd D b v) = (ctTo D b (v + 1)).1 ∧ (ctTo D b (v + 1)).2 = D.getD v 0 := by
          rcases Nat.eq_zero_or_pos v with e0 | e0
          · subst e0
            rw [ctTo_miss (by omega)]
            exact ⟨rfl, Int.zero_add _⟩
          · have hb : b < (ctTo D b v).2 + D.getD v 0 := by
              rcases hi.out with q | q | q
              · omega
              · omega
              · exact q
            rw [ctTo_hit e0 hb]
            exact ⟨ctHd_pos e0, rfl⟩
        have lH : (ctHd D b v).length ≤ m := by rw [hH.1]; have := hil (v + 1); omega
        obtain ⟨H0, hH0⟩ : ∃ H, H = ctHd D b v := ⟨_, rfl⟩
        rw [← hH0] at hH lH ⊢
        have dv := hdg v hlt
        obtain ⟨y, hy⟩ : ∃ y, y = D[v]'(by omega) := ⟨_, rfl⟩
        rw [← hy] at dv
        have hS := hH.2
        rw [dv] at hS
        (have gx := And.intro (@List.length_map.{0,0}) (And.intro (@List.getElem_map.{0,0}) (And.intro @intK.eq_1 (hy).symm)); refine go ?_; (repeat' (first | exact Ef.mk | refine Lf.mk ?_ ?_ | refine fun (K : KT) hK hE hT => ?_ | refine fun (KS : Eff → Prop) hKS => ?_ | refine fun (D : List Keys → Prop) hD => ?_ | refine fun (hg : (_ : Prop)) => ?_ | fail)); all_goals (first | (refine Wr.mk ?_; (try clear gx); repeat (first | (clear hK hE hT; clear K) | (clear hR hE hT; clear K))) | assumption | skip))
        refine loop_v (X := {u : Nat // (v + 1 ≤ u ∧ u ≤ m) ∧ Rnd ((ctTo D b u).1 = H0)}) [] (fun x => [(8, .c (.v (.int .i64 (ctTo D b x.1).2))), (7, .c (.v (.int .i64 ((x.1 : Nat) : Int))))]) (fun x => [(0, some (.ro (ge.map EdgeD.k))), (1, some (.box 53 [.v (.int .i64 (m : Int)), .sl 0 3 0 ge.length])), (2, some (.row 3 (D.map intK))), (3, some (.row 3 (H0.map intK)))]) 4 (fun x => m - x.1) ⟨v + 1, ⟨Nat.le_refl _, hlt⟩, ⟨hH.1.symm⟩⟩ ?_
        simp only [KPB, seval]
        refine ⟨?_, ?_⟩
        · (refine wk_a ?_; simp only [MAB, seval]; refine ⟨rfl, rfl, (by decide), ?_, ?_⟩; all_goals (first | (simp only [WKB, seval, hS, Nat.reduceLT, Nat.zero_lt_succ]; done) | (simp [WKB, seval, hS]; done) | simp only [WKB, seval]))
        · rintro ⟨u, ⟨hu1, hu2⟩, hj⟩ K hR2 hE hT
          have hsr := hrg u
          obtain ⟨S, hSu⟩ : ∃ S, S = (ctTo D b u).2 := ⟨_, rfl⟩
          simp only [← hSu] at hsr ⊢
          have hend : (u = m ∨ b < S + D.getD u 0) → (ctHd D b u).map intK = H0.map intK ++ [[.v (.int .i64 (u : Int))]] ∧ (ctHd D b u).length = H0.length + 1 := fun _ => by
            rw [ctHd_pos (by omega), hj.out, List.map_append, List.length_append]
            exact ⟨rfl, rfl⟩
          rcases Nat.lt_or_ge u m with hum | hum
          case inr =>
            obtain rfl : u = m := by omega
            obtain ⟨e1, e2⟩ := hend (.inl rfl)
            (have gx := And.intro (@List.length_map.{0,0}) (And.intro @List.getElem_map.{0,0} @intK.eq_1); refine go ?_; (repeat' (first | exact Ef.mk | refine Lf.mk ?_ ?_ | refine fun (K : KT) hK hE hT => ?_ | refine fun (KS : Eff → Prop) hKS => ?_ | refine fun (D : List Keys → Prop) hD => ?_ | refine fun (hg : (_ : Prop)) => ?_ | fail)); all_goals (first | (refine Wr.mk ?_; (try clear gx); repeat (first | (clear hK hE hT; clear K) | (clear hR hE hT; clear K))) | assumption | skip))
            refine hR.out ⟨u, Nat.le_refl _, ⟨.inr (.inl rfl)⟩⟩ _ _ _ (by simp only; omega) ?_
            (refine wk_a ?_; simp only [MAB, seval]; refine ⟨rfl, rfl, (by decide), ?_, ?_⟩; all_goals (first | (simp only [WKB, seval, e1, e2, Nat.reduceLT, Nat.zero_lt_succ]; done) | (simp [WKB, seval, e1, e2]; done) | simp only [WKB, seval]))
          case inl =>
            have du := hdg u hum
            have dr := hdr u
            obtain ⟨z, hz⟩ : ∃ z, z = D[u]'(by omega) := ⟨_, rfl⟩
            rw [← hz] at du
            rw [du] at dr
            by_cases hc : S + z ≤ b
            · have e := ctTo_miss (d := D) (b := b) (v := u) (by rw [← hSu, du]; omega)
              rw [← hSu, du] at e
              have e2 : (ctTo D b (u + 1)).2 = S + z := by rw [e]
              have e1 : (ctTo D b (u + 1)).1 = H0 := by rw [e]; exact hj.out
              (have gx := And.intro (@List.length_map.{0,0}) (And.intro (@List.getElem_map.{0,0}) (And.intro @intK.eq_1 (hz).symm)); refine go ?_; (repeat' (first | exact Ef.mk | refine Lf.mk ?_ ?_ | refine fun (K : KT) hK hE hT => ?_ | refine fun (KS : Eff → Prop) hKS => ?_ | refine fun (D : List Keys → Prop) hD => ?_ | refine fun (hg : (_ : Prop)) => ?_ | fail)); all_goals (first | (refine Wr.mk ?_; (try clear gx); repeat (first | (clear hK hE hT; clear K) | (clear hR hE hT; clear K))) | assumption | skip))
              refine hR2.out ⟨u + 1, ⟨by omega, hum⟩, ⟨e1⟩⟩ _ _ _ (by simp only; omega) ?_
              (refine wk_a ?_; simp only [MAB, seval]; refine ⟨rfl, rfl, (by decide), ?_, ?_⟩; all_goals (first | (simp only [WKB, seval, e2, Nat.reduceLT, Nat.zero_lt_succ]; done) | (simp [WKB, seval, e2]; done) | simp only [WKB, seval]))
            · obtain ⟨e1, e2⟩ := hend (.inr (by rw [du]; omega))
              (have gx := And.intro (@List.length_map.{0,0}) (And.intro (@List.getElem_map.{0,0}) (And.intro @intK.eq_1 (hz).symm)); refine go ?_; (repeat' (first | exact Ef.mk | refine Lf.mk ?_ ?_ | refine fun (K : KT) hK hE hT => ?_ | refine fun (KS : Eff → Prop) hKS => ?_ | refine fun (D : List Keys → Prop) hD => ?_ | refine fun (hg : (_ : Prop)) => ?_ | fail)); all_goals (first | (refine Wr.mk ?_; (try clear gx); repeat (first | (clear hK hE hT; clear K) | (clear hR hE hT; clear K))) | assumption | skip))
              refine hR.out ⟨u, by omega, ⟨.inr (.inr (by rw [← hSu, du]; omega))⟩⟩ _ _ _ (by simp only; omega) ?_
              (refine wk_a ?_; simp only [MAB, seval]; refine ⟨rfl, rfl, (by decide), ?_, ?_⟩; all_goals (first | (simp only [WKB, seval, e1, e2, Nat.reduceLT, Nat.zero_lt_succ]; done) | (simp [WKB, seval, e1, e2]; done) | simp only [WKB, seval]))

set_option maxHeartbeats 8000000 in
theorem specCut_k (g : GraphD) (b : Int) (hl : g.Edges.length ≤ 1048576) : FnOK Try.prog 57 ⟨1, [(0, some (.ro ((g.Edges).map EdgeD.k)))], [.agg [.v (.int .i64 g.N), .sl 0 3 0 (g.Edges).length], .c (.v (.int .i64 b))], .c (.sl 1 1 0 (cutL g b).length), [(1, some (.row 3 ((cutL g b).map intK)))], 2⟩ := by
  have cg := specGraphOk_k g (by omega)
  cases ho : cutOk g b with
  | false =>
    rw [cut_no ho]
    obtain ⟨v1, e1⟩ : ∃ v, v = graphOk g := ⟨_, rfl⟩
    rw [← e1] at cg
    have hno : v1 = true → 1 ≤ b → b ≤ 400 → False := fun q1 q2 q3 => by
      unfold cutOk at ho
      rw [← e1, q1, decide_eq_true ⟨q2, q3⟩] at ho
      cases ho
    clear ho e1
    refine fnOK_of true mixed Try.func57 rfl (by rfl) (by rfl) ?_
    have hres := congrArg Array.toList Try.results57
    simp only [Try.ntmps57, BGB, seval]
    (have gx := true_and True; have q1 := cg; refine go ?_; (repeat' (first | exact Ef.mk | refine Lf.mk ?_ ?_ | refine fun (K : KT) hK hE hT => ?_ | refine fun (KS : Eff → Prop) hKS => ?_ | refine fun (D : List Keys → Prop) hD => ?_ | refine fun (hg : (_ : Prop)) => ?_ | fail)); all_goals (first | (refine Wr.mk ?_; (try clear gx); (try clear q1); repeat (first | (clear hK hE hT; clear K) | (clear hR hE hT; clear K))) | assumption | skip))
    all_goals first
      | (exfalso; exact hno (by assumption) (by omega) (by omega))
      | skip
    all_goals (refine post_a hres (.inl rfl) ?_; simp only [RSB, ENB, seval, tiAll, true_and]; simp only [MAB, seval]; refine ⟨rfl, rfl, ?_, ?_, ?_⟩ <;> (first | rfl | (simp [WKB, Nat.add_comm, true_and]; done) | (simp only [WKB, seval])))
  | true =>
    obtain ⟨hg, hb1, hb2⟩ := cutOk_out ho
    rw [hg] at cg
    obtain ⟨g1, g2, g3, _⟩ := graphOk_in hg
    have ci := specInDegs_k g (by omega)
    obtain ⟨m, hm⟩ := Int.eq_ofNat_of_zero_le g1
    have hdl := inDegs_len hg
    rw [hm, Int.toNat_natCast] at hdl
    have hdr := inDegs_rng g
    have hrg := ctTo_rng (b := b) hdr
    have hil := fun v => (ctTo_inc (d := inDegs g) (b := b) v).2.2
    rw [cut_hd ho hm]
    obtain ⟨D, hD⟩ : ∃ D, D = inDegs g := ⟨_, rfl⟩
    simp only [← hD] at ci hdl hdr hrg hil ⊢
    clear hD ho
    have hdg : ∀ v (h : v < m), D.getD v 0 = D[v]'(by omega) := fun v h => by rw [List.getD_eq_getElem?_getD, List.getElem?_eq_getElem (by omega)]; rfl
    obtain ⟨gn, ge⟩ := g
    dsimp only at *
    subst hm
    refine fnOK_of true mixed Try.func57 rfl (by rfl) (by rfl) ?_
    have hres := congrArg Array.toList Try.results57
    simp only [Try.ntmps57, BGB, seval]
    (have gx := @List.length_map.{0,0}; have q1 := cg; have q2 := ci; refine go ?_; (repeat' (first | exact Ef.mk | refine Lf.mk ?_ ?_ | refine fun (K : KT) hK hE hT => ?_ | refine fun (KS : Eff → Prop) hKS => ?_ | refine fun (D : List Keys → Prop) hD => ?_ | refine fun (hg : (_ : Prop)) => ?_ | fail)); all_goals (first | (refine Wr.mk ?_; (try clear gx); (try clear q1 q2); repeat (first | (clear hK hE hT; clear K) | (clear hR hE hT; clear K))) | assumption | skip))
    refine loop_v (X := {v : Nat // v ≤ m}) [20] (fun x => [(5, .c (.sl 2 1 0 (ctTo D b x.1).1.length)), (6, .c (.v (.int .i64 (ctTo D b x.1).2))), (24, .c (.v (.int .i64 ((x.1 : Nat) : Int))))]) (fun x => [(0, some (.ro (ge.map EdgeD.k))), (1, some (.box 53 [.v (.int .i64 (m : Int)), .sl 0 3 0 ge.length])), (2, some (.row 3 ((ctTo D b x.1).1.map intK))), (3, some (.row 3 (D.map intK)))]) 4 (fun x => m - x.1) ⟨0, by omega⟩ ?_
    simp only [KPB, seval]
    refine ⟨?_, ?_⟩
    · (refine wk_a ?_; simp only [MAB, seval]; refine ⟨rfl, rfl, (by decide), ?_, ?_⟩; all_goals (first | (simp only [WKB, seval, ctTo, List.map_nil, Nat.reduceLT, Nat.zero_lt_succ]; done) | (simp [WKB, seval, ctTo, List.map_nil]; done) | simp only [WKB, seval]))
    · rintro ⟨v, hv⟩ K hR hE hT
      have hiv := hil v
      have hsr := hrg v
      obtain ⟨⟨E, S⟩, hc⟩ : ∃ c, c = ctTo D b v := ⟨_, rfl⟩
      simp only [← hc] at hiv hsr ⊢
      rcases Nat.lt_or_ge v m with hlt | hge
      case inr =>
        obtain rfl : v = m := by omega
        rcases Nat.eq_zero_or_pos v with e0 | e0
        · have e : ctHd D b v = E := by subst e0; rw [ctHd_zero]; have := congrArg Prod.fst hc; exact this.symm
          have e2 : E.length = 0 := by subst e0; have := congrArg Prod.fst hc; rw [show E = [] from this]; rfl
          (have gx := @List.length_map.{0,0}; refine go ?_; (repeat' (first | exact Ef.mk | refine Lf.mk ?_ ?_ | refine fun (K : KT) hK hE hT => ?_ | refine fun (KS : Eff → Prop) hKS => ?_ | refine fun (D : List Keys → Prop) hD => ?_ | refine fun (hg : (_ : Prop)) => ?_ | fail)); all_goals (first | (refine Wr.mk ?_; (try clear gx); repeat (first | (clear hK hE hT; clear K) | (clear hR hE hT; clear K))) | assumption | skip))
          all_goals (refine post_a hres (.inl rfl) ?_; simp only [RSB, ENB, seval, tiAll, e]; simp only [MAB, seval]; refine ⟨rfl, rfl, ?_, ?_, ?_⟩ <;> (first | rfl | (simp [WKB, Nat.add_comm, e]; done) | (simp only [WKB, seval])))
        · have e : ctHd D b v = E ++ [(v : Int)] := by rw [ctHd_pos e0, ← hc]
          (have gx := @List.length_map.{0,0}; refine go ?_; (repeat' (first | exact Ef.mk | refine Lf.mk ?_ ?_ | refine fun (K : KT) hK hE hT => ?_ | refine fun (KS : Eff → Prop) hKS => ?_ | refine fun (D : List Keys → Prop) hD => ?_ | refine fun (hg : (_ : Prop)) => ?_ | fail)); all_goals (first | (refine Wr.mk ?_; (try clear gx); repeat (first | (clear hK hE hT; clear K) | (clear hR hE hT; clear K))) | assumption | skip))
          all_goals (refine post_a hres (.inl rfl) ?_; simp only [RSB, ENB, seval, tiAll, e, List.map_append, intK, List.map_cons, List.map_nil, List.length_append, List.length_cons, List.length_nil]; simp only [MAB, seval]; refine ⟨rfl, rfl, ?_, ?_, ?_⟩ <;> (first | rfl | (simp [WKB, Nat.add_comm, e, List.map_append, intK, List.map_cons, List.map_nil, List.length_append, List.length_cons, List.length_nil]; done) | (simp only [WKB, seval])))
      case inl =>
        have dv := hdg v hlt
        have dr := hdr v
        obtain ⟨z, hz⟩ : ∃ z, z = D[v]'(by omega) := ⟨_, rfl⟩
        rw [← hz] at dv
        rw [dv] at dr
        by_cases h2 : 0 < v ∧ b < S + z
        · have e := ctTo_hit (d := D) (b := b) (v := v) h2.1 (by rw [← hc, dv]; exact h2.2)
          rw [← hc, dv] at e
          (have gx := And.intro (@List.length_map.{0,0}) (And.intro (@List.getElem_map.{0,0}) (And.intro @intK.eq_1 (hz).symm)); refine go ?_; (repeat' (first | exact Ef.mk | refine Lf.mk ?_ ?_ | refine fun (K : KT) hK hE hT => ?_ | refine fun (KS : Eff → Prop) hKS => ?_ | refine fun (D : List Keys → Prop) hD => ?_ | refine fun (hg : (_ : Prop)) => ?_ | fail)); all_goals (first | (refine Wr.mk ?_; (try clear gx); repeat (first | (clear hK hE hT; clear K) | (clear hR hE hT; clear K))) | assumption | skip))
          all_goals first | (exfalso; omega) | skip
          all_goals (refine hR.out ⟨v + 1, by omega⟩ _ _ _ (by simp only; omega) ?_; (refine wk_a ?_; simp only [MAB, seval]; refine ⟨rfl, rfl, (by decide), ?_, ?_⟩; all_goals (first | (simp only [WKB, seval, e, Int.zero_add, List.map_append, intK, List.map_cons, List.map_nil, List.length_append, List.length_cons, List.length_nil, Nat.reduceLT, Nat.zero_lt_succ]; done) | (simp [WKB, seval, e, Int.zero_add, List.map_append, intK, List.map_cons, List.map_nil, List.length_append, List.length_cons, List.length_nil]; done) | simp only [WKB, seval])))
        · have e := ctTo_miss (d := D) (b := b) (v := v) (by rw [← hc, dv]; exact h2)
          rw [← hc, dv] at e
          (have gx := And.intro (@List.length_map.{0,0}) (And.intro (@List.getElem_map.{0,0}) (And.intro @intK.eq_1 (hz).symm)); refine go ?_; (repeat' (first | exact Ef.mk | refine Lf.mk ?_ ?_ | refine fun (K : KT) hK hE hT => ?_ | refine fun (KS : Eff → Prop) hKS => ?_ | refine fun (D : List Keys → Prop) hD => ?_ | refine fun (hg : (_ : Prop)) => ?_ | fail)); all_goals (first | (refine Wr.mk ?_; (try clear gx); repeat (first | (clear hK hE hT; clear K) | (clear hR hE hT; clear K))) | assumption | skip))
          all_goals first | (exfalso; omega) | skip
          all_goals (refine hR.out ⟨v + 1, by omega⟩ _ _ _ (by simp only; omega) ?_; (refine wk_a ?_; simp only [MAB, seval]; refine ⟨rfl, rfl, (by decide), ?_, ?_⟩; all_goals (first | (simp only [WKB, seval, e, Nat.reduceLT, Nat.zero_lt_succ]; done) | (simp [WKB, seval, e]; done) | simp only [WKB, seval])))

end Go.Proofs.Ytcbnfkbnbdbfoaa
