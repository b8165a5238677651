/-
  Contracts: the sizes of all parts, by both. No conditions of its own.
-/
import Derived.Test.YtcbnfkbnbdbfoaaGO
import Derived.Test.YtcbnfkbnbdbfoaaLD3
namespace Go.Proofs.Ytcbnfkbnbdbfoaa
set_option linter.unusedSimpArgs false
set_option linter.unusedVariables false
set_option linter.unusedSimpArgs false
set_option linter.unusedVariables false
set_option linter.defProp false
set_option maxRecDepth 20000
open Go.RowKit
attribute [local irreducible] lexD

def resTo (f : FarmD) (k : Nat) : List Int := (List.range k).map fun p => ((subO f p (lastE f.Ends p) (lastE f.Ends (p + 1))).Locs.length : Int)
theorem resTo_zero (f : FarmD) : resTo f 0 = [] := rfl
theorem resTo_len (f : FarmD) (k : Nat) : (resTo f k).length = k := by simp [resTo]
theorem resTo_succ (f : FarmD) {k : Nat} (h : k < f.Ends.length) : (resTo f (k + 1)).map intK = (resTo f k).map intK ++ [[.v (.int .i64 ((subO f k (lastE f.Ends k) f.Ends[k]).Locs.length : Int))]] := by
  unfold resTo
  rw [List.range_succ, List.map_append, List.map_append, ← lastE_succ h]; rfl
noncomputable def resR (f : FarmD) : List Int := if pB (FarmOk f) then resTo f f.Ends.length else []
theorem res_yes {f : FarmD} (h : FarmOk f) : resR f = resTo f f.Ends.length := by unfold resR; rw [pB_t h]; rfl
theorem res_no {f : FarmD} (h : ¬ FarmOk f) : resR f = [] := by unfold resR; rw [pB_f h]; rfl
theorem resR_len (f : FarmD) : (resR f).length ≤ f.Ends.length := by
  by_cases h : FarmOk f
  · rw [res_yes h, resTo_len]; exact Nat.le_refl _
  · rw [res_no h]; simp

set_option maxHeartbeats 8000000 in
theorem implResidents_k (f : FarmD) (h : (f.Ends).length ≤ 1048576 ∧ (f.Shards).length ≤ 1048576 ∧ (∀ s ∈ f.Shards, s.Edges.length ≤ 1048576)) : FnOK Try.prog 18 ⟨2, [(0, some (.ro ((f.Ends).map intK))), (1, some (.ro ((f.Shards).map (ShardD.k 64))))], [.agg [.v (.int .i64 f.N), .sl 0 1 0 (f.Ends).length, .sl 1 3 0 (f.Shards).length]], .c (.sl 2 1 0 (resR f).length), [(2, some (.row 3 ((resR f).map intK)))], 3⟩ := by
  have co := implFarmOk_k f h
  by_cases hf : FarmOk f
  case neg =>
    rw [res_no hf]
    rw [pB_f hf] at co
    obtain ⟨h0, h1, h2⟩ := h
    refine fnOK_of true mixed Try.func18 rfl (by rfl) (by rfl) ?_
    have hres := congrArg Array.toList Try.results18
    simp only [Try.ntmps18, BGB, seval]
    (have gx := @List.length_map.{0,0}; have q1 := co; refine go ?_; (repeat' (first | exact Ef.mk | refine Lf.mk ?_ ?_ | refine fun (K : KT) hK hE hT => ?_ | refine fun (KS : Eff → Prop) hKS => ?_ | refine fun (D : List Keys → Prop) hD => ?_ | refine fun (hg : (_ : Prop)) => ?_ | fail)); all_goals (first | (refine Wr.mk ?_; (try clear gx); (try clear q1); repeat (first | (clear hK hE hT; clear K) | (clear hR hE hT; clear K))) | assumption | skip))
    all_goals (refine post_a hres (.inl rfl) ?_; simp only [RSB, ENB, seval, tiAll, true_and]; simp only [MAB, seval]; refine ⟨rfl, rfl, ?_, ?_, ?_⟩ <;> (first | rfl | (simp [WKB, Nat.add_comm, true_and]; done) | (simp only [WKB, seval])))
  case pos =>
    rw [res_yes hf, resTo_len]
    rw [pB_t hf] at co
    have cl := fun k hk => load_k f k _ _ h hf hk rfl rfl
    have hls := fun k (hk : k < f.Ends.length) => sub_locs hf k (farm_lh hf hk)
    have hel : f.Ends.length ≤ 150 := by have := (gf_ok hf).l; have := (gf_ok hf).e; omega
    obtain ⟨h0, h1, h2⟩ := h
    refine fnOK_of true mixed Try.func18 rfl (by rfl) (by rfl) ?_
    have hres := congrArg Array.toList Try.results18
    simp only [Try.ntmps18, BGB, seval]
    (have gx := @List.length_map.{0,0}; have q1 := co; refine go ?_; (repeat' (first | exact Ef.mk | refine Lf.mk ?_ ?_ | refine fun (K : KT) hK hE hT => ?_ | refine fun (KS : Eff → Prop) hKS => ?_ | refine fun (D : List Keys → Prop) hD => ?_ | refine fun (hg : (_ : Prop)) => ?_ | fail)); all_goals (first | (refine Wr.mk ?_; (try clear gx); (try clear q1); repeat (first | (clear hK hE hT; clear K) | (clear hR hE hT; clear K))) | assumption | skip))
    refine loop_v (X := {k : Nat // k ≤ f.Ends.length}) [] (fun x => [(3, .c (.sl 3 1 0 x.1)), (11, .c (.v (.int .i64 ((x.1 : Nat) : Int))))]) (fun x => [(0, some (.ro ((f.Ends).map intK))), (1, some (.ro ((f.Shards).map (ShardD.k 64)))), (2, some (.box 34 [.v (.int .i64 f.N), .sl 0 1 0 (f.Ends).length, .sl 1 3 0 (f.Shards).length])), (3, some (.row 3 ((resTo f x.1).map intK)))]) 4 (fun x => f.Ends.length - x.1) ⟨0, by omega⟩ ?_
    simp only [KPB, seval]
    refine ⟨?_, ?_⟩
    · (refine wk_a ?_; simp only [MAB, seval]; refine ⟨rfl, rfl, (by decide), ?_, ?_⟩; all_goals (first | (simp only [WKB, seval, resTo_zero, Nat.reduceLT, Nat.zero_lt_succ]; done) | (simp [WKB, seval, resTo_zero]; done) | simp only [WKB, seval]))
    · rintro ⟨k, hk⟩ K hR hE hT
      have rl := resTo_len f k
      rcases Nat.lt_or_ge k f.Ends.length with hlt | hge
      case inr =>
        obtain rfl : k = f.Ends.length := by omega
        (have gx := And.intro @List.length_map.{0,0} @rl; refine go ?_; (repeat' (first | exact Ef.mk | refine Lf.mk ?_ ?_ | refine fun (K : KT) hK hE hT => ?_ | refine fun (KS : Eff → Prop) hKS => ?_ | refine fun (D : List Keys → Prop) hD => ?_ | refine fun (hg : (_ : Prop)) => ?_ | fail)); all_goals (first | (refine Wr.mk ?_; (try clear gx); repeat (first | (clear hK hE hT; clear K) | (clear hR hE hT; clear K))) | assumption | skip))
        (refine post_a hres (.inl rfl) ?_; simp only [RSB, ENB, seval, tiAll, true_and]; simp only [MAB, seval]; refine ⟨rfl, rfl, ?_, ?_, ?_⟩ <;> (first | rfl | (simp [WKB, Nat.add_comm, true_and]; done) | (simp only [WKB, seval])))
      case inl =>
        have c := cl k hlt
        have hl := hls k hlt
        have es := resTo_succ f hlt
        obtain ⟨S, hS⟩ : ∃ S, S = subO f k (lastE f.Ends k) f.Ends[k] := ⟨_, rfl⟩
        rw [← hS] at c hl es
        (have gx := And.intro @List.length_map.{0,0} @rl; have q1 := c; refine go ?_; (repeat' (first | exact Ef.mk | refine Lf.mk ?_ ?_ | refine fun (K : KT) hK hE hT => ?_ | refine fun (KS : Eff → Prop) hKS => ?_ | refine fun (D : List Keys → Prop) hD => ?_ | refine fun (hg : (_ : Prop)) => ?_ | fail)); all_goals (first | (refine Wr.mk ?_; (try clear gx); (try clear q1); repeat (first | (clear hK hE hT; clear K) | (clear hR hE hT; clear K))) | assumption | skip))
        (refine hR.out ⟨k + 1, by omega⟩ _ _ _ (by simp only; omega) ?_; (refine wk_a ?_; simp only [MAB, seval]; refine ⟨rfl, rfl, (by decide), ?_, ?_⟩; all_goals (first | (simp only [WKB, seval, es, Nat.reduceLT, Nat.zero_lt_succ]; done) | (simp [WKB, seval, es]; done) | simp only [WKB, seval])))

set_option maxHeartbeats 8000000 in
theorem specResidents_k (f : FarmD) (h : (f.Ends).length ≤ 1048576 ∧ (f.Shards).length ≤ 1048576 ∧ (∀ s ∈ f.Shards, s.Edges.length ≤ 1048576)) : FnOK Try.prog 17 ⟨2, [(0, some (.ro ((f.Ends).map intK))), (1, some (.ro ((f.Shards).map (ShardD.k 64))))], [.agg [.v (.int .i64 f.N), .sl 0 1 0 (f.Ends).length, .sl 1 3 0 (f.Shards).length]], .c (.sl 2 1 0 (resR f).length), [(2, some (.row 3 ((resR f).map intK)))], 3⟩ := by
  by_cases hf : FarmOk f
  case neg =>
    rw [res_no hf]
    have cl := specLoad_k f 0 h
    obtain ⟨e1, e2⟩ := sub_no (f := f) (p := 0) (fun q => hf q.1)
    rw [e1, e2] at cl
    obtain ⟨h0, h1, h2⟩ := h
    refine fnOK_of true mixed Try.func17 rfl (by rfl) (by rfl) ?_
    have hres := congrArg Array.toList Try.results17
    simp only [Try.ntmps17, BGB, seval]
    (have gx := @List.length_map.{0,0}; have q1 := cl; refine go ?_; (repeat' (first | exact Ef.mk | refine Lf.mk ?_ ?_ | refine fun (K : KT) hK hE hT => ?_ | refine fun (KS : Eff → Prop) hKS => ?_ | refine fun (D : List Keys → Prop) hD => ?_ | refine fun (hg : (_ : Prop)) => ?_ | fail)); all_goals (first | (refine Wr.mk ?_; (try clear gx); (try clear q1); repeat (first | (clear hK hE hT; clear K) | (clear hR hE hT; clear K))) | assumption | skip))
    refine loop_v (X := Unit) [7] (fun x => [(3, .c (.sl 3 1 0 0)), (11, .c (.v (.int .i64 0)))]) (fun x => [(0, some (.ro ((f.Ends).map intK))), (1, some (.ro ((f.Shards).map (ShardD.k 64)))), (2, some (.box 34 [.v (.int .i64 f.N), .sl 0 1 0 (f.Ends).length, .sl 1 3 0 (f.Shards).length])), (3, some (.row 3 []))]) 4 (fun x => 0) () ?_
    simp only [KPB, seval]
    refine ⟨?_, ?_⟩
    · (refine wk_a ?_; simp only [MAB, seval]; refine ⟨rfl, rfl, (by decide), ?_, ?_⟩; all_goals (first | (simp only [WKB, seval, true_and, Nat.reduceLT, Nat.zero_lt_succ]; done) | (simp [WKB, seval, true_and]; done) | simp only [WKB, seval]))
    · rintro ⟨⟩ K hR hE hT
      (have gx := @List.length_map.{0,0}; have q1 := cl; refine go ?_; (repeat' (first | exact Ef.mk | refine Lf.mk ?_ ?_ | refine fun (K : KT) hK hE hT => ?_ | refine fun (KS : Eff → Prop) hKS => ?_ | refine fun (D : List Keys → Prop) hD => ?_ | refine fun (hg : (_ : Prop)) => ?_ | fail)); all_goals (first | (refine Wr.mk ?_; (try clear gx); (try clear q1); repeat (first | (clear hK hE hT; clear K) | (clear hR hE hT; clear K))) | assumption | skip))
      all_goals (refine post_a hres (.inl rfl) ?_; simp only [RSB, ENB, seval, tiAll, true_and]; simp only [MAB, seval]; refine ⟨rfl, rfl, ?_, ?_, ?_⟩ <;> (first | rfl | (simp [WKB, Nat.add_comm, true_and]; done) | (simp only [WKB, seval])))
  case pos =>
    rw [res_yes hf, resTo_len]
    have cl := fun (k : Nat) (hk : k < f.Ends.length) => specLoadY_k f k _ _ h hf hk rfl rfl
    have hls := fun k (hk : k < f.Ends.length) => sub_locs hf k (farm_lh hf hk)
    have hel : f.Ends.length ≤ 150 := by have := (gf_ok hf).l; have := (gf_ok hf).e; omega
    obtain ⟨h0, h1, h2⟩ := h
    refine fnOK_of true mixed Try.func17 rfl (by rfl) (by rfl) ?_
    have hres := congrArg Array.toList Try.results17
    simp only [Try.ntmps17, BGB, seval]
    (have gx := @List.length_map.{0,0}; refine go ?_; (repeat' (first | exact Ef.mk | refine Lf.mk ?_ ?_ | refine fun (K : KT) hK hE hT => ?_ | refine fun (KS : Eff → Prop) hKS => ?_ | refine fun (D : List Keys → Prop) hD => ?_ | refine fun (hg : (_ : Prop)) => ?_ | fail)); all_goals (first | (refine Wr.mk ?_; (try clear gx); repeat (first | (clear hK hE hT; clear K) | (clear hR hE hT; clear K))) | assumption | skip))
    refine loop_v (X := {k : Nat // k ≤ f.Ends.length}) [7] (fun x => [(3, .c (.sl 3 1 0 x.1)), (11, .c (.v (.int .i64 ((x.1 : Nat) : Int))))]) (fun x => [(0, some (.ro ((f.Ends).map intK))), (1, some (.ro ((f.Shards).map (ShardD.k 64)))), (2, some (.box 34 [.v (.int .i64 f.N), .sl 0 1 0 (f.Ends).length, .sl 1 3 0 (f.Shards).length])), (3, some (.row 3 ((resTo f x.1).map intK)))]) 4 (fun x => f.Ends.length - x.1) ⟨0, by omega⟩ ?_
    simp only [KPB, seval]
    refine ⟨?_, ?_⟩
    · (refine wk_a ?_; simp only [MAB, seval]; refine ⟨rfl, rfl, (by decide), ?_, ?_⟩; all_goals (first | (simp only [WKB, seval, resTo_zero, Nat.reduceLT, Nat.zero_lt_succ]; done) | (simp [WKB, seval, resTo_zero]; done) | simp only [WKB, seval]))
    · rintro ⟨k, hk⟩ K hR hE hT
      have rl := resTo_len f k
      rcases Nat.lt_or_ge k f.Ends.length with hlt | hge
      case inr =>
        obtain rfl : k = f.Ends.length := by omega
        (have gx := And.intro @List.length_map.{0,0} @rl; refine go ?_; (repeat' (first | exact Ef.mk | refine Lf.mk ?_ ?_ | refine fun (K : KT) hK hE hT => ?_ | refine fun (KS : Eff → Prop) hKS => ?_ | refine fun (D : List Keys → Prop) hD => ?_ | refine fun (hg : (_ : Prop)) => ?_ | fail)); all_goals (first | (refine Wr.mk ?_; (try clear gx); repeat (first | (clear hK hE hT; clear K) | (clear hR hE hT; clear K))) | assumption | skip))
        (refine post_a hres (.inl rfl) ?_; simp only [RSB, ENB, seval, tiAll, true_and]; simp only [MAB, seval]; refine ⟨rfl, rfl, ?_, ?_, ?_⟩ <;> (first | rfl | (simp [WKB, Nat.add_comm, true_and]; done) | (simp only [WKB, seval])))
      case inl =>
        have c := cl k hlt
        have hl := hls k hlt
        have es := resTo_succ f hlt
        obtain ⟨S, hS⟩ : ∃ S, S = subO f k (lastE f.Ends k) f.Ends[k] := ⟨_, rfl⟩
        rw [← hS] at c hl es
        (have gx := And.intro @List.length_map.{0,0} @rl; have q1 := c; refine go ?_; (repeat' (first | exact Ef.mk | refine Lf.mk ?_ ?_ | refine fun (K : KT) hK hE hT => ?_ | refine fun (KS : Eff → Prop) hKS => ?_ | refine fun (D : List Keys → Prop) hD => ?_ | refine fun (hg : (_ : Prop)) => ?_ | fail)); all_goals (first | (refine Wr.mk ?_; (try clear gx); (try clear q1); repeat (first | (clear hK hE hT; clear K) | (clear hR hE hT; clear K))) | assumption | skip))
        (refine hR.out ⟨k + 1, by omega⟩ _ _ _ (by simp only; omega) ?_; (refine wk_a ?_; simp only [MAB, seval]; refine ⟨rfl, rfl, (by decide), ?_, ?_⟩; all_goals (first | (simp only [WKB, seval, es, Nat.reduceLT, Nat.zero_lt_succ]; done) | (simp [WKB, seval, es]; done) | simp only [WKB, seval])))

end Go.Proofs.Ytcbnfkbnbdbfoaa
