/-
  Contract: the program loads the part of an interval. No conditions of its own.
-/
import Derived.Test.YtfdhdkljpeohlaaGreatGO
import Derived.Test.YtfdhdkljpeohlaaGreatMLD
import Derived.Test.YtfdhdkljpeohlaaGreatMSB
import Derived.Test.YtfdhdkljpeohlaaGreatMSA
namespace Go.Proofs.YtfdhdkljpeohlaaGreat
set_option linter.unusedSimpArgs false
set_option linter.unusedVariables false
set_option linter.unusedSimpArgs false
set_option linter.unusedVariables false
set_option linter.defProp false
set_option maxRecDepth 20000
open Go.RowKit
attribute [local irreducible] lexD


set_option maxHeartbeats 16000000 in
theorem load_k (f : FarmD) (p : Nat) (lo hi : Int) (h : (f.Ends).length ≤ 1048576 ∧ (f.Shards).length ≤ 1048576 ∧ (∀ s ∈ f.Shards, s.Edges.length ≤ 1048576)) (hf : FarmOk f) (hp : p < f.Ends.length) (hlo : lastE f.Ends p = lo) (hhi : f.Ends[p] = hi) : FnOK Tryz.prog 27 ⟨2, [(0, some (.ro ((f.Ends).map intK))), (1, some (.ro ((f.Shards).map (ShardD.k 112))))], [.agg [.v (.int .i64 f.N), .sl 0 1 0 (f.Ends).length, .sl 1 3 0 (f.Shards).length], .c (.v (.int .i64 (p : Int)))], .agg [.v (.int .i64 (subO f p lo hi).P), .v (.int .i64 (subO f p lo hi).Lo), .v (.int .i64 (subO f p lo hi).Hi), .sl 2 7 0 ((subO f p lo hi).Locs).length, .v (.int .i64 (subO f p lo hi).Reads)], [(2, some (.row 114 (((subO f p lo hi).Locs).map LocD.k)))], 3⟩ := by
  have hlh := farm_lh hf hp
  rw [hlo, hhi] at hlh
  obtain ⟨h0, h1, h2⟩ := h
  have cs := implSpan_k f.Ends p h0 hp
  rw [hlo, hhi] at cs
  have hm := hf.2.2.2.2.2.2.2.1
  have hlen := fun k (hk : k ≤ f.Shards.length) => locsTo_len (p := p) hlh hk
  have hrd := rdTo_le f.Shards p lo hi
  have hS := insAll_perm (locsTo f.Shards p lo hi f.Shards.length) []
  rw [List.append_nil] at hS
  have hSs := insAll_sorted (locsTo f.Shards p lo hi f.Shards.length) [] .nil
  have hnd := locsTo_nodup (p := p) hlh (Nat.le_refl f.Shards.length) hf.2.2.2.2.2.2.2.2
  have hSl := insAll_len (locsTo f.Shards p lo hi f.Shards.length)
  have hsl : f.Shards.length ≤ 150 := (gf_ok hf).l
  have esub : subO f p lo hi = ⟨(p : Int), lo, hi, insAll [] (locsTo f.Shards p lo hi f.Shards.length), (rdTo f.Shards p lo hi f.Shards.length : Int)⟩ := rfl
  rw [esub]
  dsimp only
  clear esub
  refine fnOK_of true mixed Tryz.func27 rfl (by rfl) (by rfl) ?_
  have hres := congrArg Array.toList Tryz.results27
  simp only [Tryz.ntmps27, BGB, seval]
  (have gx := @List.length_map.{0,0}; have q1 := cs; refine go ?_; (repeat' first | exact Ef.mk | apply Lf.mk | refine fun (K : KT) hK hE hT => ?_ | refine fun (KS : KE) hKS => ?_ | refine fun (D : KD) hD => ?_ | refine fun (hg : (_ : Prop)) => ?_ | fail); all_goals (first | (refine Wr.mk ?_; (try clear gx q1); repeat first | clear hK hE hT K | clear hR hE hT K) | assumption | skip))
  refine loop_v (X := {k : Nat // k ≤ f.Shards.length}) [] (fun x => [(27, .c (.v (.int .i64 ((x.1 : Nat) : Int))))]) (fun x => [(0, some (.ro (f.Ends.map intK))), (1, some (.ro (f.Shards.map (ShardD.k 112)))), (2, some (.box 30 [.v (.int .i64 f.N), .sl 0 1 0 (f.Ends).length, .sl 1 3 0 (f.Shards).length])), (3, some (.box 70 [.v (.int .i64 0), .v (.int .i64 0), .v (.int .i64 0), .nil, .v (.int .i64 0)])), (4, some (.box 70 [.v (.int .i64 (p : Int)), .v (.int .i64 lo), .v (.int .i64 hi), .sl 5 7 0 (locsTo f.Shards p lo hi x.1).length, .v (.int .i64 (rdTo f.Shards p lo hi x.1 : Int))])), (5, some (.row 114 ((locsTo f.Shards p lo hi x.1).map LocD.k)))]) 6 (fun x => f.Shards.length - x.1) ⟨0, by omega⟩ ?_
  simp only [KPB, seval]
  refine ⟨?_, ?_⟩
  · (refine wk_a ?_; simp only [MAB, seval]; refine ⟨rfl, rfl, (by decide), ?_, ?_⟩; all_goals (first | (simp only [WKB, seval, locsTo_zero, rdTo_zero]; done) | (simp [WKB, seval, locsTo_zero, rdTo_zero]; done) | simp only [WKB, seval]))
  · rintro ⟨k, hk⟩ K hR hE hT
    have hLk := hlen k hk
    have hrk := hrd k
    rcases Nat.lt_or_ge k f.Shards.length with hlt | hge
    case inr =>
      obtain rfl : k = f.Shards.length := by omega
      repeat' ((fail_if_success with_reducible refine hand_k (id := 16) ?_); (first | (with_reducible first | refine seq_k fun K hK hE hT => ?_ | refine block_k fun K hK hE hT => ?_ | refine lex_nil ?_ | fail) | ((with_reducible refine region_k ?_); simp only [dstsOf, EVB, seval]) | ((with_reducible refine draw_k ?_ fun D hD => ?_); (focus (first | rfl | kernel_rfl)); simp only [dstsOf, EVB, seval]) | ((with_reducible first | refine lex_move ?_ | refine lex_assign ?_); simp only [EVB, seval]) | (with_reducible first | refine lex_cons fun KS hKS => ?_ | refine lexd_cons fun KS hKS => ?_ | refine skip_k ?_ | refine exit_k ?_ | refine ret_k ?_ | fail) | ((with_reducible refine call_go ?_); fail) | ((with_reducible refine step_go ?_); (fail_if_success with_reducible refine call_go ?_); simp only [ENB, seval, tiAll, List.length_map]) | ((with_reducible refine lexd_nil ?_ ?_); (focus (refine hD _ ?_; first | kernel_rfl | with_unfolding_all rfl)); clear hD; clear D) | ((with_reducible refine guard_go ?_); refine lex_gone rfl rfl ?_; simp only [EVB, seval]) | ((with_reducible refine guardd_go ?_); refine lexd_gone rfl rfl ?_; simp only [EVB, seval]) | ((first | ((with_reducible refine guard_go ?_); refine lex_guard rfl rfl (fun hg KS hKS => ?_) (fun hg => ?_)) | ((with_reducible refine guardd_go ?_); refine lexd_guard rfl rfl (fun hg KS hKS => ?_) (fun hg => ?_)) | ((with_reducible refine cond_go ?_); refine cond_k rfl (fun hg => ?_) (fun hg => ?_)) | (with_reducible refine And.intro (fun hg => ?_) (fun hg => ?_)) | fail) <;> first | ((with_reducible exfalso); exact absurd hg (by decide)) | ((try simp only [CNL] at hg) <;> first | ((with_reducible exfalso); omega) | ((with_reducible exfalso); first | exact tf (by assumption) hg | exact tf hg (by assumption)) | ((try with_reducible (have hT0 : True := hg; clear hT0 hg)); first | (with_reducible refine wpc_go ?_) | (try simp only [EVB, seval])))) | ((with_reducible refine hKS _ _ _ _ ?_); clear hKS; clear KS; simp only [EVB, seval]) | ((with_reducible refine And.intro ?_ ?_); focus (first | omega | exact u8_le _ | exact flat_intK _ | exact flat_bytK _ | (fail) | decide | (simp only [List.length_map]; done))) | ((with_reducible refine ex_p ?_ (fun hh => ?_)); focus (first | omega | (simp only [List.length_map]; omega))) | ((with_reducible refine hK _ _ _ ?_); clear hK hE hT; clear K) | ((with_reducible first | refine hE _ _ _ _ ?_ | refine hT _ _ _ ?_ | fail); (first | (clear hK hE hT; clear K) | (clear hR hE hT; clear K) | skip); try simp only [IFB, seval]) | ((with_reducible apply_assumption -symm -exfalso); try simp only [IFB, seval]) | fail))
      refine hand_k (hand_tail5 (ck := true) rfl rfl ?_)
      simp only [dstsOf, EVB, seval]
      repeat' ((fail_if_success with_reducible refine hand_k (id := 16) ?_); (first | (with_reducible first | refine seq_k fun K hK hE hT => ?_ | refine block_k fun K hK hE hT => ?_ | refine lex_nil ?_ | fail) | ((with_reducible refine region_k ?_); simp only [dstsOf, EVB, seval]) | ((with_reducible refine draw_k ?_ fun D hD => ?_); (focus (first | rfl | kernel_rfl)); simp only [dstsOf, EVB, seval]) | ((with_reducible first | refine lex_move ?_ | refine lex_assign ?_); simp only [EVB, seval]) | (with_reducible first | refine lex_cons fun KS hKS => ?_ | refine lexd_cons fun KS hKS => ?_ | refine skip_k ?_ | refine exit_k ?_ | refine ret_k ?_ | fail) | ((with_reducible refine call_go ?_); fail) | ((with_reducible refine step_go ?_); (fail_if_success with_reducible refine call_go ?_); simp only [ENB, seval, tiAll, List.length_map]) | ((with_reducible refine lexd_nil ?_ ?_); (focus (refine hD _ ?_; first | kernel_rfl | with_unfolding_all rfl)); clear hD; clear D) | ((with_reducible refine guard_go ?_); refine lex_gone rfl rfl ?_; simp only [EVB, seval]) | ((with_reducible refine guardd_go ?_); refine lexd_gone rfl rfl ?_; simp only [EVB, seval]) | ((first | ((with_reducible refine guard_go ?_); refine lex_guard rfl rfl (fun hg KS hKS => ?_) (fun hg => ?_)) | ((with_reducible refine guardd_go ?_); refine lexd_guard rfl rfl (fun hg KS hKS => ?_) (fun hg => ?_)) | ((with_reducible refine cond_go ?_); refine cond_k rfl (fun hg => ?_) (fun hg => ?_)) | (with_reducible refine And.intro (fun hg => ?_) (fun hg => ?_)) | fail) <;> first | ((with_reducible exfalso); exact absurd hg (by decide)) | ((try simp only [CNL] at hg) <;> first | ((with_reducible exfalso); omega) | ((with_reducible exfalso); first | exact tf (by assumption) hg | exact tf hg (by assumption)) | ((try with_reducible (have hT0 : True := hg; clear hT0 hg)); first | (with_reducible refine wpc_go ?_) | (try simp only [EVB, seval])))) | ((with_reducible refine hKS _ _ _ _ ?_); clear hKS; clear KS; simp only [EVB, seval]) | ((with_reducible refine And.intro ?_ ?_); focus (first | omega | exact u8_le _ | exact flat_intK _ | exact flat_bytK _ | (fail) | decide | (simp only [List.length_map]; done))) | ((with_reducible refine ex_p ?_ (fun hh => ?_)); focus (first | omega | (simp only [List.length_map]; omega))) | ((with_reducible refine hK _ _ _ ?_); clear hK hE hT; clear K) | ((with_reducible first | refine hE _ _ _ _ ?_ | refine hT _ _ _ ?_ | fail); (first | (clear hK hE hT; clear K) | (clear hR hE hT; clear K) | skip); try simp only [IFB, seval]) | ((with_reducible apply_assumption -symm -exfalso); try simp only [IFB, seval]) | fail))
      intro X a w Q' hn hs hK'
      refine locs_tail (L := locsTo f.Shards p lo hi f.Shards.length) (S := insAll [] (locsTo f.Shards p lo hi f.Shards.length)) (ds := 73) (db := 7) (gr := 5) (gb := 4) (by omega) hs rfl rfl rfl rfl rfl (by decide) (by decide) (by decide) (by simp) (by simp) hS hSs hnd ?_ hK'
      simp only [EVB, seval]
      (have gx := @List.length_map.{0,0}; refine go ?_; (repeat' first | exact Ef.mk | apply Lf.mk | refine fun (K : KT) hK hE hT => ?_ | refine fun (KS : KE) hKS => ?_ | refine fun (D : KD) hD => ?_ | refine fun (hg : (_ : Prop)) => ?_ | fail); all_goals (first | (refine Wr.mk ?_; (try clear gx); repeat first | clear hK hE hT K | clear hR hE hT K) | assumption | skip))
      (refine post_a hres (.inl rfl) ?_; simp only [RSB, ENB, seval, tiAll, hSl]; simp only [MAB, seval]; refine ⟨rfl, rfl, ?_, ?_, ?_⟩ <;> (first | rfl | (simp [WKB, Nat.add_comm, hSl]; done) | (simp only [WKB, seval])))
    case inl =>
      have hes := h2 _ (List.getElem_mem hlt)
      have hAB := wi_le (p := p) (k := k) (s := f.Shards[k]) hlh
      have hBl := wiB_le (p := p) (k := k) (hi := hi) (s := f.Shards[k])
      have hstep := locsTo_succ (p := p) (lo := lo) (hi := hi) hlt
      have hrs := rdTo_succ (p := p) (lo := lo) (hi := hi) hlt
      have cw := implWindow_k f.Shards[k] hes lo hi
      have hoe : (f.Shards[k]).Edges.length ≤ 400 := (gf_ok hf).s k hlt |>.1.2.2.2
      obtain ⟨A, hAd⟩ : ∃ A, A = wiA p k lo f.Shards[k] := ⟨_, rfl⟩
      obtain ⟨B, hBd⟩ : ∃ B, B = wiB p k hi f.Shards[k] := ⟨_, rfl⟩
      rw [← hAd, ← hBd] at hAB hstep hrs
      rw [← hBd] at hBl
      obtain ⟨L, hL⟩ : ∃ L, L = locsTo f.Shards p lo hi k := ⟨_, rfl⟩
      rw [← hL] at hLk hstep ⊢
      obtain ⟨R0, hR0d⟩ : ∃ R, R = rdTo f.Shards p lo hi k := ⟨_, rfl⟩
      rw [← hR0d] at hrk hrs ⊢
      by_cases hkp : k = p
      case pos =>
        subst hkp
        rw [wiA_t] at hAd
        rw [wiB_t] at hBd
        have hA : ((A : Nat) : Int) = 0 := by omega
        obtain ⟨R, hRq⟩ : ∃ R, R = R0 := ⟨_, rfl⟩
        have hRs : rdTo f.Shards k lo hi (k + 1) = R := by rw [hrs, if_neg (fun q => q.1 rfl)]; omega
        (have gx := And.intro (@List.length_map.{0,0}) (And.intro @List.getElem_map.{0,0} @ShardD.k.eq_1); have q1 := cw; refine go ?_; (repeat' first | exact Ef.mk | apply Lf.mk | refine fun (K : KT) hK hE hT => ?_ | refine fun (KS : KE) hKS => ?_ | refine fun (D : KD) hD => ?_ | refine fun (hg : (_ : Prop)) => ?_ | fail); all_goals (first | (refine Wr.mk ?_; (try clear gx q1); repeat first | clear hK hE hT K | clear hR hE hT K) | assumption | skip))
        refine loop_v (X := {i : Nat // A ≤ i ∧ i ≤ B}) [] (fun x => [(12, .c (.v (.int .i64 ((x.1 : Nat) : Int))))]) (fun x => [(0, some (.ro (f.Ends.map intK))), (1, some (.ro (f.Shards.map (ShardD.k 112)))), (2, some (.box 30 [.v (.int .i64 f.N), .sl 0 1 0 (f.Ends).length, .sl 1 3 0 (f.Shards).length])), (3, some (.box 70 [.v (.int .i64 0), .v (.int .i64 0), .v (.int .i64 0), .nil, .v (.int .i64 0)])), (4, some (.box 70 [.v (.int .i64 (k : Int)), .v (.int .i64 lo), .v (.int .i64 hi), .sl 5 7 0 (L ++ plcAt k f.Shards[k] A (x.1 - A)).length, .v (.int .i64 (R : Int))])), (5, some (.row 114 ((L ++ plcAt k f.Shards[k] A (x.1 - A)).map LocD.k))), (6, some (.ro (f.Shards[k].Edges.map SEdgeD.k))), (7, some (.box 109 [.v (.int .i64 f.Shards[k].Lo), .v (.int .i64 f.Shards[k].Hi), .sl 6 5 0 f.Shards[k].Edges.length]))]) 8 (fun x => B - x.1) ⟨A, Nat.le_refl _, hAB⟩ ?_
        simp only [KPB, seval]
        refine ⟨?_, ?_⟩
        · (refine wk_a ?_; simp only [MAB, seval]; refine ⟨rfl, rfl, (by decide), ?_, ?_⟩; all_goals (first | (simp only [WKB, seval, hA, hRq, Nat.sub_self, plcAt_zero, List.append_nil]; done) | (simp [WKB, seval, hA, hRq, Nat.sub_self, plcAt_zero, List.append_nil]; done) | simp only [WKB, seval]))
        · rintro ⟨i, hi1, hi2⟩ K hR2 hE hT
          obtain ⟨M, hM⟩ : ∃ M, M = L ++ plcAt k f.Shards[k] A (i - A) := ⟨_, rfl⟩
          have lM : M.length = L.length + (i - A) := by rw [hM, List.length_append, plcAt_len]
          simp only [← hM]
          rcases Nat.lt_or_ge i B with hib | hib
          case inr =>
            obtain rfl : i = B := by omega
            have e3 : M = locsTo f.Shards k lo hi (k + 1) := by rw [hM, hstep]
            subst e3
            (have gx := @List.length_map.{0,0}; refine go ?_; (repeat' first | exact Ef.mk | apply Lf.mk | refine fun (K : KT) hK hE hT => ?_ | refine fun (KS : KE) hKS => ?_ | refine fun (D : KD) hD => ?_ | refine fun (hg : (_ : Prop)) => ?_ | fail); all_goals (first | (refine Wr.mk ?_; (try clear gx); repeat first | clear hK hE hT K | clear hR hE hT K) | assumption | skip))
            (refine hR.out ⟨k + 1, by omega⟩ _ _ _ (by simp only; omega) ?_; (refine wk_a ?_; simp only [MAB, seval]; refine ⟨rfl, rfl, (by decide), ?_, ?_⟩; all_goals (first | (simp only [WKB, seval, hRs]; done) | (simp [WKB, seval, hRs]; done) | simp only [WKB, seval])))
          case inl =>
            have hiE : i < f.Shards[k].Edges.length := by omega
            have hMs : L ++ plcAt k f.Shards[k] A (i + 1 - A) = M ++ [⟨(k : Int), (i : Int), f.Shards[k].Edges[i]⟩] := by rw [plcAt_succ hiE hi1, ← List.append_assoc, ← hM]
            obtain ⟨y, hy⟩ : ∃ y, y = f.Shards[k].Edges[i] := ⟨_, rfl⟩
            rw [← hy] at hMs
            (have gx := And.intro (@List.length_map.{0,0}) (And.intro (@List.getElem_map.{0,0}) (And.intro (hy).symm @SEdgeD.k.eq_1)); refine go ?_; (repeat' first | exact Ef.mk | apply Lf.mk | refine fun (K : KT) hK hE hT => ?_ | refine fun (KS : KE) hKS => ?_ | refine fun (D : KD) hD => ?_ | refine fun (hg : (_ : Prop)) => ?_ | fail); all_goals (first | (refine Wr.mk ?_; (try clear gx); repeat first | clear hK hE hT K | clear hR hE hT K) | assumption | skip))
            all_goals (refine hR2.out ⟨i + 1, by omega, by omega⟩ _ _ _ (by simp only; omega) ?_; (refine wk_a ?_; simp only [MAB, seval]; refine ⟨rfl, rfl, (by decide), ?_, ?_⟩; all_goals (first | (simp only [WKB, seval, hMs, LocD.k, List.map_append, List.length_append, List.length_cons, List.length_nil]; done) | (simp [WKB, seval, hMs, LocD.k, List.map_append, List.length_append, List.length_cons, List.length_nil]; done) | simp only [WKB, seval])))
      case neg =>
        rw [wiA_f hkp] at hAd
        rw [wiB_f hkp] at hBd
        rw [← hAd, ← hBd] at cw
        by_cases hlt2 : A < B
        case pos =>
          obtain ⟨R, hRq⟩ : ∃ R, R = R0 + 1 := ⟨_, rfl⟩
          have hRs : rdTo f.Shards p lo hi (k + 1) = R := by rw [hrs, if_pos ⟨hkp, hlt2⟩, hRq]
          have hRi : ((R : Nat) : Int) = (R0 : Int) + 1 := by omega
          (have gx := And.intro (@List.length_map.{0,0}) (And.intro @List.getElem_map.{0,0} @ShardD.k.eq_1); have q1 := cw; refine go ?_; (repeat' first | exact Ef.mk | apply Lf.mk | refine fun (K : KT) hK hE hT => ?_ | refine fun (KS : KE) hKS => ?_ | refine fun (D : KD) hD => ?_ | refine fun (hg : (_ : Prop)) => ?_ | fail); all_goals (first | (refine Wr.mk ?_; (try clear gx q1); repeat first | clear hK hE hT K | clear hR hE hT K) | assumption | skip))
          refine loop_v (X := {i : Nat // A ≤ i ∧ i ≤ B}) [] (fun x => [(12, .c (.v (.int .i64 ((x.1 : Nat) : Int))))]) (fun x => [(0, some (.ro (f.Ends.map intK))), (1, some (.ro (f.Shards.map (ShardD.k 112)))), (2, some (.box 30 [.v (.int .i64 f.N), .sl 0 1 0 (f.Ends).length, .sl 1 3 0 (f.Shards).length])), (3, some (.box 70 [.v (.int .i64 0), .v (.int .i64 0), .v (.int .i64 0), .nil, .v (.int .i64 0)])), (4, some (.box 70 [.v (.int .i64 (p : Int)), .v (.int .i64 lo), .v (.int .i64 hi), .sl 5 7 0 (L ++ plcAt k f.Shards[k] A (x.1 - A)).length, .v (.int .i64 (R : Int))])), (5, some (.row 114 ((L ++ plcAt k f.Shards[k] A (x.1 - A)).map LocD.k))), (6, some (.ro (f.Shards[k].Edges.map SEdgeD.k))), (7, some (.box 109 [.v (.int .i64 f.Shards[k].Lo), .v (.int .i64 f.Shards[k].Hi), .sl 6 5 0 f.Shards[k].Edges.length]))]) 8 (fun x => B - x.1) ⟨A, Nat.le_refl _, hAB⟩ ?_
          simp only [KPB, seval]
          refine ⟨?_, ?_⟩
          · (refine wk_a ?_; simp only [MAB, seval]; refine ⟨rfl, rfl, (by decide), ?_, ?_⟩; all_goals (first | (simp only [WKB, seval, hRi, Nat.sub_self, plcAt_zero, List.append_nil]; done) | (simp [WKB, seval, hRi, Nat.sub_self, plcAt_zero, List.append_nil]; done) | simp only [WKB, seval]))
          · rintro ⟨i, hi1, hi2⟩ K hR2 hE hT
            obtain ⟨M, hM⟩ : ∃ M, M = L ++ plcAt k f.Shards[k] A (i - A) := ⟨_, rfl⟩
            have lM : M.length = L.length + (i - A) := by rw [hM, List.length_append, plcAt_len]
            simp only [← hM]
            rcases Nat.lt_or_ge i B with hib | hib
            case inr =>
              obtain rfl : i = B := by omega
              have e3 : M = locsTo f.Shards p lo hi (k + 1) := by rw [hM, hstep]
              subst e3
              (have gx := @List.length_map.{0,0}; refine go ?_; (repeat' first | exact Ef.mk | apply Lf.mk | refine fun (K : KT) hK hE hT => ?_ | refine fun (KS : KE) hKS => ?_ | refine fun (D : KD) hD => ?_ | refine fun (hg : (_ : Prop)) => ?_ | fail); all_goals (first | (refine Wr.mk ?_; (try clear gx); repeat first | clear hK hE hT K | clear hR hE hT K) | assumption | skip))
              (refine hR.out ⟨k + 1, by omega⟩ _ _ _ (by simp only; omega) ?_; (refine wk_a ?_; simp only [MAB, seval]; refine ⟨rfl, rfl, (by decide), ?_, ?_⟩; all_goals (first | (simp only [WKB, seval, hRs]; done) | (simp [WKB, seval, hRs]; done) | simp only [WKB, seval])))
            case inl =>
              have hiE : i < f.Shards[k].Edges.length := by omega
              have hMs : L ++ plcAt k f.Shards[k] A (i + 1 - A) = M ++ [⟨(k : Int), (i : Int), f.Shards[k].Edges[i]⟩] := by rw [plcAt_succ hiE hi1, ← List.append_assoc, ← hM]
              obtain ⟨y, hy⟩ : ∃ y, y = f.Shards[k].Edges[i] := ⟨_, rfl⟩
              rw [← hy] at hMs
              (have gx := And.intro (@List.length_map.{0,0}) (And.intro (@List.getElem_map.{0,0}) (And.intro (hy).symm @SEdgeD.k.eq_1)); refine go ?_; (repeat' first | exact Ef.mk | apply Lf.mk | refine fun (K : KT) hK hE hT => ?_ | refine fun (KS : KE) hKS => ?_ | refine fun (D : KD) hD => ?_ | refine fun (hg : (_ : Prop)) => ?_ | fail); all_goals (first | (refine Wr.mk ?_; (try clear gx); repeat first | clear hK hE hT K | clear hR hE hT K) | assumption | skip))
              all_goals (refine hR2.out ⟨i + 1, by omega, by omega⟩ _ _ _ (by simp only; omega) ?_; (refine wk_a ?_; simp only [MAB, seval]; refine ⟨rfl, rfl, (by decide), ?_, ?_⟩; all_goals (first | (simp only [WKB, seval, hMs, LocD.k, List.map_append, List.length_append, List.length_cons, List.length_nil]; done) | (simp [WKB, seval, hMs, LocD.k, List.map_append, List.length_append, List.length_cons, List.length_nil]; done) | simp only [WKB, seval])))
        case neg =>
          obtain ⟨R, hRq⟩ : ∃ R, R = R0 := ⟨_, rfl⟩
          have hRs : rdTo f.Shards p lo hi (k + 1) = R := by rw [hrs, if_neg (fun q => hlt2 q.2)]; omega
          (have gx := And.intro (@List.length_map.{0,0}) (And.intro @List.getElem_map.{0,0} @ShardD.k.eq_1); have q1 := cw; refine go ?_; (repeat' first | exact Ef.mk | apply Lf.mk | refine fun (K : KT) hK hE hT => ?_ | refine fun (KS : KE) hKS => ?_ | refine fun (D : KD) hD => ?_ | refine fun (hg : (_ : Prop)) => ?_ | fail); all_goals (first | (refine Wr.mk ?_; (try clear gx q1); repeat first | clear hK hE hT K | clear hR hE hT K) | assumption | skip))
          refine loop_v (X := {i : Nat // A ≤ i ∧ i ≤ B}) [] (fun x => [(12, .c (.v (.int .i64 ((x.1 : Nat) : Int))))]) (fun x => [(0, some (.ro (f.Ends.map intK))), (1, some (.ro (f.Shards.map (ShardD.k 112)))), (2, some (.box 30 [.v (.int .i64 f.N), .sl 0 1 0 (f.Ends).length, .sl 1 3 0 (f.Shards).length])), (3, some (.box 70 [.v (.int .i64 0), .v (.int .i64 0), .v (.int .i64 0), .nil, .v (.int .i64 0)])), (4, some (.box 70 [.v (.int .i64 (p : Int)), .v (.int .i64 lo), .v (.int .i64 hi), .sl 5 7 0 (L ++ plcAt k f.Shards[k] A (x.1 - A)).length, .v (.int .i64 (R : Int))])), (5, some (.row 114 ((L ++ plcAt k f.Shards[k] A (x.1 - A)).map LocD.k))), (6, some (.ro (f.Shards[k].Edges.map SEdgeD.k))), (7, some (.box 109 [.v (.int .i64 f.Shards[k].Lo), .v (.int .i64 f.Shards[k].Hi), .sl 6 5 0 f.Shards[k].Edges.length]))]) 8 (fun x => B - x.1) ⟨A, Nat.le_refl _, hAB⟩ ?_
          simp only [KPB, seval]
          refine ⟨?_, ?_⟩
          · (refine wk_a ?_; simp only [MAB, seval]; refine ⟨rfl, rfl, (by decide), ?_, ?_⟩; all_goals (first | (simp only [WKB, seval, hRq, Nat.sub_self, plcAt_zero, List.append_nil]; done) | (simp [WKB, seval, hRq, Nat.sub_self, plcAt_zero, List.append_nil]; done) | simp only [WKB, seval]))
          · rintro ⟨i, hi1, hi2⟩ K hR2 hE hT
            obtain ⟨M, hM⟩ : ∃ M, M = L ++ plcAt k f.Shards[k] A (i - A) := ⟨_, rfl⟩
            have lM : M.length = L.length + (i - A) := by rw [hM, List.length_append, plcAt_len]
            simp only [← hM]
            rcases Nat.lt_or_ge i B with hib | hib
            case inr =>
              obtain rfl : i = B := by omega
              have e3 : M = locsTo f.Shards p lo hi (k + 1) := by rw [hM, hstep]
              subst e3
              (have gx := @List.length_map.{0,0}; refine go ?_; (repeat' first | exact Ef.mk | apply Lf.mk | refine fun (K : KT) hK hE hT => ?_ | refine fun (KS : KE) hKS => ?_ | refine fun (D : KD) hD => ?_ | refine fun (hg : (_ : Prop)) => ?_ | fail); all_goals (first | (refine Wr.mk ?_; (try clear gx); repeat first | clear hK hE hT K | clear hR hE hT K) | assumption | skip))
              (refine hR.out ⟨k + 1, by omega⟩ _ _ _ (by simp only; omega) ?_; (refine wk_a ?_; simp only [MAB, seval]; refine ⟨rfl, rfl, (by decide), ?_, ?_⟩; all_goals (first | (simp only [WKB, seval, hRs]; done) | (simp [WKB, seval, hRs]; done) | simp only [WKB, seval])))
            case inl =>
              have hiE : i < f.Shards[k].Edges.length := by omega
              have hMs : L ++ plcAt k f.Shards[k] A (i + 1 - A) = M ++ [⟨(k : Int), (i : Int), f.Shards[k].Edges[i]⟩] := by rw [plcAt_succ hiE hi1, ← List.append_assoc, ← hM]
              obtain ⟨y, hy⟩ : ∃ y, y = f.Shards[k].Edges[i] := ⟨_, rfl⟩
              rw [← hy] at hMs
              (have gx := And.intro (@List.length_map.{0,0}) (And.intro (@List.getElem_map.{0,0}) (And.intro (hy).symm @SEdgeD.k.eq_1)); refine go ?_; (repeat' first | exact Ef.mk | apply Lf.mk | refine fun (K : KT) hK hE hT => ?_ | refine fun (KS : KE) hKS => ?_ | refine fun (D : KD) hD => ?_ | refine fun (hg : (_ : Prop)) => ?_ | fail); all_goals (first | (refine Wr.mk ?_; (try clear gx); repeat first | clear hK hE hT K | clear hR hE hT K) | assumption | skip))
              all_goals (refine hR2.out ⟨i + 1, by omega, by omega⟩ _ _ _ (by simp only; omega) ?_; (refine wk_a ?_; simp only [MAB, seval]; refine ⟨rfl, rfl, (by decide), ?_, ?_⟩; all_goals (first | (simp only [WKB, seval, hMs, LocD.k, List.map_append, List.length_append, List.length_cons, List.length_nil]; done) | (simp [WKB, seval, hMs, LocD.k, List.map_append, List.length_append, List.length_cons, List.length_nil]; done) | simp only [WKB, seval])))

end Go.Proofs.YtfdhdkljpeohlaaGreat

