/-
  The law FnPack returns true. No conditions of its own.
-/
import Derived.Test.YtfdhdkljpeohlaaGreatDoorGO
import Derived.Test.YtfdhdkljpeohlaaGreatDoorPK4
import Derived.Test.YtfdhdkljpeohlaaGreatDoorVR3
import Derived.Test.YtfdhdkljpeohlaaGreatDoorZz2
import Derived.Test.YtfdhdkljpeohlaaGreatDoorZz1
namespace Go.Proofs.YtfdhdkljpeohlaaGreatDoor
set_option linter.unusedSimpArgs false
set_option linter.unusedVariables false
set_option linter.unusedSimpArgs false
set_option linter.unusedVariables false
set_option linter.defProp false
set_option maxRecDepth 20000
open Go.RowKit

/-- What the second half of the law asks of a run that is drawn. -/
theorem pk_run {G : GraphD} {r : RunD} (h : runOk G r = true) : r.Vals.length ≤ 150 ∧ r.EVals.length ≤ 400 ∧ r.Next.Bits.length ≤ 19 ∧ setOk r.Next.N r.Next.Bits = true ∧ lbO r.Vals = true ∧
    vrB (vfR r.vals) = true ∧ vrR (vfR r.vals) = r.vals ∧ vfB r.vals = true ∧ (vfR r.vals).length ≤ 60020 ∧ lsR (lbR r.Vals) ⟨0, true⟩ = (r.Vals, ⟨(lbR r.Vals).length, true⟩) ∧ (lbR r.Vals).length ≤ 1048576 := by
  obtain ⟨a1, a2, a3⟩ := runOk_small h
  have hv := run_vfO h
  obtain ⟨c1, c2, c3, c4⟩ := vr_at hv
  obtain ⟨_, _, _, h4, h5, _⟩ := hv
  have h5 : lbO r.Vals = true := h5
  have e : lbR r.Vals = lbL r.Vals := by unfold lbR; rw [if_pos h5]
  refine ⟨a1, a2, a3, h4, h5, c1, c2, c3, c4, ?_, ?_⟩
  · rw [e]
    refine ls_at h5 ⟨Nat.zero_le _, Nat.le_refl _, ?_⟩
    rw [Nat.sub_zero, List.drop_zero, List.take_length]
  · have := lbL_len h5
    rw [e]; omega
/-- .. and the first half of a farm. -/
theorem pk_farm {f : FarmD} (hf : FarmOk f) : gfB f = true ∧ (gfR f).length ≤ 20020 ∧ 20 ≤ (gfR f).length ∧ grB (gfR f) = true ∧ grR (gfR f) = ⟨f.N, f.Ends, f.Shards.map skS⟩ ∧
    grB ((gfR f).take ((gfR f).length - 1)) = false ∧ grB (gfR f ++ [0]) = false := by
  obtain ⟨a1, a2, a3, a4, a5⟩ := gr_at hf
  have hl : (gfR f).length = 20 + (gfD f).length := by rw [a4, fbL_len]
  refine ⟨a3, by omega, by omega, a1, a2, gr_not (d := gfD f) ?_ (by omega) (by rw [List.length_take]; omega), gr_not (d := gfD f) ?_ (by omega) (by rw [List.length_append, List.length_singleton]; omega)⟩
  · rw [List.take_take, a4, Nat.min_eq_left (by rw [fbL_len]; omega)]
  · rw [List.take_append_of_le_length (by omega), a4]
theorem pk_shard {s : ShardD} (h : ShOk s) : shK (9 :: shB s) 1 = true ∧ shD (9 :: shB s) 1 = skS s ∧ shP (9 :: shB s) 1 = (shB s).length + 1 := by
  have hA : AtB (9 :: shB s) 1 ((shB s).length + 1) (shB s) := by
    refine ⟨by omega, by rw [List.length_cons]; exact Nat.le_refl _, ?_⟩
    rw [List.drop_succ_cons, List.drop_zero, Nat.add_sub_cancel, List.take_length]
  obtain ⟨e1, e2⟩ := si_at h hA
  have hk : shK (9 :: shB s) 1 = true := by unfold shK; rw [e2]
  obtain ⟨f1, f2⟩ := sh_yes hk
  exact ⟨hk, by rw [f1, e1], by rw [f2, e2]⟩

set_option maxHeartbeats 32000000 in
theorem FnPack_k (b : List UInt8) (rb : b.length ≤ maxLen ∧ ∀ y ∈ b, (fun _ => True) y) : FnOK Tryz.prog 3 ⟨1, [(0, some (.ro (b.map bytK)))], [.c (.sl 0 1 0 b.length)], .c (.v (.bool true)), [], 1⟩ := by
  have q := rb.1
  simp only [maxLen] at q
  rcases Nat.lt_or_ge 1048576 b.length with h | h
  · have h0 := h
    refine fnOK_of true mixed Tryz.func3 rfl (by rfl) (by rfl) ?_
    have hres := congrArg Array.toList Tryz.results3
    simp only [Tryz.ntmps3, BGB, seval]
    (have gx := And.intro (@List.length_map.{0,0}) (And.intro @List.getElem_map.{0,0} @bytK.eq_1); refine go ?_; (repeat' first | exact Ef.mk | apply Lf.mk | refine fun (K : KT) hK hE hT => ?_ | refine fun (KS : KE) hKS => ?_ | refine fun (D : KD) hD => ?_ | refine fun (hg : (_ : Prop)) => ?_ | fail); all_goals (first | (refine Wr.mk ?_; (try clear gx); repeat first | clear hK hE hT K | clear hR hE hT K) | assumption | skip))
    (refine post_a hres (.inl rfl) ?_; simp only [RSB, ENB, seval, tiAll, true_and]; simp only [MAB, seval]; refine ⟨rfl, rfl, ?_, ?_, ?_⟩ <;> (first | rfl | (simp [WKB, Nat.add_comm, true_and]; done) | (simp only [WKB, seval])))
  · have km := makeFarm_k b h
    have hf := (fdF_ok b (newC b)).1
    have hdg := fdF_dg b (newC b)
    obtain ⟨f, hfd⟩ : ∃ f, f = fdF b (newC b) := ⟨_, rfl⟩
    rw [← hfd] at km hf hdg
    clear hfd
    have kmr := makeRunP_k b h
    have hro := (mr_ok b (newC b)).1
    obtain ⟨G, hG⟩ : ∃ G, G = mrG b (newC b) := ⟨_, rfl⟩
    obtain ⟨r, hr⟩ : ∃ r, r = mrR b (newC b) := ⟨_, rfl⟩
    rw [← hG, ← hr] at kmr hro
    clear hG hr
    obtain ⟨r1, r2, r3, r4, r5, r6, r7, r8, r9, r10, r11⟩ := pk_run hro
    have kvo := implValuesOf_k r ⟨by omega, by omega, by omega⟩
    have kvf := implValueFile_k r.vals ⟨by show r.Vals.length ≤ _; omega, by show r.EVals.length ≤ _; omega, by show r.Next.Bits.length ≤ _; omega⟩
    have kvr := implValueRead_k (vfR r.vals) (by omega)
    rw [r8] at kvf
    rw [r6, r7] at kvr
    obtain ⟨X, hX⟩ : ∃ X, X = vfR r.vals := ⟨_, rfl⟩
    rw [← hX] at kvf kvr r9
    clear hX r6 r7 r8
    have klb := implListBytes_k r.Vals (by omega)
    rw [r5] at klb
    have klr := implListRead_k (lbR r.Vals) r.Vals (lbR r.Vals).length r11 r10 (by omega)
    obtain ⟨Y, hY⟩ : ∃ Y, Y = lbR r.Vals := ⟨_, rfl⟩
    rw [← hY] at klb klr r11
    clear hY r10 r5
    have ks1 := sameInts_k r.Vals (by omega)
    have ks2 := sameInts_k r.EVals (by omega)
    have kd1 := implDigest_k r.Next.N r.Next.Bits (by omega)
    have kd2 := specDigest_k r.Next.N r.Next.Bits r4
    simp only [RunD.vals] at kvo kvf kvr
    have L := farm_L hf
    obtain ⟨a1, a2, a3, a4, a5, a6, a7⟩ := pk_farm hf
    have kgf := implGraphFile_k f L
    rw [a1] at kgf
    have kr1 := implGraphRead_k (gfR f) (by omega)
    rw [a4, a5] at kr1
    have hs1 := sk_ok hf
    have hsg := fg_sk1 hf
    obtain ⟨g, hg⟩ : ∃ g, g = (⟨f.N, f.Ends, f.Shards.map skS⟩ : FarmD) := ⟨_, rfl⟩
    rw [← hg] at kr1 hs1 hsg
    clear hg
    have kr2 := implGraphRead_k ((gfR f).take ((gfR f).length - 1)) (by rw [List.length_take]; omega)
    have kr3 := implGraphRead_k (gfR f ++ [0]) (by rw [List.length_append, List.length_singleton]; omega)
    rw [a6, List.map_take, List.length_take, Nat.min_eq_left (Nat.sub_le _ _)] at kr2
    have e0 : List.map bytK (gfR f ++ [0]) = List.map bytK (gfR f) ++ [[.v (.int .u8 0)]] := by simp [bytK]
    rw [a7, e0, List.length_append, List.length_singleton] at kr3
    clear e0
    obtain ⟨g2, hg2⟩ : ∃ g, g = grR ((gfR f).take ((gfR f).length - 1)) := ⟨_, rfl⟩
    obtain ⟨g3, hg3⟩ : ∃ g, g = grR (gfR f ++ [0]) := ⟨_, rfl⟩
    rw [← hg2] at kr2
    rw [← hg3] at kr3
    obtain ⟨B, hB⟩ : ∃ B, B = gfR f := ⟨_, rfl⟩
    rw [← hB] at kgf kr1 kr2 kr3 a2 a3
    clear hB hg2 hg3 a1 a4 a5 a6 a7
    have ki := implFarmGraph_k g (farm_L hs1)
    have kj := specFarmGraph_k f L
    rw [hsg] at ki
    have kti := implGraphText_k (fgR f) hdg
    have kts := specGraphText_k (fgR f) hdg
    have hel := fgR_len f
    obtain ⟨z, hz⟩ : ∃ z, z = fgR f := ⟨_, rfl⟩
    rw [← hz] at ki kj kti kts hel
    clear hz hsg hdg
    have hso := (gf_ok hf).s
    have hfl := (gf_ok hf).l
    have hfe := (gf_ok hf).e
    refine fnOK_of true mixed Tryz.func3 rfl (by rfl) (by rfl) ?_
    have hres := congrArg Array.toList Tryz.results3
    simp only [Tryz.ntmps3, BGB, seval]
    repeat' ((fail_if_success with_reducible refine hand_k (id := 4) ?_); (first | (with_reducible first | refine seq_k fun K hK hE hT => ?_ | refine block_k fun K hK hE hT => ?_ | refine lex_nil ?_ | fail) | ((with_reducible refine region_k ?_); simp only [dstsOf, EVB, seval]) | ((with_reducible refine draw_k ?_ fun D hD => ?_); (focus (first | rfl | kernel_rfl)); simp only [dstsOf, EVB, seval]) | ((with_reducible first | refine lex_move ?_ | refine lex_assign ?_); simp only [EVB, seval]) | (with_reducible first | refine lex_cons fun KS hKS => ?_ | refine lexd_cons fun KS hKS => ?_ | refine skip_k ?_ | refine exit_k ?_ | refine ret_k ?_ | fail) | ((with_reducible refine call_go ?_); (first | ((first | refine call_a (km) rfl rfl ?_ | fail); simp only [ENB, seval, tiAll, List.length_map, List.getElem_map, bytK]; simp only [MAB, seval]; refine ⟨rfl, ?_, ?_, ?_, rfl, ?_, ?_, ?_, ?_⟩; (iterate 6 (focus (first | rfl | (simp [CXB, map_take, List.length_map, List.getElem_map, bytK]; done) | (simp [CXB, List.length_map, List.getElem_map, bytK]; omega) | (dsimp only; omega)))); simp only [EFB, seval]) | fail)) | ((with_reducible refine step_go ?_); (fail_if_success with_reducible refine call_go ?_); simp only [ENB, seval, tiAll, List.length_map, List.getElem_map, bytK]) | ((with_reducible refine lexd_nil ?_ ?_); (focus (refine hD _ ?_; first | kernel_rfl | with_unfolding_all rfl)); clear hD; clear D) | ((with_reducible refine guard_go ?_); refine lex_gone rfl rfl ?_; simp only [EVB, seval]) | ((with_reducible refine guardd_go ?_); refine lexd_gone rfl rfl ?_; simp only [EVB, seval]) | ((first | ((with_reducible refine guard_go ?_); refine lex_guard rfl rfl (fun hg KS hKS => ?_) (fun hg => ?_)) | ((with_reducible refine guardd_go ?_); refine lexd_guard rfl rfl (fun hg KS hKS => ?_) (fun hg => ?_)) | ((with_reducible refine cond_go ?_); refine cond_k rfl (fun hg => ?_) (fun hg => ?_)) | (with_reducible refine And.intro (fun hg => ?_) (fun hg => ?_)) | fail) <;> first | ((with_reducible exfalso); exact absurd hg (by decide)) | ((try simp only [CNL] at hg) <;> first | ((with_reducible exfalso); omega) | ((with_reducible exfalso); first | exact tf (by assumption) hg | exact tf hg (by assumption)) | ((try with_reducible (have hT0 : True := hg; clear hT0 hg)); first | (with_reducible refine wpc_go ?_) | (try simp only [EVB, seval])))) | ((with_reducible refine hKS _ _ _ _ ?_); clear hKS; clear KS; simp only [EVB, seval]) | ((with_reducible refine And.intro ?_ ?_); focus (first | omega | exact u8_le _ | exact flat_intK _ | exact flat_bytK _ | (fail) | decide | (simp only [List.length_map, List.getElem_map, bytK]; done))) | ((with_reducible refine ex_p ?_ (fun hh => ?_)); focus (first | omega | (simp only [List.length_map, List.getElem_map, bytK]; omega))) | ((with_reducible refine hK _ _ _ ?_); clear hK hE hT; clear K) | ((with_reducible first | refine hE _ _ _ _ ?_ | refine hT _ _ _ ?_ | fail); (first | (clear hK hE hT; clear K) | (clear hR hE hT; clear K) | skip); try simp only [IFB, seval]) | ((with_reducible apply_assumption -symm -exfalso); try simp only [IFB, seval]) | fail))
    refine region_w (wk_freezeG (g := 2) rfl (.inr (.inl ⟨_, rfl⟩)) (by decide)) ?_
    simp only [EVB, seval]
    (have gx := @List.length_map.{0,0}; have q1 := kgf; have q2 := kr1; have q3 := kr2; have q4 := kr3; have q5 := ki; have q6 := kj; have q7 := kti; have q8 := kts; refine go ?_; (repeat' first | exact Ef.mk | apply Lf.mk | refine fun (K : KT) hK hE hT => ?_ | refine fun (KS : KE) hKS => ?_ | refine fun (D : KD) hD => ?_ | refine fun (hg : (_ : Prop)) => ?_ | fail); all_goals (first | (refine Wr.mk ?_; (try clear gx q1 q2 q3 q4 q5 q6 q7 q8); repeat first | clear hK hE hT K | clear hR hE hT K) | assumption | skip))
    refine ⟨B.length - 1, ⟨.i64, by rw [show ((B.length - 1 : Nat) : Int) = (B.length : Int) - 1 by omega]⟩, Nat.zero_le _, Nat.sub_le _ _, ?_⟩
    refine hKS _ _ _ _ ?_
    clear hKS; clear KS; simp only [EVB, seval]
    have tB : List.take B.length (List.map bytK B) = List.map bytK B := List.take_of_length_le (by rw [List.length_map]; exact Nat.le_refl _)
    (have gx := And.intro @List.length_map.{0,0} @tB; have q1 := kr2; have q2 := kr3; have q3 := ki; have q4 := kj; have q5 := kti; have q6 := kts; refine go ?_; (repeat' first | exact Ef.mk | apply Lf.mk | refine fun (K : KT) hK hE hT => ?_ | refine fun (KS : KE) hKS => ?_ | refine fun (D : KD) hD => ?_ | refine fun (hg : (_ : Prop)) => ?_ | fail); all_goals (first | (refine Wr.mk ?_; (try clear gx q1 q2 q3 q4 q5 q6); repeat first | clear hK hE hT K | clear hR hE hT K) | assumption | skip))
    refine loop_v (X := {k : Nat // k ≤ f.Shards.length}) [3, 4, 6, 8, 10, 36, 37, 38, 39, 40, 41, 42, 43, 44, 45, 46, 47, 48, 49, 50, 51, 52, 53, 54, 55, 56, 57, 58, 59, 60, 61, 62, 63, 64, 65, 66, 67, 68, 69, 70, 71, 72, 73, 74, 75, 76, 77, 78, 79, 80, 81, 82, 83, 84, 85, 86] (fun x => [(89, .c (.v (.int .i64 ((x.1 : Nat) : Int))))]) (fun x => [(0, some (.ro (b.map bytK))), (2, some (.ro (f.Shards.map (ShardD.k 108))))]) 3 (fun x => f.Shards.length - x.1) ⟨0, by omega⟩ ?_
    simp only [KPB, seval]
    refine ⟨?_, ?_⟩
    · (refine wk_a ?_; simp only [MAB, seval]; refine ⟨rfl, rfl, (by decide), ?_, ?_⟩; all_goals (first | (simp only [WKB, seval, true_and]; done) | (simp [WKB, seval, true_and]; done) | simp only [WKB, seval]))
    · rintro ⟨k, hk⟩ K hR hE hT
      rcases Nat.lt_or_ge k f.Shards.length with hlt | hge
      case inr =>
        obtain rfl : k = f.Shards.length := by omega
        (have gx := @List.length_map.{0,0}; have q1 := kmr; have q2 := kvo; have q3 := kvf; have q4 := kvr; have q5 := klb; have q6 := klr; have q7 := ks1; have q8 := ks2; have q9 := kd1; have q10 := kd2; refine go ?_; (repeat' first | exact Ef.mk | apply Lf.mk | refine fun (K : KT) hK hE hT => ?_ | refine fun (KS : KE) hKS => ?_ | refine fun (D : KD) hD => ?_ | refine fun (hg : (_ : Prop)) => ?_ | fail); all_goals (first | (refine Wr.mk ?_; (try clear gx q1 q2 q3 q4 q5 q6 q7 q8 q9 q10); repeat first | clear hK hE hT K | clear hR hE hT K) | assumption | skip))
        (refine post_a hres (.inl rfl) ?_; simp only [RSB, ENB, seval, tiAll, true_and]; simp only [MAB, seval]; refine ⟨rfl, rfl, ?_, ?_, ?_⟩ <;> (first | rfl | (simp [WKB, Nat.add_comm, true_and]; done) | (simp only [WKB, seval])))
      case inl =>
        have hs := hso k hlt
        obtain ⟨s, hsd⟩ : ∃ s, s = f.Shards[k] := ⟨_, rfl⟩
        rw [← hsd] at hs
        have hsl := shB_len hs
        have hh := hs.1
        unfold shHead at hh
        have cb := implShardBytes_k s hs
        have ct := implShardBytes_k (skS s) (sk_shOk hs)
        rw [shB_sk] at ct
        obtain ⟨p1, p2, p3⟩ := pk_shard hs
        have cr := implShardRead_k (9 :: shB s) 1 (by rw [List.length_cons]; omega) (by rw [List.length_cons]; omega)
        have e9 : List.map bytK (9 :: shB s) = [.v (.int .u8 9)] :: List.map bytK (shB s) := by simp [bytK]
        rw [p1, p2, p3, e9, List.length_cons, Nat.add_comm (shB s).length 1] at cr
        clear e9
        obtain ⟨t, ht⟩ : ∃ t, t = skS s := ⟨_, rfl⟩
        rw [← ht] at cr ct
        clear ht
        obtain ⟨Y, hY⟩ : ∃ Y, Y = shB s := ⟨_, rfl⟩
        rw [← hY] at cr ct cb hsl
        clear hY
        have tY : List.take Y.length (List.map bytK Y) = List.map bytK Y := List.take_of_length_le (by rw [List.length_map]; exact Nat.le_refl _)
        (have gx := And.intro (@List.length_map.{0,0}) (And.intro (@List.getElem_map.{0,0}) (And.intro ((hsd).symm) (And.intro @ShardD.k.eq_1 @tY))); have q1 := cb; have q2 := cr; have q3 := ct; refine go ?_; (repeat' first | exact Ef.mk | apply Lf.mk | refine fun (K : KT) hK hE hT => ?_ | refine fun (KS : KE) hKS => ?_ | refine fun (D : KD) hD => ?_ | refine fun (hg : (_ : Prop)) => ?_ | fail); all_goals (first | (refine Wr.mk ?_; (try clear gx q1 q2 q3); repeat first | clear hK hE hT K | clear hR hE hT K) | assumption | skip))
        (refine hR.out ⟨k + 1, by omega⟩ _ _ _ (by simp only; omega) ?_; (refine wk_a ?_; simp only [MAB, seval]; refine ⟨rfl, rfl, (by decide), ?_, ?_⟩; all_goals (first | (simp only [WKB, seval, true_and]; done) | (simp [WKB, seval, true_and]; done) | simp only [WKB, seval])))

end Go.Proofs.YtfdhdkljpeohlaaGreatDoor

