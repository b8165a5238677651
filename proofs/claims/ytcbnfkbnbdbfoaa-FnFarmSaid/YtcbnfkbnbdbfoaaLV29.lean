/-
  The law FnFarm returns true. No conditions of its own.
-/
import Derived.Test.YtcbnfkbnbdbfoaaGO
import Derived.Test.YtcbnfkbnbdbfoaaDF2
import Derived.Test.YtcbnfkbnbdbfoaaRS1
import Derived.Test.YtcbnfkbnbdbfoaaMQB
import Derived.Test.YtcbnfkbnbdbfoaaDQ2
import Derived.Test.YtcbnfkbnbdbfoaaSh
namespace Go.Proofs.Ytcbnfkbnbdbfoaa
set_option linter.unusedSimpArgs false
set_option linter.unusedVariables false
set_option linter.unusedSimpArgs false
set_option linter.unusedVariables false
set_option linter.defProp false
set_option maxRecDepth 20000
open Go.RowKit

def nvI (v : List Int) (i : Nat) : Int := (v.getD i 0 * 7 + (i : Int)) % 1000
def nvL (v : List Int) : List Int := (List.range v.length).map (nvI v)
def nvG (v : List Int) (i : Nat) : List DC := intK (nvI v i)
theorem nvL_len (v : List Int) : (nvL v).length = v.length := by simp [nvL]
theorem nvG_all (v : List Int) : (List.range v.length).map (nvG v) = (nvL v).map intK := by
  unfold nvL
  rw [List.map_map]; rfl
theorem nvL_ok (v : List Int) : (nvL v).all valOk = true := by
  rw [List.all_eq_true]
  intro x hx
  obtain ⟨i, _, rfl⟩ := List.mem_map.1 hx
  unfold valOk nvI
  have h1 := Int.emod_nonneg (v.getD i 0 * 7 + (i : Int)) (show (1000 : Int) ≠ 0 by decide)
  have h2 := Int.emod_lt_of_pos (v.getD i 0 * 7 + (i : Int)) (show (0 : Int) < 1000 by decide)
  simp only [Bool.and_eq_true, decide_eq_true_eq]
  omega

def AscI (L : List LocD) : Prop := ∀ i (h : i + 1 < L.length), (L[i]'(by omega)).Edge.Index < L[i + 1].Edge.Index


set_option maxHeartbeats 16000000 in
theorem FnFarm_k (b : List UInt8) (rb : b.length ≤ maxLen ∧ ∀ y ∈ b, (fun _ => True) y) : FnOK Try.prog 6 ⟨1, [(0, some (.ro (b.map bytK)))], [.c (.sl 0 1 0 b.length)], .c (.v (.bool true)), [], 1⟩ := by
  have q := rb.1
  simp only [maxLen] at q
  rcases Nat.lt_or_ge 1048576 b.length with h | h
  · have h0 := h
    refine fnOK_of true mixed Try.func6 rfl (by rfl) (by rfl) ?_
    have hres := congrArg Array.toList Try.results6
    simp only [Try.ntmps6, BGB, seval]
    (have gx := And.intro (@List.length_map.{0,0}) (And.intro @List.getElem_map.{0,0} @bytK.eq_1); refine go ?_; (repeat' (first | exact Ef.mk | refine Lf.mk ?_ ?_ | refine fun (K : KT) hK hE hT => ?_ | refine fun (KS : Eff → Prop) hKS => ?_ | refine fun (D : List Keys → Prop) hD => ?_ | refine fun (hg : (_ : Prop)) => ?_ | fail)); all_goals (first | (refine Wr.mk ?_; (try clear gx); repeat (first | (clear hK hE hT; clear K) | (clear hR hE hT; clear K))) | assumption | skip))
    (refine post_a hres (.inl rfl) ?_; simp only [RSB, ENB, seval, tiAll, true_and]; simp only [MAB, seval]; refine ⟨rfl, rfl, ?_, ?_, ?_⟩ <;> (first | rfl | (simp [WKB, Nat.add_comm, true_and]; done) | (simp only [WKB, seval])))
  · have km := makeFarm_k b h
    obtain ⟨hf, hfs⟩ := fdF_ok b (newC b)
    obtain ⟨f, hfe⟩ : ∃ f, f = fdF b (newC b) := ⟨_, rfl⟩
    rw [← hfe] at km hf hfs
    clear hfe
    have fL := farm_L hf
    have kv := specFarmVals_k f fL
    have lv := fv_len hf
    have rv := fv_rng hf
    have hnw : FwOk f (nvL (fvL f)) := ⟨hf, by rw [nvL_len, lv], nvL_ok _⟩
    have kw := implFarmWith_k f (nvL (fvL f)) fL (by rw [nvL_len]; omega) (by omega)
    obtain ⟨w1, w2, w3, w4, w5⟩ := fw_farm hnw
    rw [(fw_yes hnw).2] at kw
    have xL := farm_L w1
    have lN := nvL_len (fvL f)
    have hGa := nvG_all (fvL f)
    have hGi : ∀ i, nvG (fvL f) i = [.v (.int .i64 (((fvL f).getD i 0 * 7 + (i : Int)) % 1000))] := fun i => rfl
    obtain ⟨X, hX⟩ : ∃ X, X = fwR f (nvL (fvL f)) := ⟨_, rfl⟩
    rw [← hX] at kw w1 w2 w3 w4 w5 xL
    clear hX hnw
    obtain ⟨N, hN⟩ : ∃ N, N = nvL (fvL f) := ⟨_, rfl⟩
    rw [← hN] at kw lN w5 hGa
    obtain ⟨V, hV⟩ : ∃ V, V = fvL f := ⟨_, rfl⟩
    rw [← hV] at kv lv rv lN hGa hGi
    clear hN hV
    have kx := implFarmVals_k X xL
    rw [w5] at kx
    have ks := sameInts_k N (by omega)
    have ko := implFarmOk_k X xL
    rw [pB_t w1] at ko
    have kr := implResidents_k X xL
    rw [res_yes w1, resTo_len] at kr
    have hld := fun (p : Nat) (hp : p < X.Ends.length) => implLoad_k X (p : Int) xL
    have hse : X.Ends.length = X.Shards.length := (gf_ok w1).e
    have hxl : X.Ends.length ≤ 150 := by have := (gf_ok w1).l; omega
    have hel : f.Ends.length = X.Ends.length := by rw [w3]
    obtain ⟨f0, f1, f2⟩ := fL
    obtain ⟨x0, x1, x2⟩ := xL
    rw [lN] at kw
    refine fnOK_of true mixed Try.func6 rfl (by rfl) (by rfl) ?_
    have hres := congrArg Array.toList Try.results6
    simp only [Try.ntmps6, BGB, seval]
    (have gx := And.intro (@List.length_map.{0,0}) (And.intro @List.getElem_map.{0,0} @bytK.eq_1); have q1 := km; have q2 := kv; refine go ?_; (repeat' (first | exact Ef.mk | refine Lf.mk ?_ ?_ | refine fun (K : KT) hK hE hT => ?_ | refine fun (KS : Eff → Prop) hKS => ?_ | refine fun (D : List Keys → Prop) hD => ?_ | refine fun (hg : (_ : Prop)) => ?_ | fail)); all_goals (first | (refine Wr.mk ?_; (try clear gx); (try clear q1 q2); repeat (first | (clear hK hE hT; clear K) | (clear hR hE hT; clear K))) | assumption | skip))
    refine loop_v (X := {k : Nat // k ≤ V.length}) [] (fun x => [(23, .c (.v (.int .i64 ((x.1 : Nat) : Int))))]) (fun x => [(0, some (.ro (b.map bytK))), (1, some (.row 3 (f.Ends.map intK))), (2, some (.nst 77 (f.Shards.map (ShardD.k 64)) none)), (3, some (.box 34 [.v (.int .i64 f.N), .sl 1 1 0 (f.Ends).length, .sl 2 3 0 (f.Shards).length])), (4, some (.row 3 (setTo (nvG V) intK V x.1)))]) 5 (fun x => V.length - x.1) ⟨0, by omega⟩ ?_
    simp only [KPB, seval]
    refine ⟨?_, ?_⟩
    · (refine wk_a ?_; simp only [MAB, seval]; refine ⟨rfl, rfl, (by decide), ?_, ?_⟩; all_goals (first | (simp only [WKB, seval, setTo_zero, Nat.reduceLT, Nat.zero_lt_succ]; done) | (simp [WKB, seval, setTo_zero]; done) | simp only [WKB, seval]))
    · rintro ⟨k, hk⟩ K hR hE hT
      have sl := setTo_len (nvG V) intK V k hk
      rcases Nat.lt_or_ge k V.length with hlt | hge
      case inl =>
        have sg := setTo_get (nvG V) intK V k hlt (by omega)
        have e := setTo_set (nvG V) intK V k hlt
        have hv := rv _ (List.getElem_mem hlt)
        have hg := hGi k
        rw [List.getD_eq_getElem?_getD, List.getElem?_eq_getElem hlt, Option.getD_some] at hg
        rw [hg] at e
        obtain ⟨z, hz⟩ : ∃ z, z = V[k] := ⟨_, rfl⟩
        rw [← hz] at sg e hv
        (have gx := And.intro (@List.length_map.{0,0}) (And.intro (@sl) (And.intro @sg @intK.eq_1)); refine go ?_; (repeat' (first | exact Ef.mk | refine Lf.mk ?_ ?_ | refine fun (K : KT) hK hE hT => ?_ | refine fun (KS : Eff → Prop) hKS => ?_ | refine fun (D : List Keys → Prop) hD => ?_ | refine fun (hg : (_ : Prop)) => ?_ | fail)); all_goals (first | (refine Wr.mk ?_; (try clear gx); repeat (first | (clear hK hE hT; clear K) | (clear hR hE hT; clear K))) | assumption | skip))
        (refine hR.out ⟨k + 1, by omega⟩ _ _ _ (by simp only; omega) ?_; (refine wk_a ?_; simp only [MAB, seval]; refine ⟨rfl, rfl, (by decide), ?_, ?_⟩; all_goals (first | (simp only [WKB, seval, e, Nat.reduceLT, Nat.zero_lt_succ]; done) | (simp [WKB, seval, e]; done) | simp only [WKB, seval])))
      case inr =>
        obtain rfl : k = V.length := by omega
        have e2 := setTo_end (nvG V) intK V
        rw [hGa] at e2
        rw [e2]
        (have gx := And.intro @List.length_map.{0,0} @lN; have q1 := kw; have q2 := kx; have q3 := ks; have q4 := ko; refine go ?_; (repeat' (first | exact Ef.mk | refine Lf.mk ?_ ?_ | refine fun (K : KT) hK hE hT => ?_ | refine fun (KS : Eff → Prop) hKS => ?_ | refine fun (D : List Keys → Prop) hD => ?_ | refine fun (hg : (_ : Prop)) => ?_ | fail)); all_goals (first | (refine Wr.mk ?_; (try clear gx); (try clear q1 q2 q3 q4); repeat (first | (clear hK hE hT; clear K) | (clear hR hE hT; clear K))) | assumption | skip))
        refine loop_v (X := {p : Nat // p ≤ f.Ends.length}) [48] (fun x => [(61, .c (.v (.int .i64 ((x.1 : Nat) : Int))))]) (fun x => [(0, some (.ro (b.map bytK))), (1, some (.row 3 (f.Ends.map intK))), (2, some (.nst 77 (f.Shards.map (ShardD.k 64)) none)), (3, some (.box 34 [.v (.int .i64 f.N), .sl 1 1 0 (f.Ends).length, .sl 2 3 0 (f.Shards).length])), (4, some (.row 3 (N.map intK))), (5, some (.row 3 (X.Ends.map intK))), (6, some (.nst 77 (X.Shards.map (ShardD.k 64)) none)), (7, some (.box 34 [.v (.int .i64 X.N), .sl 5 1 0 (X.Ends).length, .sl 6 3 0 (X.Shards).length]))]) 8 (fun x => f.Ends.length - x.1) ⟨0, by omega⟩ ?_
        simp only [KPB, seval]
        refine ⟨?_, ?_⟩
        · (refine wk_a ?_; simp only [MAB, seval]; refine ⟨rfl, rfl, (by decide), ?_, ?_⟩; all_goals (first | (simp only [WKB, seval, true_and, Nat.reduceLT, Nat.zero_lt_succ]; done) | (simp [WKB, seval, true_and]; done) | simp only [WKB, seval]))
        · rintro ⟨p, hp⟩ K hR2 hE hT
          rcases Nat.lt_or_ge p f.Ends.length with hpl | hpg
          case inr =>
            obtain rfl : p = f.Ends.length := by omega
            (have gx := And.intro @List.length_map.{0,0} @hel; have q1 := kr; refine go ?_; (repeat' (first | exact Ef.mk | refine Lf.mk ?_ ?_ | refine fun (K : KT) hK hE hT => ?_ | refine fun (KS : Eff → Prop) hKS => ?_ | refine fun (D : List Keys → Prop) hD => ?_ | refine fun (hg : (_ : Prop)) => ?_ | fail)); all_goals (first | (refine Wr.mk ?_; (try clear gx); (try clear q1); repeat (first | (clear hK hE hT; clear K) | (clear hR hE hT; clear K))) | assumption | skip))
            (refine post_a hres (.inl rfl) ?_; simp only [RSB, ENB, seval, tiAll, hel]; simp only [MAB, seval]; refine ⟨rfl, rfl, ?_, ?_, ?_⟩ <;> (first | rfl | (simp [WKB, Nat.add_comm, hel]; done) | (simp only [WKB, seval])))
          case inl =>
            have hpx : p < X.Ends.length := by omega
            have kl := implLoad_k X (p : Int) ⟨x0, x1, x2⟩
            obtain ⟨s1, s2⟩ := sub_yes w1 hpx
            have hlh := farm_lh w1 hpx
            rw [s1, s2] at kl
            obtain ⟨b1, b2⟩ := sub_back w1 (p := p) hlh
            have hsl := sub_locs w1 p hlh
            have kp := implPut_k X (p : Int) (lastE X.Ends p) (X.Ends[p]) ((rdTo X.Shards p (lastE X.Ends p) (X.Ends[p]) X.Shards.length : Nat) : Int) (subO X p (lastE X.Ends p) (X.Ends[p])).Locs ⟨x0, x1, x2⟩ (by omega)
            rw [b2, (pu_yes b1).2] at kp
            have hrd := rdTo_bnd X.Shards p (lastE X.Ends p) (X.Ends[p]) X.Shards.length
            rw [if_pos (by omega)] at hrd
            have hasc : AscI (subO X p (lastE X.Ends p) (X.Ends[p])).Locs := fun i hi => sub_asc w1 hlh hi
            have eS : subO X p (lastE X.Ends p) (X.Ends[p]) = ⟨(p : Int), lastE X.Ends p, X.Ends[p], (subO X p (lastE X.Ends p) (X.Ends[p])).Locs, ((rdTo X.Shards p (lastE X.Ends p) (X.Ends[p]) X.Shards.length : Nat) : Int)⟩ := rfl
            rw [eS] at kl
            dsimp only at kl
            obtain ⟨L, hL⟩ : ∃ L, L = (subO X p (lastE X.Ends p) (X.Ends[p])).Locs := ⟨_, rfl⟩
            obtain ⟨R, hRd⟩ : ∃ R, R = rdTo X.Shards p (lastE X.Ends p) (X.Ends[p]) X.Shards.length := ⟨_, rfl⟩
            simp only [← hL, ← hRd] at kl kp hsl hrd hasc
            clear eS s1 s2 b1 b2 hL hRd
            obtain ⟨lo, hlo⟩ : ∃ z, z = lastE X.Ends p := ⟨_, rfl⟩
            obtain ⟨hi, hhi⟩ : ∃ z, z = X.Ends[p] := ⟨_, rfl⟩
            rw [← hlo, ← hhi] at kl kp
            clear hlo hhi hlh
            (have gx := And.intro (@List.length_map.{0,0}) (And.intro @hel @lN); have q1 := kl; have q2 := kp; have q3 := kx; have q4 := ks; refine go ?_; (repeat' (first | exact Ef.mk | refine Lf.mk ?_ ?_ | refine fun (K : KT) hK hE hT => ?_ | refine fun (KS : Eff → Prop) hKS => ?_ | refine fun (D : List Keys → Prop) hD => ?_ | refine fun (hg : (_ : Prop)) => ?_ | fail)); all_goals (first | (refine Wr.mk ?_; (try clear gx); (try clear q1 q2 q3 q4); repeat (first | (clear hK hE hT; clear K) | (clear hR hE hT; clear K))) | assumption | skip))
            all_goals first | (exfalso; omega) | skip
            refine loop_v (X := {i : Nat // 1 ≤ i}) [11, 70, 73, 74, 83, 84] (fun x => [(13, .c (.v (.int .i64 ((x.1 : Nat) : Int))))]) (fun x => [(0, some (.ro (b.map bytK))), (1, some (.row 3 (f.Ends.map intK))), (2, some (.nst 77 (f.Shards.map (ShardD.k 64)) none)), (3, some (.box 34 [.v (.int .i64 f.N), .sl 1 1 0 (f.Ends).length, .sl 2 3 0 (f.Shards).length])), (4, some (.row 3 (N.map intK))), (5, some (.row 3 (X.Ends.map intK))), (6, some (.nst 77 (X.Shards.map (ShardD.k 64)) none)), (7, some (.box 34 [.v (.int .i64 X.N), .sl 5 1 0 (X.Ends).length, .sl 6 3 0 (X.Shards).length])), (8, some (.row 66 (L.map LocD.k))), (9, some (.box 29 [.v (.int .i64 (p : Int)), .v (.int .i64 lo), .v (.int .i64 hi), .sl 8 7 0 L.length, .v (.int .i64 (R : Int))]))]) 10 (fun x => L.length - x.1) ⟨1, by omega⟩ ?_
            simp only [KPB, seval]
            refine ⟨?_, ?_⟩
            · (refine wk_a ?_; simp only [MAB, seval]; refine ⟨rfl, rfl, (by decide), ?_, ?_⟩; all_goals (first | (simp only [WKB, seval, true_and, Nat.reduceLT, Nat.zero_lt_succ]; done) | (simp [WKB, seval, true_and]; done) | simp only [WKB, seval]))
            · rintro ⟨i, hi1⟩ K hR3 hE hT
              rcases Nat.lt_or_ge i L.length with hil | hig
              case inr =>
                (have gx := @List.length_map.{0,0}; refine go ?_; (repeat' (first | exact Ef.mk | refine Lf.mk ?_ ?_ | refine fun (K : KT) hK hE hT => ?_ | refine fun (KS : Eff → Prop) hKS => ?_ | refine fun (D : List Keys → Prop) hD => ?_ | refine fun (hg : (_ : Prop)) => ?_ | fail)); all_goals (first | (refine Wr.mk ?_; (try clear gx); repeat (first | (clear hK hE hT; clear K) | (clear hR hE hT; clear K))) | assumption | skip))
                refine hR2.out ⟨p + 1, by omega⟩ _ _ _ (by simp only; omega) ?_
                (refine wk_a ?_; simp only [MAB, seval]; refine ⟨rfl, rfl, (by decide), ?_, ?_⟩; all_goals (first | (simp only [WKB, seval, true_and, Nat.reduceLT, Nat.zero_lt_succ]; done) | (simp [WKB, seval, true_and]; done) | simp only [WKB, seval]))
              case inl =>
                obtain ⟨j, rfl⟩ : ∃ j, i = j + 1 := ⟨i - 1, by omega⟩
                have ha := hasc j hil
                have e1 : ((j + 1 : Nat) : Int) - 1 = (j : Int) := by omega
                obtain ⟨u, hu⟩ : ∃ u, u = L[j]'(by omega) := ⟨_, rfl⟩
                obtain ⟨v, hv⟩ : ∃ v, v = L[j + 1] := ⟨_, rfl⟩
                rw [← hu, ← hv] at ha
                (have gx := And.intro (@List.length_map.{0,0}) (And.intro (@List.getElem_map.{0,0}) (And.intro (@LocD.k.eq_1) (And.intro (@e1) (And.intro (hu).symm (hv).symm)))); refine go ?_; (repeat' (first | exact Ef.mk | refine Lf.mk ?_ ?_ | refine fun (K : KT) hK hE hT => ?_ | refine fun (KS : Eff → Prop) hKS => ?_ | refine fun (D : List Keys → Prop) hD => ?_ | refine fun (hg : (_ : Prop)) => ?_ | fail)); all_goals (first | (refine Wr.mk ?_; (try clear gx); repeat (first | (clear hK hE hT; clear K) | (clear hR hE hT; clear K))) | assumption | skip))
                refine hR3.out ⟨j + 1 + 1, by omega⟩ _ _ _ (by simp only; omega) ?_
                (refine wk_a ?_; simp only [MAB, seval]; refine ⟨rfl, rfl, (by decide), ?_, ?_⟩; all_goals (first | (simp only [WKB, seval, true_and, Nat.reduceLT, Nat.zero_lt_succ]; done) | (simp [WKB, seval, true_and]; done) | simp only [WKB, seval]))

end Go.Proofs.Ytcbnfkbnbdbfoaa
