/-
  Contract: an iteration by sliding windows, by the program. No conditions of its own.
-/
import Derived.Test.YtfdhdkljpeohlaaGreatGO
import Derived.Test.YtfdhdkljpeohlaaGreatFI2
import Derived.Test.YtfdhdkljpeohlaaGreatLD2
import Derived.Test.YtfdhdkljpeohlaaGreatMQB
namespace Go.Proofs.YtfdhdkljpeohlaaGreat
set_option linter.unusedSimpArgs false
set_option linter.unusedVariables false
set_option linter.unusedSimpArgs false
set_option linter.unusedVariables false
set_option linter.defProp false
set_option maxRecDepth 20000
open Go.RowKit
attribute [local irreducible] lexD


set_option maxHeartbeats 16000000 in
theorem implFIter_k (f : FRunD) (hf : (f.Vals).length ≤ 1048576 ∧ (f.Next.Bits).length ≤ 1048576 ∧ (f.Farm.Ends).length ≤ 1048576 ∧ (f.Farm.Shards).length ≤ 1048576 ∧ (∀ s ∈ f.Farm.Shards, s.Edges.length ≤ 1048576)) : FnOK Tryz.prog 6 ⟨4, [(0, some (.ro ((f.Vals).map intK))), (1, some (.ro ((f.Next.Bits).map bytK))), (2, some (.ro ((f.Farm.Ends).map intK))), (3, some (.ro ((f.Farm.Shards).map (ShardD.k 112))))], [.agg [.v (.int .i64 f.Job.Prog), .v (.int .i64 f.Job.Src), .v (.int .i64 f.Iter), .v (.bool f.Done), .sl 0 1 0 (f.Vals).length, .v (.int .i64 f.Next.N), .sl 1 1 0 (f.Next.Bits).length, .v (.int .i64 f.Farm.N), .sl 2 1 0 (f.Farm.Ends).length, .sl 3 3 0 (f.Farm.Shards).length]],
    .tup [.inr [.v (.int .i64 (fiR f).Job.Prog), .v (.int .i64 (fiR f).Job.Src), .v (.int .i64 (fiR f).Iter), .v (.bool (fiR f).Done), .sl 4 1 0 ((fiR f).Vals).length, .v (.int .i64 (fiR f).Next.N), .sl 5 1 0 ((fiR f).Next.Bits).length, .v (.int .i64 (fiR f).Farm.N), .sl 6 1 0 ((fiR f).Farm.Ends).length, .sl 7 3 0 ((fiR f).Farm.Shards).length], .inr [.v (.int .i64 (fiS f).1), .v (.int .i64 (fiS f).2.1), .v (.int .i64 (fiS f).2.2)], .inl (.v (.bool (pB (fiOk f))))], [(4, some (.row 3 (((fiR f).Vals).map intK))), (5, some (.row 5 (((fiR f).Next.Bits).map bytK))), (6, some (.row 3 (((fiR f).Farm.Ends).map intK))), (7, some (.nst 109 (((fiR f).Farm.Shards).map (ShardD.k 112)) none))], 8⟩ := by
  have c1 := implFRunOk_k f hf
  by_cases ho : fiOk f
  case neg =>
    obtain ⟨e1, e2⟩ := fi_no ho
    rw [e1, e2, pB_f ho]
    dsimp only
    obtain ⟨b1, h1⟩ : ∃ b, b = pB (FrOk f) := ⟨_, rfl⟩
    have hno : b1 = true → f.Done = false → f.Iter < 1000 → False := fun q1 q2 q3 => ho ⟨pB_i (by rw [← h1]; exact q1), q2, q3⟩
    rw [← h1] at c1
    clear h1 e1 e2 ho
    obtain ⟨f0, f1, f2, f3, f4⟩ := hf
    refine fnOK_of true mixed Tryz.func6 rfl (by rfl) (by rfl) ?_
    have hres := congrArg Array.toList Tryz.results6
    simp only [Tryz.ntmps6, BGB, seval]
    (have gx := @List.length_map.{0,0}; have q1 := c1; refine go ?_; (repeat' first | exact Ef.mk | apply Lf.mk | refine fun (K : KT) hK hE hT => ?_ | refine fun (KS : KE) hKS => ?_ | refine fun (D : KD) hD => ?_ | refine fun (hg : (_ : Prop)) => ?_ | fail); all_goals (first | (refine Wr.mk ?_; (try clear gx q1); repeat first | clear hK hE hT K | clear hR hE hT K) | assumption | skip))
    all_goals first
      | (exfalso; exact hno (by assumption) (by assumption) (by omega))
      | (refine post_a hres (.inl rfl) ?_; simp only [RSB, ENB, seval, tiAll, true_and]; simp only [MAB, seval]; refine ⟨rfl, rfl, ?_, ?_, ?_⟩ <;> (first | rfl | (simp [WKB, Nat.add_comm, true_and]; done) | (simp only [WKB, seval])))
  case pos =>
    obtain ⟨e1, e2⟩ := fi_yes ho
    rw [e1, e2, pB_t ho]
    obtain ⟨p1, p2, p3⟩ := ho
    rw [pB_t p1] at c1
    have hin := fr_in p1
    have hn := (gf_ok hin.fo).n
    have hou := ouTo_ok hin
    have e0 : ouTo (ou0 f) 0 = ou0 f := rfl
    have es : ∀ p, ouTo (ou0 f) (p + 1) = ouStep (ouTo (ou0 f) p) p := fun _ => rfl
    have eo : fiO f = ⟨f.Job, f.Iter + 1, emptyL (fiE f).r.Next.Bits, (fiE f).r.Vals, (fiE f).r.Next, (fiE f).r.Farm⟩ := rfl
    have ee : fiE f = ouTo (ou0 f) f.Farm.Ends.length := rfl
    rw [eo, ee]
    dsimp only
    clear eo ee e1 e2
    have hel : f.Farm.Ends.length ≤ 150 := by have := (gf_ok hin.fo).l; have := (gf_ok hin.fo).e; omega
    have hit := hin.it
    obtain ⟨N, hN⟩ := Int.eq_ofNat_of_zero_le hn.1
    have ce := emptySet_k N (by omega)
    have hz1 : (ou0 f).r = ⟨f.Job, f.Iter, f.Done, f.Vals, ⟨f.Farm.N, fullTo N 0⟩, f.Farm⟩ := by unfold ou0; rw [hN, Int.toNat_natCast]
    have hz2 : (ou0 f).nw = f.Next.Bits ∧ (ou0 f).ld = 0 ∧ (ou0 f).rd = 0 ∧ (ou0 f).mo = 0 := ⟨rfl, rfl, rfl, rfl⟩
    have hfl := fullTo_len N 0
    have hfm := fullTo_map N
    have cc := copyFRun_k f hf
    have hsn := hin.sn
    obtain ⟨f0, f1, f2, f3, f4⟩ := hf
    obtain ⟨G, hG⟩ : ∃ G : Nat → OuS, G = ouTo (ou0 f) := ⟨_, rfl⟩
    simp only [← hG] at hou e0 es ⊢
    rw [← hN] at ce
    clear hG
    refine fnOK_of true mixed Tryz.func6 rfl (by rfl) (by rfl) ?_
    have hres := congrArg Array.toList Tryz.results6
    simp only [Tryz.ntmps6, BGB, seval]
    (have gx := And.intro @List.length_map.{0,0} @p2; have q1 := c1; have q2 := cc; have q3 := ce; refine go ?_; (repeat' first | exact Ef.mk | apply Lf.mk | refine fun (K : KT) hK hE hT => ?_ | refine fun (KS : KE) hKS => ?_ | refine fun (D : KD) hD => ?_ | refine fun (hg : (_ : Prop)) => ?_ | fail); all_goals (first | (refine Wr.mk ?_; (try clear gx q1 q2 q3); repeat first | clear hK hE hT K | clear hR hE hT K) | assumption | skip))
    all_goals first | (exfalso; omega) | skip
    refine loop_v (X := {k : Nat // k ≤ f.Farm.Ends.length}) [30, 40] (fun x => [(42, .c (.v (.int .i64 ((x.1 : Nat) : Int))))]) (fun x => [(0, some (.ro ((f.Vals).map intK))), (1, some (.ro ((f.Next.Bits).map bytK))), (2, some (.ro ((f.Farm.Ends).map intK))), (3, some (.ro ((f.Farm.Shards).map (ShardD.k 112)))), (4, some (.box 32 [.v (.int .i64 f.Job.Prog), .v (.int .i64 f.Job.Src), .v (.int .i64 f.Iter), .v (.bool f.Done), .sl 0 1 0 (f.Vals).length, .v (.int .i64 f.Next.N), .sl 1 1 0 (f.Next.Bits).length, .v (.int .i64 f.Farm.N), .sl 2 1 0 (f.Farm.Ends).length, .sl 3 3 0 (f.Farm.Shards).length])), (5, some (.box 32 [.v (.int .i64 0), .v (.int .i64 0), .v (.int .i64 0), .v (.bool false), .nil, .v (.int .i64 0), .nil, .v (.int .i64 0), .nil, .nil])), (6, some (.box 35 [.v (.int .i64 0), .v (.int .i64 0), .v (.int .i64 0)])), (11, some (.box 32 [.v (.int .i64 (G x.1).r.Job.Prog), .v (.int .i64 (G x.1).r.Job.Src), .v (.int .i64 (G x.1).r.Iter), .v (.bool (G x.1).r.Done), .sl 7 1 0 (G x.1).r.Vals.length, .v (.int .i64 (G x.1).r.Next.N), .sl 13 1 0 (G x.1).r.Next.Bits.length, .v (.int .i64 (G x.1).r.Farm.N), .sl 9 1 0 (G x.1).r.Farm.Ends.length, .sl 10 3 0 (G x.1).r.Farm.Shards.length])), (12, some (.box 27 [.v (.int .i64 f.Farm.N), .sl 8 1 0 (G x.1).nw.length])), (14, some (.box 35 [.v (.int .i64 (G x.1).ld), .v (.int .i64 (G x.1).rd), .v (.int .i64 (G x.1).mo)])), (7, some (.row 3 ((G x.1).r.Vals.map intK))), (8, some (.row 5 ((G x.1).nw.map bytK))), (9, some (.row 3 ((G x.1).r.Farm.Ends.map intK))), (10, some (.nst 109 ((G x.1).r.Farm.Shards.map (ShardD.k 112)) none)), (13, some (.row 5 ((G x.1).r.Next.Bits.map bytK)))]) 15 (fun x => f.Farm.Ends.length - x.1) ⟨0, by omega⟩ ?_
    simp only [KPB, seval]
    refine ⟨?_, ?_⟩
    · (refine wk_a ?_; simp only [MAB, seval]; refine ⟨rfl, rfl, (by decide), ?_, ?_⟩; all_goals (first | (simp only [WKB, seval, e0, hz1, hz2, hfl, hfm, hsn, p2]; done) | (simp [WKB, seval, e0, hz1, hz2, hfl, hfm, hsn, p2]; done) | simp only [WKB, seval]))
    · rintro ⟨k, hk⟩ K hR hE hT
      have ok := hou k hk
      have est := es k
      obtain ⟨s, hs⟩ : ∃ s, s = G k := ⟨_, rfl⟩
      rw [← hs] at ok est
      simp only [← hs]
      have okf := ok.fi
      obtain ⟨j1, j2, j3⟩ := ok.jo
      obtain ⟨fe1, fe2⟩ := ok.fe
      have nr := ok.nr
      have hsN : s.r.Next.N = f.Farm.N := by rw [okf.sn, fe2]
      have sfl := farm_L okf.fo
      have vl := okf.vl
      have so := (setOk_len okf.so).2.2
      have wl := (setOk_len ok.wo).2.2
      rcases Nat.lt_or_ge k f.Farm.Ends.length with hlt | hge
      case inr =>
        obtain rfl : k = f.Farm.Ends.length := by omega
        have ci := implisEmpty_k s.r.Next.N s.r.Next.Bits (by omega)
        (have gx := @List.length_map.{0,0}; have q1 := ci; refine go ?_; (repeat' first | exact Ef.mk | apply Lf.mk | refine fun (K : KT) hK hE hT => ?_ | refine fun (KS : KE) hKS => ?_ | refine fun (D : KD) hD => ?_ | refine fun (hg : (_ : Prop)) => ?_ | fail); all_goals (first | (refine Wr.mk ?_; (try clear gx q1); repeat first | clear hK hE hT K | clear hR hE hT K) | assumption | skip))
        (refine post_a hres (.inl rfl) ?_; simp only [RSB, ENB, seval, tiAll, ← hs, j1, j2]; simp only [MAB, seval]; refine ⟨rfl, rfl, ?_, ?_, ?_⟩ <;> (first | rfl | (simp [WKB, Nat.add_comm, ← hs, j1, j2]; done) | (simp only [WKB, seval])))
      case inl =>
        have hp2 : k < s.r.Farm.Ends.length := by rw [fe1]; exact hlt
        obtain ⟨l1, l2, l3⟩ := ou_lo ok hp2
        have hsi := sub_in okf.fo hp2
        have cs := implSpan_k s.r.Farm.Ends k sfl.1 hp2
        have cl := load_k s.r.Farm k _ _ sfl okf.fo hp2 rfl (lastE_succ hp2).symm
        rw [← lastE_succ hp2, l1, l2] at cs
        have ha : ouAny s k = anyIn s.nw (ouLo s.r.Farm k) (ouN s.r.Farm k) := rfl
        have hQ0 : ouIn s k 0 = (rOf s.r (ouSub s.r.Farm k).Locs, s.nw) := rfl
        have hQs : ∀ i, ouIn s k (i + 1) = inStep (ouG s k) (ouIn s k i) (ouLo s.r.Farm k + i) := fun _ => rfl
        have hQo := fun i (hi : i ≤ ouN s.r.Farm k) => ou_in ok hp2 hi
        have hQe := fun i (hi : i ≤ ouN s.r.Farm k) => ou_ev ok hp2 hi
        have hQj : ∀ i, (ouIn s k i).1.Job = s.r.Job ∧ (ouIn s k i).1.Iter = s.r.Iter ∧ (ouIn s k i).1.Done = s.r.Done ∧ _ := inTo_job (ouG s k) (rOf s.r (ouSub s.r.Farm k).Locs, s.nw) (ouLo s.r.Farm k)
        have hpu := ou_put ok hp2 (Nat.le_refl _)
        have hdo : ouDo s k = ⟨⟨s.r.Job, s.r.Iter, s.r.Done, (ouIn s k (ouN s.r.Farm k)).1.Vals, (ouIn s k (ouN s.r.Farm k)).1.Next, puR s.r.Farm (setEv (ouSub s.r.Farm k).Locs (ouIn s k (ouN s.r.Farm k)).1.EVals)⟩, (ouIn s k (ouN s.r.Farm k)).2, s.ld + 1, s.rd + (ouSub s.r.Farm k).Reads, max s.mo ((ouSub s.r.Farm k).Locs.length : Int)⟩ := rfl
        have hG0 : ouG s k = gOf s.r.Farm.N (ouSub s.r.Farm k).Locs := rfl
        have hBr := hsi.rd
        have hBl := hsi.ll
        have eB : subO s.r.Farm k (lastE s.r.Farm.Ends k) (lastE s.r.Farm.Ends (k + 1)) = ouSub s.r.Farm k := rfl
        rw [eB] at cl
        obtain ⟨lo, hlo⟩ : ∃ x, x = ouLo s.r.Farm k := ⟨_, rfl⟩
        obtain ⟨n, hnn⟩ : ∃ x, x = ouN s.r.Farm k := ⟨_, rfl⟩
        obtain ⟨B, hB⟩ : ∃ x, x = ouSub s.r.Farm k := ⟨_, rfl⟩
        obtain ⟨G0, hG0d⟩ : ∃ x, x = ouG s k := ⟨_, rfl⟩
        obtain ⟨Q, hQ⟩ : ∃ Q : Nat → RunD × List UInt8, Q = ouIn s k := ⟨_, rfl⟩
        obtain ⟨D, hD⟩ : ∃ x, x = ouDo s k := ⟨_, rfl⟩
        simp only [← hlo, ← hnn, ← hB, ← hG0d, ← hQ, ← hD] at l3 cs cl ha hQ0 hQs hQo hQe hQj hpu hdo hG0 hBr hBl
        clear hlo hnn hB hG0d hQ eB l1 l2 hsi
        have hmx : IntKind.i64.wrap (max s.mo (B.Locs.length : Int)) = max s.mo (B.Locs.length : Int) := IntWalk.i64_in _ (by omega)
        (have gx := @List.length_map.{0,0}; have q1 := cs; refine go ?_; (repeat' first | exact Ef.mk | apply Lf.mk | refine fun (K : KT) hK hE hT => ?_ | refine fun (KS : KE) hKS => ?_ | refine fun (D : KD) hD => ?_ | refine fun (hg : (_ : Prop)) => ?_ | fail); all_goals (first | (refine Wr.mk ?_; (try clear gx q1); repeat first | clear hK hE hT K | clear hR hE hT K) | assumption | skip))
        refine loop_v (X := {i : Nat // i ≤ n}) [] (fun x => [(11, .c (.v (.bool (anyIn s.nw lo x.1)))), (12, .c (.v (.int .i64 ((lo + x.1 : Nat) : Int))))]) (fun x => [(0, some (.ro ((f.Vals).map intK))), (1, some (.ro ((f.Next.Bits).map bytK))), (2, some (.ro ((f.Farm.Ends).map intK))), (3, some (.ro ((f.Farm.Shards).map (ShardD.k 112)))), (4, some (.box 32 [.v (.int .i64 f.Job.Prog), .v (.int .i64 f.Job.Src), .v (.int .i64 f.Iter), .v (.bool f.Done), .sl 0 1 0 (f.Vals).length, .v (.int .i64 f.Next.N), .sl 1 1 0 (f.Next.Bits).length, .v (.int .i64 f.Farm.N), .sl 2 1 0 (f.Farm.Ends).length, .sl 3 3 0 (f.Farm.Shards).length])), (5, some (.box 32 [.v (.int .i64 0), .v (.int .i64 0), .v (.int .i64 0), .v (.bool false), .nil, .v (.int .i64 0), .nil, .v (.int .i64 0), .nil, .nil])), (6, some (.box 35 [.v (.int .i64 0), .v (.int .i64 0), .v (.int .i64 0)])), (11, some (.box 32 [.v (.int .i64 s.r.Job.Prog), .v (.int .i64 s.r.Job.Src), .v (.int .i64 s.r.Iter), .v (.bool s.r.Done), .sl 7 1 0 s.r.Vals.length, .v (.int .i64 s.r.Next.N), .sl 13 1 0 s.r.Next.Bits.length, .v (.int .i64 s.r.Farm.N), .sl 9 1 0 s.r.Farm.Ends.length, .sl 10 3 0 s.r.Farm.Shards.length])), (12, some (.box 27 [.v (.int .i64 f.Farm.N), .sl 8 1 0 s.nw.length])), (14, some (.box 35 [.v (.int .i64 s.ld), .v (.int .i64 s.rd), .v (.int .i64 s.mo)])), (7, some (.row 3 (s.r.Vals.map intK))), (8, some (.row 5 (s.nw.map bytK))), (9, some (.row 3 (s.r.Farm.Ends.map intK))), (10, some (.nst 109 (s.r.Farm.Shards.map (ShardD.k 112)) none)), (13, some (.row 5 (s.r.Next.Bits.map bytK)))]) 15 (fun x => n - x.1) ⟨0, by omega⟩ ?_
        simp only [KPB, seval]
        refine ⟨?_, ?_⟩
        · (refine wk_a ?_; simp only [MAB, seval]; refine ⟨rfl, rfl, (by decide), ?_, ?_⟩; all_goals (first | (simp only [WKB, seval, anyIn_zero, Nat.add_zero]; done) | (simp [WKB, seval, anyIn_zero, Nat.add_zero]; done) | simp only [WKB, seval]))
        · rintro ⟨i, hi⟩ K hR2 hE hT
          rcases Nat.lt_or_ge i n with hil | hig
          case inl =>
            have ch := implhas_k f.Farm.N s.nw (lo + i) (by omega) (by omega)
            have es2 := anyIn_succ s.nw lo i
            obtain ⟨b, hb⟩ : ∃ b, b = bitAt s.nw (lo + i) := ⟨_, rfl⟩
            obtain ⟨a, ha2⟩ : ∃ a, a = anyIn s.nw lo i := ⟨_, rfl⟩
            rw [← hb] at ch es2
            rw [← ha2] at es2
            simp only [← ha2]
            have e1 : ((lo + i : Nat) : Int) + 1 = ((lo + (i + 1) : Nat) : Int) := by omega
            cases a with
            | true =>
              (have gx := And.intro @List.length_map.{0,0} @e1; have q1 := ch; refine go ?_; (repeat' first | exact Ef.mk | apply Lf.mk | refine fun (K : KT) hK hE hT => ?_ | refine fun (KS : KE) hKS => ?_ | refine fun (D : KD) hD => ?_ | refine fun (hg : (_ : Prop)) => ?_ | fail); all_goals (first | (refine Wr.mk ?_; (try clear gx q1); repeat first | clear hK hE hT K | clear hR hE hT K) | assumption | skip))
              refine hR2.out ⟨i + 1, by omega⟩ _ _ _ (by simp only; omega) ?_
              (refine wk_a ?_; simp only [MAB, seval]; refine ⟨rfl, rfl, (by decide), ?_, ?_⟩; all_goals (first | (simp only [WKB, seval, es2, Bool.true_or]; done) | (simp [WKB, seval, es2, Bool.true_or]; done) | simp only [WKB, seval]))
            | false =>
              (have gx := And.intro @List.length_map.{0,0} @e1; have q1 := ch; refine go ?_; (repeat' first | exact Ef.mk | apply Lf.mk | refine fun (K : KT) hK hE hT => ?_ | refine fun (KS : KE) hKS => ?_ | refine fun (D : KD) hD => ?_ | refine fun (hg : (_ : Prop)) => ?_ | fail); all_goals (first | (refine Wr.mk ?_; (try clear gx q1); repeat first | clear hK hE hT K | clear hR hE hT K) | assumption | skip))
              refine hR2.out ⟨i + 1, by omega⟩ _ _ _ (by simp only; omega) ?_
              (refine wk_a ?_; simp only [MAB, seval]; refine ⟨rfl, rfl, (by decide), ?_, ?_⟩; all_goals (first | (simp only [WKB, seval, es2, Bool.false_or]; done) | (simp [WKB, seval, es2, Bool.false_or]; done) | simp only [WKB, seval]))
          case inr =>
            obtain rfl : i = n := by omega
            cases hb : anyIn s.nw lo i with
            | false =>
              have e := est.trans (ouStep_no (ha.trans hb))
              (have gx := @List.length_map.{0,0}; refine go ?_; (repeat' first | exact Ef.mk | apply Lf.mk | refine fun (K : KT) hK hE hT => ?_ | refine fun (KS : KE) hKS => ?_ | refine fun (D : KD) hD => ?_ | refine fun (hg : (_ : Prop)) => ?_ | fail); all_goals (first | (refine Wr.mk ?_; (try clear gx); repeat first | clear hK hE hT K | clear hR hE hT K) | assumption | skip))
              refine hR.out ⟨k + 1, by omega⟩ _ _ _ (by simp only; omega) ?_
              (refine wk_a ?_; simp only [MAB, seval]; refine ⟨rfl, rfl, (by decide), ?_, ?_⟩; all_goals (first | (simp only [WKB, seval, e]; done) | (simp [WKB, seval, e]; done) | simp only [WKB, seval]))
            | true =>
              have e := est.trans (ouStep_yes (ha.trans hb))
              rw [← hD, hdo] at e
              have hse := setEv_same B.Locs
              have heo : (rOf s.r B.Locs).EVals = evOf B.Locs := rfl
              have hev : (rOf s.r B.Locs).Vals = s.r.Vals ∧ (rOf s.r B.Locs).Next = s.r.Next := ⟨rfl, rfl⟩
              (have gx := And.intro @List.length_map.{0,0} @hmx; have q1 := cl; refine go ?_; (repeat' first | exact Ef.mk | apply Lf.mk | refine fun (K : KT) hK hE hT => ?_ | refine fun (KS : KE) hKS => ?_ | refine fun (D : KD) hD => ?_ | refine fun (hg : (_ : Prop)) => ?_ | fail); all_goals (first | (refine Wr.mk ?_; (try clear gx q1); repeat first | clear hK hE hT K | clear hR hE hT K) | assumption | skip))
              refine loop_v (X := {v : Nat // v ≤ i}) [] (fun x => [(14, .c (.v (.int .i64 ((lo + x.1 : Nat) : Int))))]) (fun x => [(0, some (.ro ((f.Vals).map intK))), (1, some (.ro ((f.Next.Bits).map bytK))), (2, some (.ro ((f.Farm.Ends).map intK))), (3, some (.ro ((f.Farm.Shards).map (ShardD.k 112)))), (4, some (.box 32 [.v (.int .i64 f.Job.Prog), .v (.int .i64 f.Job.Src), .v (.int .i64 f.Iter), .v (.bool f.Done), .sl 0 1 0 (f.Vals).length, .v (.int .i64 f.Next.N), .sl 1 1 0 (f.Next.Bits).length, .v (.int .i64 f.Farm.N), .sl 2 1 0 (f.Farm.Ends).length, .sl 3 3 0 (f.Farm.Shards).length])), (5, some (.box 32 [.v (.int .i64 0), .v (.int .i64 0), .v (.int .i64 0), .v (.bool false), .nil, .v (.int .i64 0), .nil, .v (.int .i64 0), .nil, .nil])), (6, some (.box 35 [.v (.int .i64 0), .v (.int .i64 0), .v (.int .i64 0)])), (11, some (.box 32 [.v (.int .i64 s.r.Job.Prog), .v (.int .i64 s.r.Job.Src), .v (.int .i64 s.r.Iter), .v (.bool s.r.Done), .sl 7 1 0 (Q x.1).1.Vals.length, .v (.int .i64 f.Farm.N), .sl 13 1 0 (Q x.1).1.Next.Bits.length, .v (.int .i64 s.r.Farm.N), .sl 9 1 0 s.r.Farm.Ends.length, .sl 10 3 0 s.r.Farm.Shards.length])), (12, some (.box 27 [.v (.int .i64 f.Farm.N), .sl 8 1 0 (Q x.1).2.length])), (14, some (.box 35 [.v (.int .i64 (s.ld + 1)), .v (.int .i64 (s.rd + B.Reads)), .v (.int .i64 (max s.mo (B.Locs.length : Int)))])), (16, some (.box 70 [.v (.int .i64 B.P), .v (.int .i64 B.Lo), .v (.int .i64 B.Hi), .sl 15 7 0 B.Locs.length, .v (.int .i64 B.Reads)])), (7, some (.row 3 ((Q x.1).1.Vals.map intK))), (8, some (.row 5 ((Q x.1).2.map bytK))), (9, some (.row 3 (s.r.Farm.Ends.map intK))), (10, some (.nst 109 (s.r.Farm.Shards.map (ShardD.k 112)) none)), (13, some (.row 5 ((Q x.1).1.Next.Bits.map bytK))), (15, some (.row 114 ((setEv B.Locs (Q x.1).1.EVals).map LocD.k)))]) 17 (fun x => i - x.1) ⟨0, by omega⟩ ?_
              simp only [KPB, seval]
              refine ⟨?_, ?_⟩
              · (refine wk_a ?_; simp only [MAB, seval]; refine ⟨rfl, rfl, (by decide), ?_, ?_⟩; all_goals (first | (simp only [WKB, seval, hQ0, hse, heo, hev, Nat.add_zero, hsN]; done) | (simp [WKB, seval, hQ0, hse, heo, hev, Nat.add_zero, hsN]; done) | simp only [WKB, seval]))
              · rintro ⟨v, hv⟩ K hR3 hE hT
                have qo := hQo v hv
                have qe := hQe v hv
                have qs := hQs v
                obtain ⟨qj1, qj2, qj3, _⟩ := hQj v
                have qn : (Q v).1.Next.N = f.Farm.N := by rw [qo.sn, hG0]; exact fe2
                have gN : G0.N = f.Farm.N := by rw [hG0]; exact fe2
                have qvl := qo.ix.vl
                have qsl := (setOk_len qo.so).2.2
                have qwl := (setOk_len qo.wo).2.2
                rw [gN] at qvl qsl qwl
                rcases Nat.lt_or_ge v i with hvl | hvg
                case inr =>
                  obtain rfl : v = i := by omega
                  have kp := implPut_k s.r.Farm B.P B.Lo B.Hi B.Reads (setEv B.Locs (Q v).1.EVals) sfl (by rw [setEv_len qe]; omega)
                  rw [(pu_yes hpu).2, setEv_len qe] at kp
                  obtain ⟨X, hX⟩ : ∃ X, X = puR s.r.Farm (setEv B.Locs (Q v).1.EVals) := ⟨_, rfl⟩
                  rw [← hX] at kp e
                  have hsl := setEv_len qe
                  (have gx := And.intro @List.length_map.{0,0} @hsl; have q1 := kp; refine go ?_; (repeat' first | exact Ef.mk | apply Lf.mk | refine fun (K : KT) hK hE hT => ?_ | refine fun (KS : KE) hKS => ?_ | refine fun (D : KD) hD => ?_ | refine fun (hg : (_ : Prop)) => ?_ | fail); all_goals (first | (refine Wr.mk ?_; (try clear gx q1); repeat first | clear hK hE hT K | clear hR hE hT K) | assumption | skip))
                  refine hR.out ⟨k + 1, by omega⟩ _ _ _ (by simp only; omega) ?_
                  (refine wk_a ?_; simp only [MAB, seval]; refine ⟨rfl, rfl, (by decide), ?_, ?_⟩; all_goals (first | (simp only [WKB, seval, e, qn]; done) | (simp [WKB, seval, e, qn]; done) | simp only [WKB, seval]))
                case inl =>
                  obtain ⟨⟨y, w⟩, hy⟩ : ∃ y, y = Q v := ⟨_, rfl⟩
                  rw [← hy] at qo qe qs qj1 qj2 qj3 qn qvl qsl qwl
                  simp only [← hy]
                  dsimp only at qo qe qs qj1 qj2 qj3 qn qvl qsl qwl
                  have e1 : ((lo + v : Nat) : Int) + 1 = ((lo + (v + 1) : Nat) : Int) := by omega
                  have ch := implhas_k f.Farm.N w (lo + v) (by omega) (by omega)
                  obtain ⟨b, hbb⟩ : ∃ b, b = bitAt w (lo + v) := ⟨_, rfl⟩
                  rw [← hbb] at ch
                  cases b with
                  | false =>
                    have e2 : Q (v + 1) = (y, w) := by rw [qs]; unfold inStep; rw [if_neg (by dsimp only; rw [← hbb]; simp)]
                    (have gx := And.intro @List.length_map.{0,0} @e1; have q1 := ch; refine go ?_; (repeat' first | exact Ef.mk | apply Lf.mk | refine fun (K : KT) hK hE hT => ?_ | refine fun (KS : KE) hKS => ?_ | refine fun (D : KD) hD => ?_ | refine fun (hg : (_ : Prop)) => ?_ | fail); all_goals (first | (refine Wr.mk ?_; (try clear gx q1); repeat first | clear hK hE hT K | clear hR hE hT K) | assumption | skip))
                    refine hR3.out ⟨v + 1, by omega⟩ _ _ _ (by simp only; omega) ?_
                    (refine wk_a ?_; simp only [MAB, seval]; refine ⟨rfl, rfl, (by decide), ?_, ?_⟩; all_goals (first | (simp only [WKB, seval, e2]; done) | (simp [WKB, seval, e2]; done) | simp only [WKB, seval]))
                  | true =>
                    have e2 : Q (v + 1) = (runV G0 y w (lo + v), nowV G0 y w (lo + v)) := by rw [qs]; unfold inStep; rw [if_pos (by dsimp only; rw [← hbb])]
                    have ll := setEv_len qe
                    have hyd : y = rOf ⟨s.r.Job, s.r.Iter, s.r.Done, y.Vals, y.Next, s.r.Farm⟩ (setEv B.Locs y.EVals) := by
                      unfold rOf
                      rw [setEv_ev qe, ← qj1, ← qj2, ← qj3]
                    have hgd : G0 = gOf s.r.Farm.N (setEv B.Locs y.EVals) := by
                      rw [hG0]; unfold gOf; rw [setEv_ed qe]
                    have cu := fupd_k ⟨s.r.Job, s.r.Iter, s.r.Done, y.Vals, y.Next, s.r.Farm⟩ ⟨B.P, B.Lo, B.Hi, setEv B.Locs y.EVals, B.Reads⟩ w (lo + v) G0 y hgd hyd qo.ix qo.so qo.wo (by rw [qn, fe2]) (by rw [gN]; omega)
                    obtain ⟨x1, x2, x3⟩ := ix_lens (nw := w) qo.ix qo.so qo.wo (v := lo + v) (by rw [gN]; omega) (viewsI G0 ((lo + v : Nat) : Int)).length
                    have ex : vxEnd G0 y w (lo + v) = vxTo G0 ((lo + v : Nat) : Int) (viewsI G0 ((lo + v : Nat) : Int)) (vxVals G0 y (lo + v)) ⟨y.EVals, y.Next.Bits, w⟩ (viewsI G0 ((lo + v : Nat) : Int)).length := rfl
                    rw [← ex] at x1 x2 x3
                    have er : runV G0 y w (lo + v) = ⟨y.Job, y.Iter, y.Done, y.Vals.set (lo + v) (vxVal G0 y (lo + v)), (vxEnd G0 y w (lo + v)).ev, ⟨y.Next.N, (vxEnd G0 y w (lo + v)).nx⟩⟩ := rfl
                    have en : nowV G0 y w (lo + v) = (vxEnd G0 y w (lo + v)).nw := rfl
                    rw [er, en] at e2
                    obtain ⟨E, hEd⟩ : ∃ E, E = vxEnd G0 y w (lo + v) := ⟨_, rfl⟩
                    obtain ⟨nv, hnv⟩ : ∃ n, n = vxVal G0 y (lo + v) := ⟨_, rfl⟩
                    simp only [← hEd, ← hnv] at cu x1 x2 x3 e2
                    have et := setEv_twice qe (x1.trans qe)
                    rw [et, ll, qn, fe2] at cu
                    clear hyd hgd ex er en hEd hnv
                    (have gx := And.intro (@List.length_map.{0,0}) (And.intro @e1 @fe2); have q1 := ch; have q2 := cu; refine go ?_; (repeat' first | exact Ef.mk | apply Lf.mk | refine fun (K : KT) hK hE hT => ?_ | refine fun (KS : KE) hKS => ?_ | refine fun (D : KD) hD => ?_ | refine fun (hg : (_ : Prop)) => ?_ | fail); all_goals (first | (refine Wr.mk ?_; (try clear gx q1 q2); repeat first | clear hK hE hT K | clear hR hE hT K) | assumption | skip))
                    refine hR3.out ⟨v + 1, by omega⟩ _ _ _ (by simp only; omega) ?_
                    (refine wk_a ?_; simp only [MAB, seval]; refine ⟨rfl, rfl, (by decide), ?_, ?_⟩; all_goals (first | (simp only [WKB, seval, e2, List.length_set, x2, x3, fe2]; done) | (simp [WKB, seval, e2, List.length_set, x2, x3, fe2]; done) | simp only [WKB, seval]))

end Go.Proofs.YtfdhdkljpeohlaaGreat

