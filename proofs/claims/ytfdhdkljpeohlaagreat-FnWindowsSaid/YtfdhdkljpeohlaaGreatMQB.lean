/-
  The engine, texts Q3 Q4 Q5 in one. No conditions of its own.
-/
import Derived.Test.YtfdhdkljpeohlaaGreatGO
import Derived.Test.YtfdhdkljpeohlaaGreatMQA
import Derived.Test.YtfdhdkljpeohlaaGreatMG
import Derived.Laws.StructEq
namespace Go.Proofs.YtfdhdkljpeohlaaGreat
set_option linter.unusedSimpArgs false
set_option linter.unusedVariables false
set_option linter.unusedSimpArgs false
set_option linter.unusedVariables false
set_option linter.defProp false
set_option maxRecDepth 20000
open Go.RowKit
attribute [local irreducible] lexD

theorem eq_sedge : eqFive Tryz.prog 112 := by
  refine ⟨by kernel_rfl, fun a b c d e a' b' c' d' e' w => ?_⟩
  have u3 := Tryz.underlying3
  have hS : Tryz.prog.underlying 112 = some (.struct (Tryz.prog.fieldsOf 112)) := by kernel_rfl
  have hp : Tryz.prog.stoodInHeld 112 = false := by kernel_rfl
  rw [show (10000 : Nat) = 9999 + 1 from rfl, run_equalIn_agg w 9999 112 _ _ hS hp]
  simp only [Program.fieldsOf, Tryz.underlying112]
  go_simp
  by_cases h1 : a = a' <;> by_cases h2 : b = b' <;> by_cases h3 : c = c' <;> by_cases h4 : d = d' <;> by_cases h5 : e = e' <;> simp [h1, h2, h3, h4, h5]

/-- What of an edge does not change. -/
def skE (e : SEdgeD) : SEdgeD := { e with Val := 0 }
def skS (s : ShardD) : ShardD := ⟨s.Lo, s.Hi, s.Edges.map skE⟩
def ptS (x : LocD) (s : ShardD) : ShardD := ⟨s.Lo, s.Hi, s.Edges.set x.At.toNat x.Edge⟩
def ptL (l : List ShardD) (xs : List LocD) : List ShardD := xs.foldl (fun l x => l.modify x.Shard.toNat (ptS x)) l
/-- A place that can be written. -/
def ptOk (l : List ShardD) (x : LocD) : Prop := 0 ≤ x.Shard ∧ 0 ≤ x.At ∧ 0 ≤ x.Edge.Val ∧ x.Edge.Val ≤ 1099511627776 ∧ ∃ h : x.Shard.toNat < l.length, ∃ h2 : x.At.toNat < (l[x.Shard.toNat]).Edges.length, skE ((l[x.Shard.toNat]).Edges[x.At.toNat]) = skE x.Edge
theorem ptL_snoc (l : List ShardD) (xs : List LocD) (x : LocD) : ptL l (xs ++ [x]) = (ptL l xs).modify x.Shard.toNat (ptS x) := by
  unfold ptL; rw [List.foldl_append]; rfl
theorem ptOk_sk {l m : List ShardD} (h : l.map skS = m.map skS) {x : LocD} (hx : ptOk l x) : ptOk m x := by
  obtain ⟨h1, h2, h3, h4, h5, h6, h7⟩ := hx
  have hl : l.length = m.length := by have := congrArg List.length h; simpa using this
  have hs : skS (l[x.Shard.toNat]) = skS (m[x.Shard.toNat]'(by omega)) := by
    have := congrArg (fun l => l[x.Shard.toNat]?) h
    simp only [List.getElem?_map, List.getElem?_eq_getElem h5, List.getElem?_eq_getElem (show x.Shard.toNat < m.length by omega), Option.map_some, Option.some.injEq] at this
    exact this
  unfold skS at hs
  simp only [ShardD.mk.injEq] at hs
  have hel : (l[x.Shard.toNat]).Edges.length = (m[x.Shard.toNat]'(by omega)).Edges.length := by have := congrArg List.length hs.2.2; simpa using this
  refine ⟨h1, h2, h3, h4, by omega, by omega, ?_⟩
  have := congrArg (fun l => l[x.At.toNat]?) hs.2.2
  simp only [List.getElem?_map, List.getElem?_eq_getElem h6, List.getElem?_eq_getElem (show x.At.toNat < (m[x.Shard.toNat]'(by omega)).Edges.length by omega), Option.map_some, Option.some.injEq] at this
  rw [← this]; exact h7
theorem ptS_sk {l : List ShardD} {x : LocD} (hx : ptOk l x) : (l.modify x.Shard.toNat (ptS x)).map skS = l.map skS := by
  obtain ⟨_, _, _, _, h5, h6, h7⟩ := hx
  apply List.ext_getElem?
  intro j
  rw [List.getElem?_map, List.getElem?_map, List.getElem?_modify]
  by_cases hj : x.Shard.toNat = j
  · subst hj
    rw [List.getElem?_eq_getElem h5]
    show some (skS (if x.Shard.toNat = x.Shard.toNat then ptS x l[x.Shard.toNat] else l[x.Shard.toNat])) = some (skS l[x.Shard.toNat])
    rw [if_pos rfl]
    congr 1
    unfold ptS skS
    simp only [ShardD.mk.injEq, true_and]
    rw [List.map_set, ← h7]
    apply List.ext_getElem?
    intro i
    rw [List.getElem?_set]
    split
    · rename_i hi
      subst hi
      rw [if_pos (by simpa using h6), List.getElem?_map, List.getElem?_eq_getElem h6]; rfl
    · rfl
  · cases l[j]? with
    | none => rfl
    | some y => show some (skS (if x.Shard.toNat = j then ptS x y else y)) = some (skS y); rw [if_neg hj]
/-- All places up to k can be written. -/
def ptAll (l : List ShardD) (xs : List LocD) (k : Nat) : Prop := ∀ i (h : i < xs.length), i < k → ptOk l xs[i]
theorem ptAll_succ {l : List ShardD} {xs : List LocD} {k : Nat} (h : ptAll l xs k) (hk : k < xs.length) (hx : ptOk l xs[k]) : ptAll l xs (k + 1) := fun i hi hik => by
  by_cases e : i = k
  · subst e; exact hx
  · exact h i hi (by omega)
theorem ptL_sk {l : List ShardD} {xs : List LocD} : ∀ {k : Nat}, ptAll l xs k → k ≤ xs.length → (ptL l (xs.take k)).map skS = l.map skS
  | 0, _, _ => by simp [ptL]
  | k + 1, h, hk => by
    have ih := ptL_sk (k := k) (fun i hi hik => h i hi (by omega)) (by omega)
    rw [List.take_succ_eq_append_getElem (by omega), ptL_snoc, ptS_sk (ptOk_sk ih.symm (h k (by omega) (by omega)))]
    exact ih
theorem sk_len {l m : List ShardD} (h : l.map skS = m.map skS) : l.length = m.length := by have := congrArg List.length h; simpa using this
theorem sk_edges {l m : List ShardD} (h : l.map skS = m.map skS) {i : Nat} (hi : i < l.length) : skS l[i] = skS (m[i]'(by rw [← sk_len h]; exact hi)) := by
  have hl := sk_len h
  have := congrArg (fun l => l[i]?) h
  simp only [List.getElem?_map, List.getElem?_eq_getElem hi, List.getElem?_eq_getElem (show i < m.length by omega), Option.map_some, Option.some.injEq] at this
  exact this
theorem skS_len {s t : ShardD} (h : skS s = skS t) : s.Edges.length = t.Edges.length ∧ s.Lo = t.Lo ∧ s.Hi = t.Hi := by
  unfold skS at h
  simp only [ShardD.mk.injEq] at h
  refine ⟨?_, h.1, h.2.1⟩
  have := congrArg List.length h.2.2
  simpa using this

def PutOk (f : FarmD) (xs : List LocD) : Prop := FarmOk f ∧ ptAll f.Shards xs xs.length
noncomputable def puB (f : FarmD) (xs : List LocD) : Bool := pB (PutOk f xs)
noncomputable def puR (f : FarmD) (xs : List LocD) : FarmD := if pB (PutOk f xs) then ⟨f.N, f.Ends, ptL f.Shards xs⟩ else ⟨0, [], []⟩
theorem pu_no {f : FarmD} {xs : List LocD} (h : ¬ PutOk f xs) : puR f xs = ⟨0, [], []⟩ ∧ puB f xs = false := by
  unfold puR puB; rw [pB_f h]; exact ⟨rfl, rfl⟩
theorem pu_yes {f : FarmD} {xs : List LocD} (h : PutOk f xs) : puR f xs = ⟨f.N, f.Ends, ptL f.Shards xs⟩ ∧ puB f xs = true := by
  unfold puR puB; rw [pB_t h]; exact ⟨rfl, rfl⟩
theorem pt_no {f : FarmD} {xs : List LocD} {k : Nat} (hk : k < xs.length) (h : ¬ ptOk f.Shards xs[k]) : ¬ PutOk f xs := fun hp => h (hp.2 k hk hk)
theorem pt_set {T : Nat} {L : List ShardD} {y : LocD} {n a : Nat} (hn : y.Shard = (n : Int)) (ha : y.At = (a : Int)) (h : n < L.length) :
    (L.map (ShardD.k T)).set n [.v (.int .i64 (L[n]).Lo), .v (.int .i64 (L[n]).Hi), .sl T 5 (((L[n]).Edges.map SEdgeD.k).set a (SEdgeD.k y.Edge))] = (L.modify y.Shard.toNat (ptS y)).map (ShardD.k T) := by
  rw [hn, Int.toNat_natCast, modify_set' _ _ h, List.map_set]
  congr 1
  unfold ptS ShardD.k
  rw [ha, Int.toNat_natCast, List.map_set]

end Go.Proofs.YtfdhdkljpeohlaaGreat

namespace Go.Proofs.YtfdhdkljpeohlaaGreat
set_option linter.unusedSimpArgs false
set_option linter.unusedVariables false
set_option linter.defProp false
set_option maxRecDepth 20000
open Go.RowKit
attribute [local irreducible] lexD

set_option maxHeartbeats 16000000 in
theorem implPut_k (f : FarmD) (p lo hi rd : Int) (xs : List LocD) (h : (f.Ends).length ≤ 1048576 ∧ (f.Shards).length ≤ 1048576 ∧ (∀ s ∈ f.Shards, s.Edges.length ≤ 1048576)) (hx : xs.length ≤ 1048576) : FnOK Tryz.prog 29 ⟨3, [(0, some (.ro ((f.Ends).map intK))), (1, some (.ro ((f.Shards).map (ShardD.k 112)))), (2, some (.ro (xs.map LocD.k)))], [.agg [.v (.int .i64 f.N), .sl 0 1 0 (f.Ends).length, .sl 1 3 0 (f.Shards).length], .agg [.v (.int .i64 p), .v (.int .i64 lo), .v (.int .i64 hi), .sl 2 7 0 xs.length, .v (.int .i64 rd)]],
    .tup [.inr [.v (.int .i64 (puR f xs).N), .sl 3 1 0 ((puR f xs).Ends).length, .sl 4 3 0 ((puR f xs).Shards).length], .inl (.v (.bool (puB f xs)))], [(3, some (.row 3 (((puR f xs).Ends).map intK))), (4, some (.nst 109 (((puR f xs).Shards).map (ShardD.k 112)) none))], 5⟩ := by
  have co := implFarmOk_k f h
  have cc := copyFarm_k f h
  obtain ⟨h0, h1, h2⟩ := h
  by_cases hf : FarmOk f
  case neg =>
    obtain ⟨e1, e2⟩ := pu_no (f := f) (xs := xs) (fun h => hf h.1)
    rw [e1, e2]
    rw [pB_f hf] at co
    refine fnOK_of true mixed Tryz.func29 rfl (by rfl) (by rfl) ?_
    have hres := congrArg Array.toList Tryz.results29
    simp only [Tryz.ntmps29, BGB, seval]
    (have gx := @List.length_map.{0,0}; have q1 := co; refine go ?_; (repeat' first | exact Ef.mk | apply Lf.mk | refine fun (K : KT) hK hE hT => ?_ | refine fun (KS : KE) hKS => ?_ | refine fun (D : KD) hD => ?_ | refine fun (hg : (_ : Prop)) => ?_ | fail); all_goals (first | (refine Wr.mk ?_; (try clear gx q1); repeat first | clear hK hE hT K | clear hR hE hT K) | assumption | skip))
    all_goals (refine post_a hres (.inl rfl) ?_; simp only [RSB, ENB, seval, tiAll, true_and]; simp only [MAB, seval]; refine ⟨rfl, rfl, ?_, ?_, ?_⟩ <;> (first | rfl | (simp [WKB, Nat.add_comm, true_and]; done) | (simp only [WKB, seval])))
  case pos =>
    have hq := eq_sedge
    rw [pB_t hf] at co
    refine fnOK_of true mixed Tryz.func29 rfl (by rfl) (by rfl) ?_
    have hres := congrArg Array.toList Tryz.results29
    simp only [Tryz.ntmps29, BGB, seval]
    (have gx := @List.length_map.{0,0}; have q1 := co; have q2 := cc; refine go ?_; (repeat' first | exact Ef.mk | apply Lf.mk | refine fun (K : KT) hK hE hT => ?_ | refine fun (KS : KE) hKS => ?_ | refine fun (D : KD) hD => ?_ | refine fun (hg : (_ : Prop)) => ?_ | fail); all_goals (first | (refine Wr.mk ?_; (try clear gx q1 q2); repeat first | clear hK hE hT K | clear hR hE hT K) | assumption | skip))
    refine loop_v (X := {k : Nat // k ≤ xs.length ∧ Rnd (ptAll f.Shards xs k)}) [] (fun x => [(20, .c (.v (.int .i64 ((x.1 : Nat) : Int))))]) (fun x => [(0, some (.ro ((f.Ends).map intK))), (1, some (.ro ((f.Shards).map (ShardD.k 112)))), (2, some (.ro (xs.map LocD.k))), (3, some (.box 30 [.v (.int .i64 f.N), .sl 0 1 0 (f.Ends).length, .sl 1 3 0 (f.Shards).length])), (4, some (.box 70 [.v (.int .i64 p), .v (.int .i64 lo), .v (.int .i64 hi), .sl 2 7 0 xs.length, .v (.int .i64 rd)])), (5, some (.box 30 [.v (.int .i64 0), .nil, .nil])), (6, some (.row 3 (f.Ends.map intK))), (7, some (.nst 109 ((ptL f.Shards (xs.take x.1)).map (ShardD.k 112)) none)), (8, some (.box 30 [.v (.int .i64 f.N), .sl 6 1 0 (f.Ends).length, .sl 7 3 0 (f.Shards).length]))]) 9 (fun x => xs.length - x.1) ⟨0, by omega, ⟨fun i hi hik => absurd hik (by omega)⟩⟩ ?_
    simp only [KPB, seval]
    refine ⟨?_, ?_⟩
    · (refine wk_a ?_; simp only [MAB, seval]; refine ⟨rfl, rfl, (by decide), ?_, ?_⟩; all_goals (first | (simp only [WKB, seval, List.take_zero, ptL, List.foldl_nil]; done) | (simp [WKB, seval, List.take_zero, ptL, List.foldl_nil]; done) | simp only [WKB, seval]))
    · rintro ⟨k, hk, hal⟩ K hR hE hT
      have hsk := ptL_sk hal.out hk
      have hL := sk_len hsk
      rcases Nat.lt_or_ge k xs.length with hlt | hge
      case inr =>
        obtain rfl : k = xs.length := by omega
        obtain ⟨e1, e2⟩ := pu_yes (f := f) (xs := xs) ⟨hf, hal.out⟩
        rw [List.take_length] at *
        (have gx := @List.length_map.{0,0}; refine go ?_; (repeat' first | exact Ef.mk | apply Lf.mk | refine fun (K : KT) hK hE hT => ?_ | refine fun (KS : KE) hKS => ?_ | refine fun (D : KD) hD => ?_ | refine fun (hg : (_ : Prop)) => ?_ | fail); all_goals (first | (refine Wr.mk ?_; (try clear gx); repeat first | clear hK hE hT K | clear hR hE hT K) | assumption | skip))
        (refine post_a hres (.inl rfl) ?_; simp only [RSB, ENB, seval, tiAll, e1, e2, hL]; simp only [MAB, seval]; refine ⟨rfl, rfl, ?_, ?_, ?_⟩ <;> (first | rfl | (simp [WKB, Nat.add_comm, e1, e2, hL]; done) | (simp only [WKB, seval])))
      case inl =>
        obtain ⟨y, hy⟩ : ∃ y, y = xs[k] := ⟨_, rfl⟩
        have hstep : ptL f.Shards (xs.take (k + 1)) = (ptL f.Shards (xs.take k)).modify y.Shard.toNat (ptS y) := by rw [List.take_succ_eq_append_getElem hlt, ptL_snoc, hy]
        have hno : ¬ ptOk f.Shards y → puR f xs = ⟨0, [], []⟩ ∧ puB f xs = false := fun hn => pu_no (pt_no hlt (by rw [← hy]; exact hn))
        have hyes : ptOk f.Shards y → ptAll f.Shards xs (k + 1) := fun hn => ptAll_succ hal.out hlt (by rw [← hy]; exact hn)
        have hyk : (xs.map LocD.k)[k]'(by simpa using hlt) = LocD.k y := by rw [List.getElem_map, hy]
        obtain ⟨L, hLd⟩ : ∃ L, L = ptL f.Shards (xs.take k) := ⟨_, rfl⟩
        rw [← hLd] at hsk hL hstep
        simp only [← hLd]
        clear hLd
        by_cases hr : (0 ≤ y.Shard ∧ y.Shard < f.Shards.length) ∧ 0 ≤ y.At
        case neg =>
          obtain ⟨e1, e2⟩ := hno fun hp => hr ⟨⟨hp.1, by have := hp.2.2.2.2.1; omega⟩, hp.2.1⟩
          (have gx := And.intro (@List.length_map.{0,0}) (And.intro (@hyk) (And.intro @hL @LocD.k.eq_1)); refine go ?_; (repeat' first | exact Ef.mk | apply Lf.mk | refine fun (K : KT) hK hE hT => ?_ | refine fun (KS : KE) hKS => ?_ | refine fun (D : KD) hD => ?_ | refine fun (hg : (_ : Prop)) => ?_ | fail); all_goals (first | (refine Wr.mk ?_; (try clear gx); repeat first | clear hK hE hT K | clear hR hE hT K) | assumption | skip))
          all_goals first | exact (hr ⟨⟨by omega, by omega⟩, by omega⟩).elim | (refine post_a hres (.inl rfl) ?_; simp only [RSB, ENB, seval, tiAll, e1, e2]; simp only [MAB, seval]; refine ⟨rfl, rfl, ?_, ?_, ?_⟩ <;> (first | rfl | (simp [WKB, Nat.add_comm, e1, e2]; done) | (simp only [WKB, seval])))
        case pos =>
          obtain ⟨⟨r1, r2⟩, r3⟩ := hr
          obtain ⟨n, hn⟩ : ∃ n : Nat, y.Shard = (n : Int) := ⟨y.Shard.toNat, by omega⟩
          obtain ⟨a, ha⟩ : ∃ a : Nat, y.At = (a : Int) := ⟨y.At.toNat, by omega⟩
          have hnL : n < L.length := by omega
          have hnf : n < f.Shards.length := by omega
          have hke := sk_edges hsk hnL
          obtain ⟨hel, _, _⟩ := skS_len hke
          have cv := implisValue_k y.Edge.Val
          have gs : (L.map (ShardD.k 112))[n]'(by simpa using hnL) = ShardD.k 112 L[n] := List.getElem_map ..
          by_cases ha2 : a < (L[n]).Edges.length
          case neg =>
            have hnp : ¬ ptOk f.Shards y := fun hp => by
              obtain ⟨_, _, _, _, q5, q6, _⟩ := hp
              rw [show y.At.toNat = a by omega] at q6
              simp only [hn, Int.toNat_natCast] at q6
              omega
            obtain ⟨e1, e2⟩ := hno hnp
            (have gx := And.intro (@List.length_map.{0,0}) (And.intro (@hyk) (And.intro (@hL) (And.intro (@LocD.k.eq_1) (And.intro (@hn) (And.intro (@ha) (And.intro @gs @ShardD.k.eq_1)))))); refine go ?_; (repeat' first | exact Ef.mk | apply Lf.mk | refine fun (K : KT) hK hE hT => ?_ | refine fun (KS : KE) hKS => ?_ | refine fun (D : KD) hD => ?_ | refine fun (hg : (_ : Prop)) => ?_ | fail); all_goals (first | (refine Wr.mk ?_; (try clear gx); repeat first | clear hK hE hT K | clear hR hE hT K) | assumption | skip))
            all_goals first | (exfalso; omega) | (refine post_a hres (.inl rfl) ?_; simp only [RSB, ENB, seval, tiAll, e1, e2]; simp only [MAB, seval]; refine ⟨rfl, rfl, ?_, ?_, ?_⟩ <;> (first | rfl | (simp [WKB, Nat.add_comm, e1, e2]; done) | (simp only [WKB, seval])))
          case pos =>
            obtain ⟨e0, he0⟩ : ∃ e0, e0 = (L[n]).Edges[a] := ⟨_, rfl⟩
            have ge : ((L[n]).Edges.map SEdgeD.k)[a]'(by simpa using ha2) = SEdgeD.k e0 := by rw [List.getElem_map, he0]
            have hkf : ptOk f.Shards y ↔ 0 ≤ y.Edge.Val ∧ y.Edge.Val ≤ 1099511627776 ∧ skE e0 = skE y.Edge := by
              have hr1 : ptOk f.Shards y ↔ ptOk L y := ⟨ptOk_sk hsk.symm, ptOk_sk hsk⟩
              rw [hr1]
              constructor
              · rintro ⟨_, _, q3, q4, q5, q6, q7⟩
                simp only [hn, ha, Int.toNat_natCast] at q7
                exact ⟨q3, q4, by rw [he0]; exact q7⟩
              · rintro ⟨q3, q4, q7⟩
                refine ⟨by omega, by omega, q3, q4, ?_⟩
                simp only [hn, ha, Int.toNat_natCast]
                exact ⟨hnL, ha2, by rw [← he0]; exact q7⟩
            by_cases hv : 0 ≤ y.Edge.Val ∧ y.Edge.Val ≤ 1099511627776
            case neg =>
              obtain ⟨e1, e2⟩ := hno fun hp => hv ⟨(hkf.1 hp).1, (hkf.1 hp).2.1⟩
              rw [show valOk y.Edge.Val = false from decide_eq_false hv] at cv
              (have gx := And.intro (@List.length_map.{0,0}) (And.intro (@hyk) (And.intro (@hL) (And.intro (@LocD.k.eq_1) (And.intro (@hn) (And.intro (@ha) (And.intro @gs @ShardD.k.eq_1)))))); have q1 := cv; refine go ?_; (repeat' first | exact Ef.mk | apply Lf.mk | refine fun (K : KT) hK hE hT => ?_ | refine fun (KS : KE) hKS => ?_ | refine fun (D : KD) hD => ?_ | refine fun (hg : (_ : Prop)) => ?_ | fail); all_goals (first | (refine Wr.mk ?_; (try clear gx q1); repeat first | clear hK hE hT K | clear hR hE hT K) | assumption | skip))
              all_goals (refine post_a hres (.inl rfl) ?_; simp only [RSB, ENB, seval, tiAll, e1, e2]; simp only [MAB, seval]; refine ⟨rfl, rfl, ?_, ?_, ?_⟩ <;> (first | rfl | (simp [WKB, Nat.add_comm, e1, e2]; done) | (simp only [WKB, seval])))
            case pos =>
              rw [show valOk y.Edge.Val = true from decide_eq_true hv] at cv
              by_cases hs : skE e0 = skE y.Edge
              case neg =>
                obtain ⟨e1, e2⟩ := hno fun hp => hs (hkf.1 hp).2.2
                have hb : (y.Edge.From == e0.From && y.Edge.To == e0.To && y.Edge.W == e0.W && y.Edge.Index == e0.Index) = false := by
                  rw [Bool.eq_false_iff]
                  intro hb
                  apply hs
                  simp only [Bool.and_eq_true, beq_iff_eq] at hb
                  obtain ⟨⟨⟨b1, b2⟩, b3⟩, b4⟩ := hb
                  unfold skE
                  rw [b1, b2, b3, b4]
                (have gx := And.intro (@List.length_map.{0,0}) (And.intro (@hyk) (And.intro (@hL) (And.intro (@LocD.k.eq_1) (And.intro (@hn) (And.intro (@ha) (And.intro (@gs) (And.intro (@ShardD.k.eq_1) (And.intro (@ge) (And.intro (@SEdgeD.k.eq_1) (And.intro @hb Bool.not_false)))))))))); have q1 := cv; have gs := hq; refine go ?_; (repeat' first | exact Ef.mk | apply Lf.mk | refine fun (K : KT) hK hE hT => ?_ | refine fun (KS : KE) hKS => ?_ | refine fun (D : KD) hD => ?_ | refine fun (hg : (_ : Prop)) => ?_ | fail); all_goals (first | (refine Wr.mk ?_; (try clear gx q1 gs); repeat first | clear hK hE hT K | clear hR hE hT K) | assumption | skip))
                all_goals (refine post_a hres (.inl rfl) ?_; simp only [RSB, ENB, seval, tiAll, e1, e2]; simp only [MAB, seval]; refine ⟨rfl, rfl, ?_, ?_, ?_⟩ <;> (first | rfl | (simp [WKB, Nat.add_comm, e1, e2]; done) | (simp only [WKB, seval])))
              case pos =>
                have hs' := hs
                unfold skE at hs'
                simp only [SEdgeD.mk.injEq] at hs'
                obtain ⟨s1, s2, s3, s4, _⟩ := hs'
                have hb : (y.Edge.From == e0.From && y.Edge.To == e0.To && y.Edge.W == e0.W && y.Edge.Index == e0.Index) = true := by
                  simp [s1, s2, s3, s4]
                have es : ((L[n]).Edges.map SEdgeD.k).set a [.v (.int .i64 e0.From), .v (.int .i64 e0.To), .v (.int .i64 e0.W), .v (.int .i64 e0.Index), .v (.int .i64 y.Edge.Val)] = ((L[n]).Edges.map SEdgeD.k).set a (SEdgeD.k y.Edge) := by
                  rw [s1, s2, s3, s4]; rfl
                have hset := pt_set (T := 112) hn ha hnL
                rw [← hstep] at hset
                have hmod := modify_set' (L.map (ShardD.k 112)) n (by simpa using hnL)
                (have gx := And.intro (@List.length_map.{0,0}) (And.intro (@hyk) (And.intro (@hL) (And.intro (@LocD.k.eq_1) (And.intro (@hn) (And.intro (@ha) (And.intro (@gs) (And.intro (@ShardD.k.eq_1) (And.intro (@ge) (And.intro (@SEdgeD.k.eq_1) (And.intro @hb Bool.not_true)))))))))); have q1 := cv; have gs := hq; refine go ?_; (repeat' first | exact Ef.mk | apply Lf.mk | refine fun (K : KT) hK hE hT => ?_ | refine fun (KS : KE) hKS => ?_ | refine fun (D : KD) hD => ?_ | refine fun (hg : (_ : Prop)) => ?_ | fail); all_goals (first | (refine Wr.mk ?_; (try clear gx q1 gs); repeat first | clear hK hE hT K | clear hR hE hT K) | assumption | skip))
                refine hR.out ⟨k + 1, by omega, ⟨hyes (hkf.2 ⟨hv.1, hv.2, hs⟩)⟩⟩ _ _ _ (by simp only; omega) ?_
                (refine Wk.trans (wk_close (f := 7) (g := 10) rfl rfl (by decide) (by simp [es, hmod, gs, ShardD.k, List.length_map, List.length_set])) ?_; simp only [EVB, seval, set_modify, es, hmod, gs, ShardD.k, List.length_map, List.length_set])
                (refine wk_a ?_; simp only [MAB, seval]; refine ⟨rfl, rfl, (by decide), ?_, ?_⟩; all_goals (first | (simp only [WKB, seval, hset]; done) | (simp [WKB, seval, hset]; done) | simp only [WKB, seval]))

end Go.Proofs.YtfdhdkljpeohlaaGreat

namespace Go.Proofs.YtfdhdkljpeohlaaGreat
set_option linter.unusedSimpArgs false
set_option linter.unusedVariables false
set_option linter.defProp false
set_option maxRecDepth 20000
open Go.RowKit
attribute [local irreducible] lexD

end Go.Proofs.YtfdhdkljpeohlaaGreat

