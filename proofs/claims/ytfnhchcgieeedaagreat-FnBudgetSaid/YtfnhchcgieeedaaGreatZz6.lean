/-
  Texts FX4 MQB FI1 MFR FR1 FW6 in one. No conditions of its own.
-/
import Derived.Test.YtfnhchcgieeedaaGreatMWI
import Derived.Test.YtfnhchcgieeedaaGreatMKB
import Derived.Test.YtfnhchcgieeedaaGreatGO
import Derived.Test.YtfnhchcgieeedaaGreatMQA
import Derived.Test.YtfnhchcgieeedaaGreatZz2
import Derived.Laws.StructEq
import Derived.Test.YtfnhchcgieeedaaGreatZz4
import Derived.Test.YtfnhchcgieeedaaGreatZz5
import Derived.Test.YtfnhchcgieeedaaGreatMCT
namespace Go.Proofs.YtfnhchcgieeedaaGreat
set_option linter.unusedSimpArgs false
set_option linter.unusedVariables false
set_option linter.unusedSimpArgs false
set_option linter.unusedVariables false
set_option linter.defProp false
open Go.RowKit

theorem getD_of {α : Type} {l : List α} {k : Nat} {x d : α} (h : l[k]? = some x) : l.getD k d = x := by simp [List.getD, h]
theorem empty_bit {l : List UInt8} (h : emptyL l = true) (v : Nat) : bitAt l v = false := by
  unfold bitAt
  rw [decide_eq_false_iff_not]
  have : (l.getD (v / 8) 0).toNat = 0 := by
    by_cases hv : v / 8 < l.length
    · have hd : l.getD (v / 8) 0 = l[v / 8] := getD_of (List.getElem?_eq_getElem hv)
      have := List.all_eq_true.1 h l[v / 8] (List.getElem_mem hv)
      simp only [zeroB, decide_eq_true_eq] at this
      rw [hd]; exact this
    · have hd : l.getD (v / 8) 0 = 0 := by simp [List.getD, List.getElem?_eq_none (by omega : l.length ≤ v / 8)]
      rw [hd]; rfl
  rw [this]
  simp

theorem full_empty {n : Nat} (hn : n ≤ 150) (h : 0 < n) : emptyL (fullTo n n) = false := by
  cases he : emptyL (fullTo n n) with
  | false => rfl
  | true =>
    have h1 := empty_bit he 0
    rw [fullTo_bit n n (Nat.le_refl _)] at h1
    simp at h1
    omega

theorem riOk_eq {g : GraphD} {r : RunD} (h : runOk g r = true) (hi : r.Iter < 1000) : riOk g r = !r.Done := by
  unfold riOk
  rw [h, decide_eq_true hi]
  simp

theorem ra_ok {g : GraphD} {r : RunD} (h : runOk g r = true) : ∀ k : Nat, r.Iter + k ≤ 1000 → runOk g (raTo g r k) = true ∧ r.Iter ≤ (raTo g r k).Iter ∧ (raTo g r k).Iter ≤ r.Iter + k ∧ ((raTo g r k).Done = false → (raTo g r k).Iter = r.Iter + k)
  | 0, _ => ⟨h, Int.le_refl _, by simp [raTo], fun _ => by simp [raTo]⟩
  | k + 1, hk => by
    obtain ⟨h1, h2, h3, h4⟩ := ra_ok h k (by omega)
    have e := riOk_eq h1 (by omega)
    cases ho : riOk g (raTo g r k) with
    | true =>
      obtain ⟨a1, a2⟩ := ri_ok ho
      rw [ho] at e
      have hd : (raTo g r k).Done = false := by simpa using e
      have := h4 hd
      rw [raTo_yes ho]
      exact ⟨a1, by omega, by omega, fun _ => by omega⟩
    | false =>
      rw [ho] at e
      have hd : (raTo g r k).Done = true := by simpa using e
      rw [raTo_no ho 1]
      exact ⟨h1, h2, by omega, fun hf => by rw [hd] at hf; cases hf⟩

theorem ra_of {g : GraphD} {r : RunD} (h : runOk g r = true) (m : Nat) : raR g r (m : Int) = raTo g r m := by
  unfold raR
  rw [if_pos h, show max (m : Int) 0 = (m : Int) by omega, Int.toNat_natCast]

/-! Runs that begin. -/

theorem firstVal_ok {j : JobD} (v : Int) : valOk (firstVal j v) = true := by
  refine valOk_in ?_
  unfold firstVal
  split
  · omega
  · split
    · omega
    · split
      · omega
      · split <;> omega
theorem firstEdge_ok {j : JobD} (f t d : Int) : valOk (firstEdge j f t d) = true := by
  refine valOk_in ?_
  unfold firstEdge
  split
  · omega
  · rename_i hn
    split
    · have h1 : (0 : Int) ≤ 1048576 / d := Int.ediv_nonneg (by omega) (by omega)
      have h2 : (1048576 : Int) / d ≤ 1048576 := Int.ediv_le_self _ (by omega)
      omega
    · split
      · omega
      · split <;> omega

theorem runNew_ok {g : GraphD} {j : JobD} (hg : graphOk g = true) (hj : jobOk g.N j = true) : runOk g (runNew g j) = true := by
  obtain ⟨⟨g1, g2, _⟩, _⟩ := graphOk_out hg
  have e : runNew g j = ⟨j, 0, g.N == 0, fvTo j g.N.toNat, feTo j g.Edges g.Edges.length, ⟨g.N, newL g.N true⟩⟩ := by unfold runNew; rw [hg, hj]; rfl
  rw [e]
  obtain ⟨n, l⟩ := g
  dsimp only at *
  obtain ⟨m, rfl⟩ := Int.eq_ofNat_of_zero_le g1
  rw [newL_in (by omega)]
  simp only [if_true, Int.toNat_natCast]
  refine RunIn.ok ⟨hg, hj, by simp [fvTo_len], feTo_len j l l.length (Nat.le_refl _), ?_, ?_, fullTo_ok m m (by omega) (Nat.le_refl _), rfl⟩ ⟨Int.le_refl _, by show (0 : Int) ≤ 1000; omega⟩ ?_
  · rw [List.all_eq_true]
    intro z hz
    simp only [fvTo, List.mem_map] at hz
    obtain ⟨v, _, rfl⟩ := hz
    exact firstVal_ok _
  · rw [List.all_eq_true]
    intro z hz
    simp only [feTo, List.mem_map] at hz
    obtain ⟨v, _, rfl⟩ := hz
    exact firstEdge_ok _ _ _
  · show ((m : Int) == 0) = emptyL (fullTo m m)
    by_cases hm : m = 0
    · subst hm; rfl
    · rw [full_empty (by omega) (by omega), beq_eq_false_iff_ne]; omega

theorem runNew_it {g : GraphD} {j : JobD} : (runNew g j).Iter = 0 := by
  unfold runNew
  split <;> rfl

end Go.Proofs.YtfnhchcgieeedaaGreat


namespace Go.Proofs.YtfnhchcgieeedaaGreat
set_option linter.unusedSimpArgs false
set_option linter.unusedVariables false
set_option linter.unusedSimpArgs false
set_option linter.unusedVariables false
set_option linter.defProp false
set_option maxRecDepth 20000
open Go.RowKit
attribute [local irreducible] lexD

theorem eq_sedge : eqFive Tryz.prog 101 := by
  refine ⟨by kernel_rfl, fun a b c d e a' b' c' d' e' w => ?_⟩
  have u3 := Tryz.underlying3
  have hS : Tryz.prog.underlying 101 = some (.struct (Tryz.prog.fieldsOf 101)) := by kernel_rfl
  have hp : Tryz.prog.stoodInHeld 101 = false := by kernel_rfl
  rw [show (10000 : Nat) = 9999 + 1 from rfl, run_equalIn_agg w 9999 101 _ _ hS hp]
  simp only [Program.fieldsOf, Tryz.underlying101]
  go_simp
  by_cases h1 : a = a' <;> by_cases h2 : b = b' <;> by_cases h3 : c = c' <;> by_cases h4 : d = d' <;> by_cases h5 : e = e' <;> simp [h1, h2, h3, h4, h5]

/-- What of an edge does not change. -/
def skE (e : SEdgeD) : SEdgeD := { e with Val := 0 }
def skS (s : ShardD) : ShardD := ⟨s.Lo, s.Hi, s.Edges.map skE⟩
def ptS (x : LocD) (s : ShardD) : ShardD := ⟨s.Lo, s.Hi, s.Edges.set x.At.toNat x.Edge⟩
def ptL (l : List ShardD) (xs : List LocD) : List ShardD := xs.foldl (fun l x => l.modify x.Shard.toNat (ptS x)) l
/-- A place that can be written. -/
def ptOk (l : List ShardD) (x : LocD) : Prop := 0 ≤ x.Shard ∧ 0 ≤ x.At ∧ 0 ≤ x.Edge.Val ∧ x.Edge.Val ≤ 1099511627776 ∧ ∃ h : x.Shard.toNat < l.length, ∃ h2 : x.At.toNat < (l[x.Shard.toNat]).Edges.length, skE ((l[x.Shard.toNat]).Edges[x.At.toNat]) = skE x.Edge
theorem ptL_snoc (l : List ShardD) (xs : List LocD) (x : LocD) : ptL l (xs ++ [x]) = (ptL l xs).modify x.Shard.toNat (ptS x) := by
  unfold ptL; rw [List.foldl_append]; rfl
theorem ptOk_sk {l m : List ShardD} (h : l.map skS = m.map skS) {x : LocD} (hx : ptOk l x) : ptOk m x := by
  obtain ⟨h1, h2, h3, h4, h5, h6, h7⟩ := hx
  have hl : l.length = m.length := by have := congrArg List.length h; simpa using this
  have hs : skS (l[x.Shard.toNat]) = skS (m[x.Shard.toNat]'(by omega)) := by
    have := congrArg (fun l => l[x.Shard.toNat]?) h
    simp only [List.getElem?_map, List.getElem?_eq_getElem h5, List.getElem?_eq_getElem (show x.Shard.toNat < m.length by omega), Option.map_some, Option.some.injEq] at this
    exact this
  unfold skS at hs
  simp only [ShardD.mk.injEq] at hs
  have hel : (l[x.Shard.toNat]).Edges.length = (m[x.Shard.toNat]'(by omega)).Edges.length := by have := congrArg List.length hs.2.2; simpa using this
  refine ⟨h1, h2, h3, h4, by omega, by omega, ?_⟩
  have := congrArg (fun l => l[x.At.toNat]?) hs.2.2
  simp only [List.getElem?_map, List.getElem?_eq_getElem h6, List.getElem?_eq_getElem (show x.At.toNat < (m[x.Shard.toNat]'(by omega)).Edges.length by omega), Option.map_some, Option.some.injEq] at this
  rw [← this]; exact h7
theorem ptS_sk {l : List ShardD} {x : LocD} (hx : ptOk l x) : (l.modify x.Shard.toNat (ptS x)).map skS = l.map skS := by
  obtain ⟨_, _, _, _, h5, h6, h7⟩ := hx
  apply List.ext_getElem?
  intro j
  rw [List.getElem?_map, List.getElem?_map, List.getElem?_modify]
  by_cases hj : x.Shard.toNat = j
  · subst hj
    rw [List.getElem?_eq_getElem h5]
    show some (skS (if x.Shard.toNat = x.Shard.toNat then ptS x l[x.Shard.toNat] else l[x.Shard.toNat])) = some (skS l[x.Shard.toNat])
    rw [if_pos rfl]
    congr 1
    unfold ptS skS
    simp only [ShardD.mk.injEq, true_and]
    rw [List.map_set, ← h7]
    apply List.ext_getElem?
    intro i
    rw [List.getElem?_set]
    split
    · rename_i hi
      subst hi
      rw [if_pos (by simpa using h6), List.getElem?_map, List.getElem?_eq_getElem h6]; rfl
    · rfl
  · cases l[j]? with
    | none => rfl
    | some y => show some (skS (if x.Shard.toNat = j then ptS x y else y)) = some (skS y); rw [if_neg hj]
/-- All places up to k can be written. -/
def ptAll (l : List ShardD) (xs : List LocD) (k : Nat) : Prop := ∀ i (h : i < xs.length), i < k → ptOk l xs[i]
theorem ptAll_succ {l : List ShardD} {xs : List LocD} {k : Nat} (h : ptAll l xs k) (hk : k < xs.length) (hx : ptOk l xs[k]) : ptAll l xs (k + 1) := fun i hi hik => by
  by_cases e : i = k
  · subst e; exact hx
  · exact h i hi (by omega)
theorem ptL_sk {l : List ShardD} {xs : List LocD} : ∀ {k : Nat}, ptAll l xs k → k ≤ xs.length → (ptL l (xs.take k)).map skS = l.map skS
  | 0, _, _ => by simp [ptL]
  | k + 1, h, hk => by
    have ih := ptL_sk (k := k) (fun i hi hik => h i hi (by omega)) (by omega)
    rw [List.take_succ_eq_append_getElem (by omega), ptL_snoc, ptS_sk (ptOk_sk ih.symm (h k (by omega) (by omega)))]
    exact ih
theorem sk_len {l m : List ShardD} (h : l.map skS = m.map skS) : l.length = m.length := by have := congrArg List.length h; simpa using this
theorem sk_edges {l m : List ShardD} (h : l.map skS = m.map skS) {i : Nat} (hi : i < l.length) : skS l[i] = skS (m[i]'(by rw [← sk_len h]; exact hi)) := by
  have hl := sk_len h
  have := congrArg (fun l => l[i]?) h
  simp only [List.getElem?_map, List.getElem?_eq_getElem hi, List.getElem?_eq_getElem (show i < m.length by omega), Option.map_some, Option.some.injEq] at this
  exact this
theorem skS_len {s t : ShardD} (h : skS s = skS t) : s.Edges.length = t.Edges.length ∧ s.Lo = t.Lo ∧ s.Hi = t.Hi := by
  unfold skS at h
  simp only [ShardD.mk.injEq] at h
  refine ⟨?_, h.1, h.2.1⟩
  have := congrArg List.length h.2.2
  simpa using this

def PutOk (f : FarmD) (xs : List LocD) : Prop := FarmOk f ∧ ptAll f.Shards xs xs.length
noncomputable def puB (f : FarmD) (xs : List LocD) : Bool := pB (PutOk f xs)
noncomputable def puR (f : FarmD) (xs : List LocD) : FarmD := if pB (PutOk f xs) then ⟨f.N, f.Ends, ptL f.Shards xs⟩ else ⟨0, [], []⟩
theorem pu_no {f : FarmD} {xs : List LocD} (h : ¬ PutOk f xs) : puR f xs = ⟨0, [], []⟩ ∧ puB f xs = false := by
  unfold puR puB; rw [pB_f h]; exact ⟨rfl, rfl⟩
theorem pu_yes {f : FarmD} {xs : List LocD} (h : PutOk f xs) : puR f xs = ⟨f.N, f.Ends, ptL f.Shards xs⟩ ∧ puB f xs = true := by
  unfold puR puB; rw [pB_t h]; exact ⟨rfl, rfl⟩
theorem pt_no {f : FarmD} {xs : List LocD} {k : Nat} (hk : k < xs.length) (h : ¬ ptOk f.Shards xs[k]) : ¬ PutOk f xs := fun hp => h (hp.2 k hk hk)
theorem pt_set {T : Nat} {L : List ShardD} {y : LocD} {n a : Nat} (hn : y.Shard = (n : Int)) (ha : y.At = (a : Int)) (h : n < L.length) :
    (L.map (ShardD.k T)).set n [.v (.int .i64 (L[n]).Lo), .v (.int .i64 (L[n]).Hi), .sl T 5 (((L[n]).Edges.map SEdgeD.k).set a (SEdgeD.k y.Edge))] = (L.modify y.Shard.toNat (ptS y)).map (ShardD.k T) := by
  rw [hn, Int.toNat_natCast, modify_set' _ _ h, List.map_set]
  congr 1
  unfold ptS ShardD.k
  rw [ha, Int.toNat_natCast, List.map_set]

end Go.Proofs.YtfnhchcgieeedaaGreat

namespace Go.Proofs.YtfnhchcgieeedaaGreat
set_option linter.unusedSimpArgs false
set_option linter.unusedVariables false
set_option linter.defProp false
set_option maxRecDepth 20000
open Go.RowKit
attribute [local irreducible] lexD

set_option maxHeartbeats 16000000 in
theorem implPut_k (f : FarmD) (p lo hi rd : Int) (xs : List LocD) (h : (f.Ends).length ≤ 1048576 ∧ (f.Shards).length ≤ 1048576 ∧ (∀ s ∈ f.Shards, s.Edges.length ≤ 1048576)) (hx : xs.length ≤ 1048576) : FnOK Tryz.prog 60 ⟨3, [(0, some (.ro ((f.Ends).map intK))), (1, some (.ro ((f.Shards).map (ShardD.k 101)))), (2, some (.ro (xs.map LocD.k)))], [.agg [.v (.int .i64 f.N), .sl 0 1 0 (f.Ends).length, .sl 1 3 0 (f.Shards).length], .agg [.v (.int .i64 p), .v (.int .i64 lo), .v (.int .i64 hi), .sl 2 7 0 xs.length, .v (.int .i64 rd)]],
    .tup [.inr [.v (.int .i64 (puR f xs).N), .sl 3 1 0 ((puR f xs).Ends).length, .sl 4 3 0 ((puR f xs).Shards).length], .inl (.v (.bool (puB f xs)))], [(3, some (.row 3 (((puR f xs).Ends).map intK))), (4, some (.nst 97 (((puR f xs).Shards).map (ShardD.k 101)) none))], 5⟩ := by
  have co := implFarmOk_k f h
  have cc := copyFarm_k f h
  obtain ⟨h0, h1, h2⟩ := h
  by_cases hf : FarmOk f
  case neg =>
    obtain ⟨e1, e2⟩ := pu_no (f := f) (xs := xs) (fun h => hf h.1)
    rw [e1, e2]
    rw [pB_f hf] at co
    refine fnOK_of true mixed Tryz.func60 rfl (by rfl) (by rfl) ?_
    have hres := congrArg Array.toList Tryz.results60
    simp only [Tryz.ntmps60, BGB, seval]
    (have gx := @List.length_map.{0,0}; have q1 := co; refine go ?_; (repeat' first | exact Ef.mk | apply Lf.mk | refine fun (K : KT) hK hE hT => ?_ | refine fun (KS : KE) hKS => ?_ | refine fun (D : KD) hD => ?_ | refine fun (hg : (_ : Prop)) => ?_ | fail); all_goals (first | (refine Wr.mk ?_; (try clear gx q1); repeat first | clear hK hE hT K | clear hR hE hT K) | assumption | skip))
    all_goals (refine post_a hres (.inl rfl) ?_; simp only [RSB, ENB, seval, tiAll, true_and]; simp only [MAB, seval]; refine ⟨rfl, rfl, ?_, ?_, ?_⟩ <;> (first | rfl | (simp [WKB, Nat.add_comm, true_and]; done) | (simp only [WKB, seval])))
  case pos =>
    have hq := eq_sedge
    rw [pB_t hf] at co
    refine fnOK_of true mixed Tryz.func60 rfl (by rfl) (by rfl) ?_
    have hres := congrArg Array.toList Tryz.results60
    simp only [Tryz.ntmps60, BGB, seval]
    (have gx := @List.length_map.{0,0}; have q1 := co; have q2 := cc; refine go ?_; (repeat' first | exact Ef.mk | apply Lf.mk | refine fun (K : KT) hK hE hT => ?_ | refine fun (KS : KE) hKS => ?_ | refine fun (D : KD) hD => ?_ | refine fun (hg : (_ : Prop)) => ?_ | fail); all_goals (first | (refine Wr.mk ?_; (try clear gx q1 q2); repeat first | clear hK hE hT K | clear hR hE hT K) | assumption | skip))
    refine loop_v (X := {k : Nat // k ≤ xs.length ∧ Rnd (ptAll f.Shards xs k)}) [] (fun x => [(20, .c (.v (.int .i64 ((x.1 : Nat) : Int))))]) (fun x => [(0, some (.ro ((f.Ends).map intK))), (1, some (.ro ((f.Shards).map (ShardD.k 101)))), (2, some (.ro (xs.map LocD.k))), (3, some (.box 39 [.v (.int .i64 f.N), .sl 0 1 0 (f.Ends).length, .sl 1 3 0 (f.Shards).length])), (4, some (.box 116 [.v (.int .i64 p), .v (.int .i64 lo), .v (.int .i64 hi), .sl 2 7 0 xs.length, .v (.int .i64 rd)])), (5, some (.box 39 [.v (.int .i64 0), .nil, .nil])), (6, some (.row 3 (f.Ends.map intK))), (7, some (.nst 97 ((ptL f.Shards (xs.take x.1)).map (ShardD.k 101)) none)), (8, some (.box 39 [.v (.int .i64 f.N), .sl 6 1 0 (f.Ends).length, .sl 7 3 0 (f.Shards).length]))]) 9 (fun x => xs.length - x.1) ⟨0, by omega, ⟨fun i hi hik => absurd hik (by omega)⟩⟩ ?_
    simp only [KPB, seval]
    refine ⟨?_, ?_⟩
    · (refine wk_a ?_; simp only [MAB, seval]; refine ⟨rfl, rfl, (by decide), ?_, ?_⟩; all_goals (first | (simp only [WKB, seval, List.take_zero, ptL, List.foldl_nil]; done) | (simp [WKB, seval, List.take_zero, ptL, List.foldl_nil]; done) | simp only [WKB, seval]))
    · rintro ⟨k, hk, hal⟩ K hR hE hT
      have hsk := ptL_sk hal.out hk
      have hL := sk_len hsk
      rcases Nat.lt_or_ge k xs.length with hlt | hge
      case inr =>
        obtain rfl : k = xs.length := by omega
        obtain ⟨e1, e2⟩ := pu_yes (f := f) (xs := xs) ⟨hf, hal.out⟩
        rw [List.take_length] at *
        (have gx := @List.length_map.{0,0}; refine go ?_; (repeat' first | exact Ef.mk | apply Lf.mk | refine fun (K : KT) hK hE hT => ?_ | refine fun (KS : KE) hKS => ?_ | refine fun (D : KD) hD => ?_ | refine fun (hg : (_ : Prop)) => ?_ | fail); all_goals (first | (refine Wr.mk ?_; (try clear gx); repeat first | clear hK hE hT K | clear hR hE hT K) | assumption | skip))
        (refine post_a hres (.inl rfl) ?_; simp only [RSB, ENB, seval, tiAll, e1, e2, hL]; simp only [MAB, seval]; refine ⟨rfl, rfl, ?_, ?_, ?_⟩ <;> (first | rfl | (simp [WKB, Nat.add_comm, e1, e2, hL]; done) | (simp only [WKB, seval])))
      case inl =>
        obtain ⟨y, hy⟩ : ∃ y, y = xs[k] := ⟨_, rfl⟩
        have hstep : ptL f.Shards (xs.take (k + 1)) = (ptL f.Shards (xs.take k)).modify y.Shard.toNat (ptS y) := by rw [List.take_succ_eq_append_getElem hlt, ptL_snoc, hy]
        have hno : ¬ ptOk f.Shards y → puR f xs = ⟨0, [], []⟩ ∧ puB f xs = false := fun hn => pu_no (pt_no hlt (by rw [← hy]; exact hn))
        have hyes : ptOk f.Shards y → ptAll f.Shards xs (k + 1) := fun hn => ptAll_succ hal.out hlt (by rw [← hy]; exact hn)
        have hyk : (xs.map LocD.k)[k]'(by simpa using hlt) = LocD.k y := by rw [List.getElem_map, hy]
        obtain ⟨L, hLd⟩ : ∃ L, L = ptL f.Shards (xs.take k) := ⟨_, rfl⟩
        rw [← hLd] at hsk hL hstep
        simp only [← hLd]
        clear hLd
        by_cases hr : (0 ≤ y.Shard ∧ y.Shard < f.Shards.length) ∧ 0 ≤ y.At
        case neg =>
          obtain ⟨e1, e2⟩ := hno fun hp => hr ⟨⟨hp.1, by have := hp.2.2.2.2.1; omega⟩, hp.2.1⟩
          (have gx := And.intro (@List.length_map.{0,0}) (And.intro (@hyk) (And.intro @hL @LocD.k.eq_1)); refine go ?_; (repeat' first | exact Ef.mk | apply Lf.mk | refine fun (K : KT) hK hE hT => ?_ | refine fun (KS : KE) hKS => ?_ | refine fun (D : KD) hD => ?_ | refine fun (hg : (_ : Prop)) => ?_ | fail); all_goals (first | (refine Wr.mk ?_; (try clear gx); repeat first | clear hK hE hT K | clear hR hE hT K) | assumption | skip))
          all_goals first | exact (hr ⟨⟨by omega, by omega⟩, by omega⟩).elim | (refine post_a hres (.inl rfl) ?_; simp only [RSB, ENB, seval, tiAll, e1, e2]; simp only [MAB, seval]; refine ⟨rfl, rfl, ?_, ?_, ?_⟩ <;> (first | rfl | (simp [WKB, Nat.add_comm, e1, e2]; done) | (simp only [WKB, seval])))
        case pos =>
          obtain ⟨⟨r1, r2⟩, r3⟩ := hr
          obtain ⟨n, hn⟩ : ∃ n : Nat, y.Shard = (n : Int) := ⟨y.Shard.toNat, by omega⟩
          obtain ⟨a, ha⟩ : ∃ a : Nat, y.At = (a : Int) := ⟨y.At.toNat, by omega⟩
          have hnL : n < L.length := by omega
          have hnf : n < f.Shards.length := by omega
          have hke := sk_edges hsk hnL
          obtain ⟨hel, _, _⟩ := skS_len hke
          have cv := implisValue_k y.Edge.Val
          have gs : (L.map (ShardD.k 101))[n]'(by simpa using hnL) = ShardD.k 101 L[n] := List.getElem_map ..
          by_cases ha2 : a < (L[n]).Edges.length
          case neg =>
            have hnp : ¬ ptOk f.Shards y := fun hp => by
              obtain ⟨_, _, _, _, q5, q6, _⟩ := hp
              rw [show y.At.toNat = a by omega] at q6
              simp only [hn, Int.toNat_natCast] at q6
              omega
            obtain ⟨e1, e2⟩ := hno hnp
            (have gx := And.intro (@List.length_map.{0,0}) (And.intro (@hyk) (And.intro (@hL) (And.intro (@LocD.k.eq_1) (And.intro (@hn) (And.intro (@ha) (And.intro @gs @ShardD.k.eq_1)))))); refine go ?_; (repeat' first | exact Ef.mk | apply Lf.mk | refine fun (K : KT) hK hE hT => ?_ | refine fun (KS : KE) hKS => ?_ | refine fun (D : KD) hD => ?_ | refine fun (hg : (_ : Prop)) => ?_ | fail); all_goals (first | (refine Wr.mk ?_; (try clear gx); repeat first | clear hK hE hT K | clear hR hE hT K) | assumption | skip))
            all_goals first | (exfalso; omega) | (refine post_a hres (.inl rfl) ?_; simp only [RSB, ENB, seval, tiAll, e1, e2]; simp only [MAB, seval]; refine ⟨rfl, rfl, ?_, ?_, ?_⟩ <;> (first | rfl | (simp [WKB, Nat.add_comm, e1, e2]; done) | (simp only [WKB, seval])))
          case pos =>
            obtain ⟨e0, he0⟩ : ∃ e0, e0 = (L[n]).Edges[a] := ⟨_, rfl⟩
            have ge : ((L[n]).Edges.map SEdgeD.k)[a]'(by simpa using ha2) = SEdgeD.k e0 := by rw [List.getElem_map, he0]
            have hkf : ptOk f.Shards y ↔ 0 ≤ y.Edge.Val ∧ y.Edge.Val ≤ 1099511627776 ∧ skE e0 = skE y.Edge := by
              have hr1 : ptOk f.Shards y ↔ ptOk L y := ⟨ptOk_sk hsk.symm, ptOk_sk hsk⟩
              rw [hr1]
              constructor
              · rintro ⟨_, _, q3, q4, q5, q6, q7⟩
                simp only [hn, ha, Int.toNat_natCast] at q7
                exact ⟨q3, q4, by rw [he0]; exact q7⟩
              · rintro ⟨q3, q4, q7⟩
                refine ⟨by omega, by omega, q3, q4, ?_⟩
                simp only [hn, ha, Int.toNat_natCast]
                exact ⟨hnL, ha2, by rw [← he0]; exact q7⟩
            by_cases hv : 0 ≤ y.Edge.Val ∧ y.Edge.Val ≤ 1099511627776
            case neg =>
              obtain ⟨e1, e2⟩ := hno fun hp => hv ⟨(hkf.1 hp).1, (hkf.1 hp).2.1⟩
              rw [show valOk y.Edge.Val = false from decide_eq_false hv] at cv
              (have gx := And.intro (@List.length_map.{0,0}) (And.intro (@hyk) (And.intro (@hL) (And.intro (@LocD.k.eq_1) (And.intro (@hn) (And.intro (@ha) (And.intro @gs @ShardD.k.eq_1)))))); have q1 := cv; refine go ?_; (repeat' first | exact Ef.mk | apply Lf.mk | refine fun (K : KT) hK hE hT => ?_ | refine fun (KS : KE) hKS => ?_ | refine fun (D : KD) hD => ?_ | refine fun (hg : (_ : Prop)) => ?_ | fail); all_goals (first | (refine Wr.mk ?_; (try clear gx q1); repeat first | clear hK hE hT K | clear hR hE hT K) | assumption | skip))
              all_goals (refine post_a hres (.inl rfl) ?_; simp only [RSB, ENB, seval, tiAll, e1, e2]; simp only [MAB, seval]; refine ⟨rfl, rfl, ?_, ?_, ?_⟩ <;> (first | rfl | (simp [WKB, Nat.add_comm, e1, e2]; done) | (simp only [WKB, seval])))
            case pos =>
              rw [show valOk y.Edge.Val = true from decide_eq_true hv] at cv
              by_cases hs : skE e0 = skE y.Edge
              case neg =>
                obtain ⟨e1, e2⟩ := hno fun hp => hs (hkf.1 hp).2.2
                have hb : (y.Edge.From == e0.From && y.Edge.To == e0.To && y.Edge.W == e0.W && y.Edge.Index == e0.Index) = false := by
                  rw [Bool.eq_false_iff]
                  intro hb
                  apply hs
                  simp only [Bool.and_eq_true, beq_iff_eq] at hb
                  obtain ⟨⟨⟨b1, b2⟩, b3⟩, b4⟩ := hb
                  unfold skE
                  rw [b1, b2, b3, b4]
                (have gx := And.intro (@List.length_map.{0,0}) (And.intro (@hyk) (And.intro (@hL) (And.intro (@LocD.k.eq_1) (And.intro (@hn) (And.intro (@ha) (And.intro (@gs) (And.intro (@ShardD.k.eq_1) (And.intro (@ge) (And.intro (@SEdgeD.k.eq_1) (And.intro @hb Bool.not_false)))))))))); have q1 := cv; have gs := hq; refine go ?_; (repeat' first | exact Ef.mk | apply Lf.mk | refine fun (K : KT) hK hE hT => ?_ | refine fun (KS : KE) hKS => ?_ | refine fun (D : KD) hD => ?_ | refine fun (hg : (_ : Prop)) => ?_ | fail); all_goals (first | (refine Wr.mk ?_; (try clear gx q1 gs); repeat first | clear hK hE hT K | clear hR hE hT K) | assumption | skip))
                all_goals (refine post_a hres (.inl rfl) ?_; simp only [RSB, ENB, seval, tiAll, e1, e2]; simp only [MAB, seval]; refine ⟨rfl, rfl, ?_, ?_, ?_⟩ <;> (first | rfl | (simp [WKB, Nat.add_comm, e1, e2]; done) | (simp only [WKB, seval])))
              case pos =>
                have hs' := hs
                unfold skE at hs'
                simp only [SEdgeD.mk.injEq] at hs'
                obtain ⟨s1, s2, s3, s4, _⟩ := hs'
                have hb : (y.Edge.From == e0.From && y.Edge.To == e0.To && y.Edge.W == e0.W && y.Edge.Index == e0.Index) = true := by
                  simp [s1, s2, s3, s4]
                have es : ((L[n]).Edges.map SEdgeD.k).set a [.v (.int .i64 e0.From), .v (.int .i64 e0.To), .v (.int .i64 e0.W), .v (.int .i64 e0.Index), .v (.int .i64 y.Edge.Val)] = ((L[n]).Edges.map SEdgeD.k).set a (SEdgeD.k y.Edge) := by
                  rw [s1, s2, s3, s4]; rfl
                have hset := pt_set (T := 101) hn ha hnL
                rw [← hstep] at hset
                have hmod := modify_set' (L.map (ShardD.k 101)) n (by simpa using hnL)
                (have gx := And.intro (@List.length_map.{0,0}) (And.intro (@hyk) (And.intro (@hL) (And.intro (@LocD.k.eq_1) (And.intro (@hn) (And.intro (@ha) (And.intro (@gs) (And.intro (@ShardD.k.eq_1) (And.intro (@ge) (And.intro (@SEdgeD.k.eq_1) (And.intro @hb Bool.not_true)))))))))); have q1 := cv; have gs := hq; refine go ?_; (repeat' first | exact Ef.mk | apply Lf.mk | refine fun (K : KT) hK hE hT => ?_ | refine fun (KS : KE) hKS => ?_ | refine fun (D : KD) hD => ?_ | refine fun (hg : (_ : Prop)) => ?_ | fail); all_goals (first | (refine Wr.mk ?_; (try clear gx q1 gs); repeat first | clear hK hE hT K | clear hR hE hT K) | assumption | skip))
                refine hR.out ⟨k + 1, by omega, ⟨hyes (hkf.2 ⟨hv.1, hv.2, hs⟩)⟩⟩ _ _ _ (by simp only; omega) ?_
                (refine Wk.trans (wk_close (f := 7) (g := 10) rfl rfl (by decide) (by simp [es, hmod, gs, ShardD.k, List.length_map, List.length_set])) ?_; simp only [EVB, seval, set_modify, es, hmod, gs, ShardD.k, List.length_map, List.length_set])
                (refine wk_a ?_; simp only [MAB, seval]; refine ⟨rfl, rfl, (by decide), ?_, ?_⟩; all_goals (first | (simp only [WKB, seval, hset]; done) | (simp [WKB, seval, hset]; done) | simp only [WKB, seval]))

end Go.Proofs.YtfnhchcgieeedaaGreat

namespace Go.Proofs.YtfnhchcgieeedaaGreat
set_option linter.unusedSimpArgs false
set_option linter.unusedVariables false
set_option linter.defProp false
set_option maxRecDepth 20000
open Go.RowKit
attribute [local irreducible] lexD

end Go.Proofs.YtfnhchcgieeedaaGreat


namespace Go.Proofs.YtfnhchcgieeedaaGreat
set_option linter.unusedSimpArgs false
set_option linter.unusedVariables false
set_option linter.unusedSimpArgs false
set_option linter.unusedVariables false
set_option linter.defProp false
set_option maxRecDepth 20000
open Go.RowKit

theorem map_get {α β : Type} {f : α → β} {l m : List α} (h : l.map f = m.map f) {i : Nat} (hi : i < l.length) (hm : i < m.length) : f l[i] = f m[i] := by
  have := congrArg (fun l => l[i]?) h
  simp only [List.getElem?_map, List.getElem?_eq_getElem hi, List.getElem?_eq_getElem hm, Option.map_some, Option.some.injEq] at this
  exact this
theorem skE_out {e y : SEdgeD} (h : skE e = skE y) : e.From = y.From ∧ e.To = y.To ∧ e.W = y.W ∧ e.Index = y.Index := by
  unfold skE at h
  simp only [SEdgeD.mk.injEq] at h
  exact ⟨h.1, h.2.1, h.2.2.1, h.2.2.2.1⟩
theorem sk_sum : ∀ {l m : List ShardD}, l.map skS = m.map skS → edSum l = edSum m
  | [], [], _ => rfl
  | [], _ :: _, h => by simp at h
  | _ :: _, [], h => by simp at h
  | s :: l, t :: m, h => by
    simp only [List.map_cons, List.cons.injEq] at h
    show s.Edges.length + edSum l = t.Edges.length + edSum m
    rw [sk_sum h.2, (skS_len h.1).1]
theorem sk_allE : ∀ {l m : List ShardD}, l.map skS = m.map skS → (allE l).map skE = (allE m).map skE
  | [], [], _ => rfl
  | [], _ :: _, h => by simp at h
  | _ :: _, [], h => by simp at h
  | s :: l, t :: m, h => by
    simp only [List.map_cons, List.cons.injEq] at h
    have ih := sk_allE h.2
    have h1 := h.1
    unfold skS at h1
    simp only [ShardD.mk.injEq] at h1
    unfold allE at ih ⊢
    rw [List.flatMap_cons, List.flatMap_cons, List.map_append, List.map_append, ih, h1.2.2]
theorem sk_hi {l m : List ShardD} (h : l.map skS = m.map skS) (k : Nat) : lastH l k = lastH m k := by
  have e : l.map (·.Hi) = m.map (·.Hi) := by
    have := congrArg (List.map (·.Hi)) h
    simpa [List.map_map, Function.comp_def, skS] using this
  unfold lastH; rw [e]
def valsIn (l : List ShardD) : Prop := ∀ s ∈ l, ∀ e ∈ s.Edges, 0 ≤ e.Val ∧ e.Val ≤ 1099511627776
theorem sk_sh {s t : ShardD} (h : skS s = skS t) (ht : ShOk t) (hv : ∀ e ∈ s.Edges, 0 ≤ e.Val ∧ e.Val ≤ 1099511627776) : ShOk s := by
  obtain ⟨l1, l2, l3⟩ := skS_len h
  have he : s.Edges.map skE = t.Edges.map skE := by unfold skS at h; simp only [ShardD.mk.injEq] at h; exact h.2.2
  obtain ⟨h1, h2⟩ := ht
  refine ⟨?_, fun i hi _ => ?_⟩
  · unfold shHead at h1 ⊢; rw [l1, l2, l3]; exact h1
  · obtain ⟨q1, q2⟩ := h2 i (by omega) (by omega)
    obtain ⟨a1, a2, a3, a4⟩ := skE_out (map_get he hi (by omega))
    have hvi := hv _ (List.getElem_mem hi)
    constructor
    · unfold edOk at q1 ⊢
      rw [a1, a2, a3, a4, l2, l3]
      omega
    · intro h0
      have q3 : ordOk (t.Edges[i - 1]'(by omega)) (t.Edges[i]'(by omega)) := q2 h0
      obtain ⟨b1, b2, b3, b4⟩ := skE_out (map_get he (i := i - 1) (by omega) (by omega))
      unfold ordOk at q3 ⊢
      rw [b1, b4, a1, a4]
      exact q3
theorem okL_sk {n : Int} {m : Nat} {L M : List SEdgeD} (h : L.map skE = M.map skE) (ho : okL n m M) : okL n m L := by
  have hl : L.length = M.length := by have := congrArg List.length h; simpa using this
  intro i hi
  obtain ⟨q1, q2⟩ := ho i (by omega)
  obtain ⟨a1, a2, a3, a4⟩ := skE_out (map_get h hi (by omega))
  rw [a1, a4]
  refine ⟨q1, fun j hj => ?_⟩
  obtain ⟨b1, b2, b3, b4⟩ := skE_out (map_get h (i := j) (by omega) (by omega))
  rw [b4]; exact q2 j hj
theorem farm_sk {f : FarmD} {l : List ShardD} (h : FarmOk f) (hs : l.map skS = f.Shards.map skS) (hv : valsIn l) : FarmOk ⟨f.N, f.Ends, l⟩ := by
  obtain ⟨h1, h2, h3, h4⟩ := h
  have hl := sk_len hs
  obtain ⟨j1, j2, j3, j4, j5, j6⟩ := h4
  refine ⟨h1, by dsimp only; omega, fun i hi _ => ?_, j1, j2, fun i hi _ => ?_, ?_, ?_, ?_⟩
  · dsimp only at hi ⊢
    obtain ⟨a, b, c⟩ := h3 i (by omega) (by omega)
    obtain ⟨_, l2, l3⟩ := skS_len (sk_edges hs hi)
    exact ⟨by rw [l2]; exact a, fun h => by rw [l3]; exact b h, fun y hy => (hv _ (List.getElem_mem hi) y hy).2⟩
  · dsimp only at hi ⊢
    obtain ⟨a, b⟩ := j3 i (by omega) (by omega)
    obtain ⟨_, l2, l3⟩ := skS_len (sk_edges hs hi)
    exact ⟨sk_sh (sk_edges hs hi) a (hv _ (List.getElem_mem hi)), by rw [l2, sk_hi hs]; exact b⟩
  · dsimp only
    rw [hl, sk_hi hs]; exact j4
  · dsimp only
    rw [sk_sum hs]; exact j5
  · dsimp only
    rw [sk_sum hs]; exact okL_sk (sk_allE hs) j6
theorem farm_vals {f : FarmD} (h : FarmOk f) : valsIn f.Shards := fun s hs e he => by
  obtain ⟨i, hi, rfl⟩ := List.getElem_of_mem hs
  obtain ⟨k, hk, rfl⟩ := List.getElem_of_mem he
  have a := (h.2.2.1 i hi hi).2.2 _ (List.getElem_mem hk)
  have b := ((h.2.2.2.2.2.1 i hi hi).1.2 k hk hk).1
  unfold edOk at b
  omega
theorem ptL_vals : ∀ {xs : List LocD} {l : List ShardD}, valsIn l → (∀ x ∈ xs, 0 ≤ x.Edge.Val ∧ x.Edge.Val ≤ 1099511627776) → valsIn (ptL l xs)
  | [], l, h, _ => h
  | x :: xs, l, h, hx => by
    refine ptL_vals (xs := xs) (l := l.modify x.Shard.toNat (ptS x)) (fun s hs e he => ?_) fun y hy => hx y (.tail _ hy)
    obtain ⟨i, hi, rfl⟩ := List.getElem_of_mem hs
    rw [List.getElem_modify] at he
    have hil : i < l.length := by simpa using hi
    split at he
    · rcases List.mem_or_eq_of_mem_set he with he | rfl
      · exact h _ (List.getElem_mem hil) e he
      · exact hx x (.head _)
    · exact h _ (List.getElem_mem hil) e he
theorem put_ok {f : FarmD} {xs : List LocD} (h : PutOk f xs) : FarmOk ⟨f.N, f.Ends, ptL f.Shards xs⟩ ∧ (ptL f.Shards xs).map skS = f.Shards.map skS := by
  have hs := ptL_sk h.2 (Nat.le_refl _)
  rw [List.take_length] at hs
  exact ⟨farm_sk h.1 hs (ptL_vals (farm_vals h.1) fun x hx => by
    obtain ⟨i, hi, rfl⟩ := List.getElem_of_mem hx
    have := h.2 i hi hi
    exact ⟨this.2.2.1, this.2.2.2.1⟩), hs⟩

/-- A place of a shard. -/
theorem plcAt_mem {k : Nat} {s : ShardD} {a n : Nat} (h : a + n ≤ s.Edges.length) {x : LocD} (hx : x ∈ plcAt k s a n) : x.Shard = (k : Int) ∧ ∃ i, ∃ hi : i < s.Edges.length, x.At = (i : Int) ∧ x.Edge = s.Edges[i] := by
  unfold plcAt at hx
  obtain ⟨i, hi, rfl⟩ := List.mem_map.1 hx
  rw [List.mem_range] at hi
  have h2 : a + i < s.Edges.length := by omega
  refine ⟨rfl, a + i, h2, rfl, ?_⟩
  dsimp only
  rw [List.getD_eq_getElem?_getD, List.getElem?_eq_getElem h2]; rfl
theorem locsTo_mem {l : List ShardD} {p : Nat} {lo hi : Int} (hlh : lo ≤ hi) {x : LocD} : ∀ {k : Nat}, k ≤ l.length → x ∈ locsTo l p lo hi k → ∃ n, ∃ hn : n < l.length, x.Shard = (n : Int) ∧ ∃ i, ∃ hi : i < l[n].Edges.length, x.At = (i : Int) ∧ x.Edge = l[n].Edges[i]
  | 0, _, h => by simp [locsTo] at h
  | k + 1, hk, h => by
    have hkl : k < l.length := hk
    rw [locsTo_succ hkl, List.mem_append] at h
    rcases h with h | h
    · exact locsTo_mem (l := l) hlh (by omega) h
    · have h1 := wi_le (p := p) (k := k) (s := l[k]) hlh
      have h2 := wiB_le (p := p) (k := k) (hi := hi) (s := l[k])
      obtain ⟨q1, q2⟩ := plcAt_mem (by omega) h
      exact ⟨k, hkl, q1, q2⟩
theorem sub_mem {f : FarmD} {p : Nat} {lo hi : Int} (hlh : lo ≤ hi) {x : LocD} (h : x ∈ (subO f p lo hi).Locs) : ∃ n, ∃ hn : n < f.Shards.length, x.Shard = (n : Int) ∧ ∃ i, ∃ hi : i < f.Shards[n].Edges.length, x.At = (i : Int) ∧ x.Edge = f.Shards[n].Edges[i] := by
  have h1 := (insAll_perm (locsTo f.Shards p lo hi f.Shards.length) []).subset h
  rw [List.append_nil] at h1
  exact locsTo_mem (l := f.Shards) hlh (Nat.le_refl _) h1
theorem sub_edge {f : FarmD} (hf : FarmOk f) {p : Nat} {lo hi : Int} (hlh : lo ≤ hi) {x : LocD} (h : x ∈ (subO f p lo hi).Locs) : (0 ≤ x.Edge.W ∧ x.Edge.W ≤ 1000) ∧ (0 ≤ x.Edge.Val ∧ x.Edge.Val ≤ 1099511627776) ∧ (0 ≤ x.Edge.From ∧ x.Edge.From < f.N) ∧ 0 ≤ x.Edge.To ∧ x.Edge.To < 150 := by
  obtain ⟨n, hn, _, i, hi, _, e⟩ := sub_mem hlh h
  have b := ((hf.2.2.2.2.2.1 n hn hn).1.2 i hi hi).1
  have c := farm_vals hf _ (List.getElem_mem hn) _ (List.getElem_mem hi)
  have d := hf.2.2.2.2.2.2.2.2
  have hm : f.Shards[n].Edges[i] ∈ allE f.Shards := by
    unfold allE
    exact List.mem_flatMap.2 ⟨_, List.getElem_mem hn, List.getElem_mem hi⟩
  obtain ⟨j, hj, ej⟩ := List.getElem_of_mem hm
  have := (d j hj).1
  have hh := (hf.2.2.2.2.2.1 n hn hn).1.1
  unfold shHead at hh
  rw [ej] at this
  unfold edOk at b
  rw [e]
  omega
/-- Places of a part, with other values, can be written. -/
theorem sub_put {f : FarmD} (hf : FarmOk f) {p : Nat} {lo hi : Int} (hlh : lo ≤ hi) {xs : List LocD} (hxs : ∀ x ∈ xs, (0 ≤ x.Edge.Val ∧ x.Edge.Val ≤ 1099511627776) ∧ ∃ y ∈ (subO f p lo hi).Locs, x.Shard = y.Shard ∧ x.At = y.At ∧ skE x.Edge = skE y.Edge) : PutOk f xs := by
  refine ⟨hf, fun k hk _ => ?_⟩
  obtain ⟨⟨v1, v2⟩, y, hy, a, b, c⟩ := hxs _ (List.getElem_mem hk)
  obtain ⟨n, hn, e1, i, hi, e2, e3⟩ := sub_mem hlh hy
  have s1 : xs[k].Shard.toNat = n := by omega
  have s2 : xs[k].At.toNat = i := by omega
  refine ⟨by omega, by omega, v1, v2, by omega, ?_⟩
  simp only [s1, s2]
  exact ⟨hi, by rw [← e3, c]⟩

theorem farm_L {f : FarmD} (h : FarmOk f) : f.Ends.length ≤ 1048576 ∧ f.Shards.length ≤ 1048576 ∧ ∀ s ∈ f.Shards, s.Edges.length ≤ 1048576 := by
  have g := gf_ok h
  have gl := g.l
  have ge := g.e
  refine ⟨by omega, by omega, fun s hs => ?_⟩
  obtain ⟨i, hi, rfl⟩ := List.getElem_of_mem hs
  have := (g.s i hi).1.2.2.2
  omega

end Go.Proofs.YtfnhchcgieeedaaGreat


namespace Go.Proofs.YtfnhchcgieeedaaGreat
set_option linter.unusedSimpArgs false
set_option linter.unusedVariables false
set_option linter.unusedSimpArgs false
set_option linter.unusedVariables false
set_option linter.defProp false
set_option maxRecDepth 20000
open Go.RowKit

theorem nodup_le {α : Type} [DecidableEq α] : ∀ {l m : List α}, l.Nodup → (∀ x ∈ l, x ∈ m) → l.length ≤ m.length
  | [], _, _, _ => Nat.zero_le _
  | a :: l, m, h, hs => by
    obtain ⟨h1, h2⟩ := List.nodup_cons.1 h
    have ha : a ∈ m := hs a (.head _)
    have := nodup_le (l := l) (m := m.erase a) h2 fun x hx => (List.mem_erase_of_ne (fun e => h1 (by rw [← e]; exact hx))).2 (hs x (.tail _ hx))
    rw [List.length_erase_of_mem ha] at this
    have := List.length_pos_of_mem ha
    simp only [List.length_cons]
    omega
/-- m different numbers below m are all of them. -/
theorem nodup_all {m : Nat} {l : List Nat} (h : l.Nodup) (hl : l.length = m) (hb : ∀ x ∈ l, x < m) : ∀ i, i < m → i ∈ l := fun i hi => by
  by_cases hm : i ∈ l
  · exact hm
  · have h2 : (i :: l).Nodup := List.nodup_cons.2 ⟨hm, h⟩
    have := nodup_le (m := List.range m) h2 fun x hx => by
      rw [List.mem_range]
      rcases List.mem_cons.1 hx with rfl | hx
      · exact hi
      · exact hb x hx
    simp at this
    omega
theorem okL_all {n : Int} {m : Nat} {L : List SEdgeD} (h : okL n m L) (hl : L.length = m) : ∀ i, i < m → ∃ e ∈ L, e.Index = (i : Int) := fun i hi => by
  have h1 : (L.map (·.Index.toNat)).Nodup := by
    unfold List.Nodup
    rw [List.pairwise_iff_getElem]
    intro a b ha hb hab
    rw [List.getElem_map, List.getElem_map]
    have hb' : b < L.length := by simpa using hb
    have ha' : a < L.length := by omega
    have q1 := (h b hb').2 a hab
    have q2 := (h b hb').1.1
    have q3 := (h a ha').1.1
    omega
  obtain ⟨e, he, hei⟩ := List.mem_map.1 (nodup_all h1 (by simpa using hl) (fun x hx => by
    obtain ⟨e, he, rfl⟩ := List.mem_map.1 hx
    obtain ⟨j, hj, rfl⟩ := List.getElem_of_mem he
    have := (h j hj).1
    omega) i hi)
  obtain ⟨j, hj, rfl⟩ := List.getElem_of_mem he
  have := (h j hj).1.1
  exact ⟨_, he, by omega⟩
/-- The value of an edge stands at its index. -/
theorem valsL_get {n : Int} {m : Nat} : ∀ (L : List SEdgeD), okL n m L → ∀ e ∈ L, (valsL m L)[e.Index.toNat]? = some e.Val := by
  have key : ∀ (k : Nat) (L : List SEdgeD), L.length = k → okL n m L → ∀ e ∈ L, (valsL m L)[e.Index.toNat]? = some e.Val := by
    intro k
    induction k with
    | zero => intro L hl _ e he; rw [List.eq_nil_of_length_eq_zero hl] at he; cases he
    | succ k ih =>
      intro L hl ho e he
      obtain ⟨M, y, rfl⟩ : ∃ M y, L = M ++ [y] := ⟨L.dropLast, L.getLast (by intro h; rw [h] at hl; cases hl), (List.dropLast_concat_getLast _).symm⟩
      obtain ⟨q1, q2, q3⟩ := okL_snoc.1 ho
      rw [valsL_snoc, List.getElem?_set]
      have hlv := valsL_len m M
      rcases List.mem_append.1 he with he | he
      · have h2 := q3 e he
        have h3 := okL_nn q1 he
        rw [if_neg (by omega)]
        exact ih M (by simp at hl; omega) q1 e he
      · rw [List.mem_singleton] at he
        subst he
        rw [if_pos rfl, if_pos (by omega)]
  exact fun L => key L.length L rfl
theorem fv_get {f : FarmD} (h : FarmOk f) : ∀ e ∈ allE f.Shards, (fvL f)[e.Index.toNat]? = some e.Val := by
  have e0 : fvL f = valsL (edSum f.Shards) (allE f.Shards) := by unfold fvL; rw [pB_t h, if_pos rfl]
  rw [e0]
  exact valsL_get _ h.2.2.2.2.2.2.2.2
theorem fv_len {f : FarmD} (h : FarmOk f) : (fvL f).length = edSum f.Shards := by
  have e0 : fvL f = valsL (edSum f.Shards) (allE f.Shards) := by unfold fvL; rw [pB_t h, if_pos rfl]
  rw [e0, valsL_len]
theorem farm_all {f : FarmD} (h : FarmOk f) : ∀ i, i < edSum f.Shards → ∃ e ∈ allE f.Shards, e.Index = (i : Int) := okL_all h.2.2.2.2.2.2.2.2 (allE_len _)
/-- Farms with the same edges, of which each value is known, have these values. -/
theorem fv_by {f : FarmD} (h : FarmOk f) {vs : List Int} (hl : vs.length = edSum f.Shards) (hv : ∀ e ∈ allE f.Shards, vs[e.Index.toNat]? = some e.Val) : fvL f = vs := by
  have hfl := fv_len h
  apply List.ext_getElem?
  intro i
  rcases Nat.lt_or_ge i (edSum f.Shards) with hi | hi
  · obtain ⟨e, he, hei⟩ := farm_all h i hi
    have e1 := fv_get h e he
    have e2 := hv e he
    have : e.Index.toNat = i := by omega
    rw [this] at e1 e2
    rw [e1, e2]
  · rw [List.getElem?_eq_none (by omega), List.getElem?_eq_none (by omega)]
end Go.Proofs.YtfnhchcgieeedaaGreat

namespace Go.Proofs.YtfnhchcgieeedaaGreat
set_option linter.unusedSimpArgs false
set_option linter.unusedVariables false
set_option linter.defProp false
set_option maxRecDepth 20000
open Go.RowKit

theorem edgesL_get {n : Int} {m : Nat} : ∀ (L : List SEdgeD), okL n m L → ∀ e ∈ L, (edgesL m L)[e.Index.toNat]? = some ⟨e.From, e.To, e.W⟩ := by
  have key : ∀ (k : Nat) (L : List SEdgeD), L.length = k → okL n m L → ∀ e ∈ L, (edgesL m L)[e.Index.toNat]? = some ⟨e.From, e.To, e.W⟩ := by
    intro k
    induction k with
    | zero => intro L hl _ e he; rw [List.eq_nil_of_length_eq_zero hl] at he; cases he
    | succ k ih =>
      intro L hl ho e he
      obtain ⟨M, y, rfl⟩ : ∃ M y, L = M ++ [y] := ⟨L.dropLast, L.getLast (by intro h; rw [h] at hl; cases hl), (List.dropLast_concat_getLast _).symm⟩
      obtain ⟨q1, q2, q3⟩ := okL_snoc.1 ho
      rw [edgesL_snoc, List.getElem?_set]
      have hlv := edgesL_len m M
      rcases List.mem_append.1 he with he | he
      · have h2 := q3 e he
        have h3 := okL_nn q1 he
        rw [if_neg (by omega)]
        exact ih M (by simp at hl; omega) q1 e he
      · rw [List.mem_singleton] at he
        subst he
        rw [if_pos rfl, if_pos (by omega)]
  exact fun L => key L.length L rfl
theorem fg_eq {f : FarmD} (h : FarmOk f) : fgR f = ⟨f.N, edgesL (edSum f.Shards) (allE f.Shards)⟩ := by unfold fgR; rw [pB_t h, if_pos rfl]
theorem fgE_len {f : FarmD} (h : FarmOk f) : (fgR f).Edges.length = edSum f.Shards := by rw [fg_eq h]; exact edgesL_len _ _
theorem fg_get {f : FarmD} (h : FarmOk f) : ∀ e ∈ allE f.Shards, (fgR f).Edges[e.Index.toNat]? = some ⟨e.From, e.To, e.W⟩ := by
  rw [fg_eq h]
  exact edgesL_get _ h.2.2.2.2.2.2.2.2
theorem farm_idx {f : FarmD} (h : FarmOk f) {e : SEdgeD} (he : e ∈ allE f.Shards) : 0 ≤ e.Index ∧ e.Index.toNat < edSum f.Shards := by
  obtain ⟨j, hj, ej⟩ := List.getElem_of_mem he
  have := (h.2.2.2.2.2.2.2.2 j hj).1
  rw [ej] at this
  omega

end Go.Proofs.YtfnhchcgieeedaaGreat


namespace Go.Proofs.YtfnhchcgieeedaaGreat
set_option linter.unusedSimpArgs false
set_option linter.unusedVariables false
set_option linter.unusedSimpArgs false
set_option linter.unusedVariables false
set_option linter.defProp false
set_option maxRecDepth 20000
open Go.RowKit

/-! Farms that were given values. -/
theorem shW_sk (vals : List Int) (s : ShardD) : skS (shW vals s) = skS s := by
  unfold skS shW
  simp only [List.map_map]
  congr 1
theorem fw_farm {f : FarmD} {vals : List Int} (h : FwOk f vals) : FarmOk (fwR f vals) ∧ (fwR f vals).N = f.N ∧ (fwR f vals).Ends = f.Ends ∧ edSum (fwR f vals).Shards = edSum f.Shards ∧ fvL (fwR f vals) = vals := by
  obtain ⟨e, _⟩ := fw_yes h
  have hs : (f.Shards.map (shW vals)).map skS = f.Shards.map skS := by
    rw [List.map_map]
    exact List.map_congr_left fun s _ => shW_sk vals s
  have hidx : ∀ e ∈ allE f.Shards, 0 ≤ e.Index ∧ e.Index < vals.length := fun e he => by
    obtain ⟨j, hj, rfl⟩ := List.getElem_of_mem he
    have := (h.1.2.2.2.2.2.2.2.2 j hj).1
    rw [h.2.1]
    omega
  have hval : ∀ e ∈ allE f.Shards, vals[e.Index.toNat]? = some (withV vals e).Val ∧ 0 ≤ (withV vals e).Val ∧ (withV vals e).Val ≤ 1099511627776 := fun e he => by
    obtain ⟨a, b⟩ := hidx e he
    have hlt : e.Index.toNat < vals.length := by omega
    have e1 : (withV vals e).Val = vals[e.Index.toNat] := by
      unfold withV
      dsimp only
      rw [List.getD_eq_getElem?_getD, List.getElem?_eq_getElem hlt]; rfl
    rw [e1, List.getElem?_eq_getElem hlt]
    refine ⟨rfl, ?_⟩
    have := List.all_eq_true.1 h.2.2 _ (List.getElem_mem hlt)
    unfold valOk at this
    simpa using this
  have hvi : valsIn (f.Shards.map (shW vals)) := fun s hs e he => by
    obtain ⟨t, ht, rfl⟩ := List.mem_map.1 hs
    unfold shW at he
    obtain ⟨u, hu, rfl⟩ := List.mem_map.1 he
    exact (hval u (by unfold allE; exact List.mem_flatMap.2 ⟨t, ht, hu⟩)).2
  have hf := farm_sk h.1 hs hvi
  have hsum := sk_sum hs
  rw [e]
  refine ⟨hf, rfl, rfl, hsum, fv_by hf (by dsimp only; rw [hsum]; exact h.2.1) fun x hx => ?_⟩
  dsimp only at hx
  unfold allE at hx
  obtain ⟨s, hs, hx⟩ := List.mem_flatMap.1 hx
  obtain ⟨t, ht, rfl⟩ := List.mem_map.1 hs
  unfold shW at hx
  obtain ⟨u, hu, rfl⟩ := List.mem_map.1 hx
  have hu2 : u ∈ allE f.Shards := by unfold allE; exact List.mem_flatMap.2 ⟨t, ht, hu⟩
  exact (hval u hu2).1

/-! A part that is put back unchanged. -/
end Go.Proofs.YtfnhchcgieeedaaGreat


namespace Go.Proofs.YtfnhchcgieeedaaGreat
set_option linter.unusedSimpArgs false
set_option linter.unusedVariables false
set_option linter.unusedSimpArgs false
set_option linter.unusedVariables false
set_option linter.defProp false
set_option maxRecDepth 20000
open Go.RowKit

theorem fgO_eq {g : GraphD} {b : Int} (h : cutOk g b = true) {size : Nat} (hs : 0 < size) : fgR (farmO g b size) = g := by
  obtain ⟨hf, hsum⟩ := farmO_ok h hs
  obtain ⟨hg, _, _⟩ := cutOk_out h
  have he := cut_ends h
  have hperm := shL_all hg he hs
  have e0 := fg_eq hf
  have hl := fgE_len hf
  rw [hsum] at hl
  have hN : (fgR (farmO g b size)).N = g.N := by rw [e0]; rfl
  have hE : (fgR (farmO g b size)).Edges = g.Edges := by
    apply List.ext_getElem hl
    intro i h1 h2
    obtain ⟨e, hm, hei⟩ := farm_all hf i (by rw [hsum]; exact h2)
    have hget := fg_get hf e hm
    have hm2 : e ∈ allE (shL g (cutL g b) (srtG g (cutL g b) size)) := hm
    obtain ⟨k, hk, rfl⟩ := List.mem_map.1 (hperm.subset hm2)
    rw [List.mem_range] at hk
    have es : seOf g (rcAt g (cutL g b) k) = ⟨g.Edges[k].From, g.Edges[k].To, g.Edges[k].W, (k : Int), 0⟩ := by
      have e : g.Edges.getD k edgeZ = g.Edges[k] := by rw [List.getD_eq_getElem?_getD, List.getElem?_eq_getElem hk]; rfl
      unfold seOf rcAt
      simp only [Int.toNat_natCast, e]
    rw [es] at hget hei
    dsimp only at hget hei
    obtain rfl : k = i := by omega
    rw [Int.toNat_natCast, List.getElem?_eq_getElem h1] at hget
    exact Option.some.inj hget
  generalize fgR (farmO g b size) = x at hN hE
  obtain ⟨n, l⟩ := x
  dsimp only at hN hE
  subst hN hE
  rfl
theorem fgM_eq {g : GraphD} {b size : Int} (h : fmOk g b size = true) : fgR (farmR g b size) = g ∧ FarmOk (farmR g b size) ∧ edSum (farmR g b size).Shards = g.Edges.length := by
  have e : farmR g b size = farmO g b size.toNat := by unfold farmR; rw [if_pos h]
  unfold fmOk at h
  rw [Bool.and_eq_true, decide_eq_true_eq] at h
  rw [e]
  exact ⟨fgO_eq h.1 (by omega), farmO_ok h.1 (by omega)⟩

end Go.Proofs.YtfnhchcgieeedaaGreat

