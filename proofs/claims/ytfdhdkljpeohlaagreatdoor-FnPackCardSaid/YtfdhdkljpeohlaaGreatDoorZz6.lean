/-
  Texts F9 FX4 MQB FI1 MFR FR1 FW6 VR1 GR1 GR4 VR0 GR2 in one. No conditions of its own.
-/
import Derived.Test.YtfdhdkljpeohlaaGreatDoorGO
import Derived.Test.YtfdhdkljpeohlaaGreatDoorF5
import Derived.Test.YtfdhdkljpeohlaaGreatDoorMWI
import Derived.Test.YtfdhdkljpeohlaaGreatDoorMKB
import Derived.Test.YtfdhdkljpeohlaaGreatDoorMQA
import Derived.Test.YtfdhdkljpeohlaaGreatDoorZz2
import Derived.Laws.StructEq
import Derived.Test.YtfdhdkljpeohlaaGreatDoorZz4
import Derived.Test.YtfdhdkljpeohlaaGreatDoorZz5
import Derived.Test.YtfdhdkljpeohlaaGreatDoorMCT
import Derived.Test.YtfdhdkljpeohlaaGreatDoorZz3
namespace Go.Proofs.YtfdhdkljpeohlaaGreatDoor
set_option linter.unusedSimpArgs false
set_option linter.unusedVariables false
set_option linter.unusedSimpArgs false
set_option linter.unusedVariables false
set_option linter.defProp false
set_option maxRecDepth 20000
open Go.RowKit
attribute [local irreducible] lexD

theorem txt_ls (l : List UInt8) : (txt l).toList = l := by
  rw [ByteArray.toList_eq]
  rfl

/-- A single frame of a kind: what a reader answers. -/
def foB (b : List UInt8) (k : Int) : Bool := decide (frC b = 0 ∧ frP b = (b.length : Int) ∧ frK b = k)
def foD (b : List UInt8) (k : Int) : List UInt8 := if foB b k then frD b else []
theorem frD_len (b : List UInt8) : (frD b).length ≤ 60000 := by
  unfold frD
  split
  · rename_i h
    obtain ⟨_, h3, _⟩ := fr_c0 h
    unfold fdL
    rw [List.length_take]
    have := h3.2.2.1
    omega
  · simp

set_option maxHeartbeats 8000000 in
theorem implFrameOnly_k (b : List UInt8) (k : Int) (hb : b.length ≤ 1048576) : FnOK Tryz.prog 28 ⟨1, [(0, some (.ro (b.map bytK)))], [.c (.sl 0 1 0 b.length), .c (.v (.int .i64 k))],
    .tup [.inl (.sl 1 1 0 (foD b k).length), .inl (.v (.bool (foB b k)))], [(1, some (.row 5 ((foD b k).map bytK)))], 2⟩ := by
  have c := implFrameRead_k b hb
  by_cases h : frC b = 0 ∧ frP b = (b.length : Int) ∧ frK b = k
  · have e1 : foB b k = true := decide_eq_true h
    have e2 : foD b k = frD b := by unfold foD; rw [e1]; rfl
    obtain ⟨h1, h2, h3⟩ := h
    rw [e1, e2]
    refine fnOK_of true mixed Tryz.func28 rfl (by rfl) (by rfl) ?_
    have hres := congrArg Array.toList Tryz.results28
    simp only [Tryz.ntmps28, BGB, seval]
    (have gx := And.intro (@List.length_map.{0,0}) (And.intro @List.getElem_map.{0,0} @bytK.eq_1); have q1 := c; refine go ?_; (repeat' first | exact Ef.mk | apply Lf.mk | refine fun (K : KT) hK hE hT => ?_ | refine fun (KS : KE) hKS => ?_ | refine fun (D : KD) hD => ?_ | refine fun (hg : (_ : Prop)) => ?_ | fail); all_goals (first | (refine Wr.mk ?_; (try clear gx q1); repeat first | clear hK hE hT K | clear hR hE hT K) | assumption | skip))
    all_goals (refine post_a hres (.inl rfl) ?_; simp only [RSB, ENB, seval, tiAll, true_and]; simp only [MAB, seval]; refine ⟨rfl, rfl, ?_, ?_, ?_⟩ <;> (first | rfl | (simp [WKB, Nat.add_comm, true_and]; done) | (simp only [WKB, seval])))
  · have e1 : foB b k = false := decide_eq_false h
    have e2 : foD b k = [] := by unfold foD; rw [e1]; rfl
    rw [e1, e2]
    refine fnOK_of true mixed Tryz.func28 rfl (by rfl) (by rfl) ?_
    have hres := congrArg Array.toList Tryz.results28
    simp only [Tryz.ntmps28, BGB, seval]
    (have gx := And.intro (@List.length_map.{0,0}) (And.intro @List.getElem_map.{0,0} @bytK.eq_1); have q1 := c; refine go ?_; (repeat' first | exact Ef.mk | apply Lf.mk | refine fun (K : KT) hK hE hT => ?_ | refine fun (KS : KE) hKS => ?_ | refine fun (D : KD) hD => ?_ | refine fun (hg : (_ : Prop)) => ?_ | fail); all_goals (first | (refine Wr.mk ?_; (try clear gx q1); repeat first | clear hK hE hT K | clear hR hE hT K) | assumption | skip))
    all_goals first | exact (h ⟨by omega, by omega, by omega⟩).elim | (refine post_a hres (.inl rfl) ?_; simp only [RSB, ENB, seval, tiAll, true_and]; simp only [MAB, seval]; refine ⟨rfl, rfl, ?_, ?_, ?_⟩ <;> (first | rfl | (simp [WKB, Nat.add_comm, true_and]; done) | (simp only [WKB, seval])))

end Go.Proofs.YtfdhdkljpeohlaaGreatDoor


namespace Go.Proofs.YtfdhdkljpeohlaaGreatDoor
set_option linter.unusedSimpArgs false
set_option linter.unusedVariables false
set_option linter.unusedSimpArgs false
set_option linter.unusedVariables false
set_option linter.defProp false
open Go.RowKit

theorem getD_of {α : Type} {l : List α} {k : Nat} {x d : α} (h : l[k]? = some x) : l.getD k d = x := by simp [List.getD, h]
theorem empty_bit {l : List UInt8} (h : emptyL l = true) (v : Nat) : bitAt l v = false := by
  unfold bitAt
  rw [decide_eq_false_iff_not]
  have : (l.getD (v / 8) 0).toNat = 0 := by
    by_cases hv : v / 8 < l.length
    · have hd : l.getD (v / 8) 0 = l[v / 8] := getD_of (List.getElem?_eq_getElem hv)
      have := List.all_eq_true.1 h l[v / 8] (List.getElem_mem hv)
      simp only [zeroB, decide_eq_true_eq] at this
      rw [hd]; exact this
    · have hd : l.getD (v / 8) 0 = 0 := by simp [List.getD, List.getElem?_eq_none (by omega : l.length ≤ v / 8)]
      rw [hd]; rfl
  rw [this]
  simp

theorem full_empty {n : Nat} (hn : n ≤ 150) (h : 0 < n) : emptyL (fullTo n n) = false := by
  cases he : emptyL (fullTo n n) with
  | false => rfl
  | true =>
    have h1 := empty_bit he 0
    rw [fullTo_bit n n (Nat.le_refl _)] at h1
    simp at h1
    omega

theorem riOk_eq {g : GraphD} {r : RunD} (h : runOk g r = true) (hi : r.Iter < 1000) : riOk g r = !r.Done := by
  unfold riOk
  rw [h, decide_eq_true hi]
  simp

theorem ra_ok {g : GraphD} {r : RunD} (h : runOk g r = true) : ∀ k : Nat, r.Iter + k ≤ 1000 → runOk g (raTo g r k) = true ∧ r.Iter ≤ (raTo g r k).Iter ∧ (raTo g r k).Iter ≤ r.Iter + k ∧ ((raTo g r k).Done = false → (raTo g r k).Iter = r.Iter + k)
  | 0, _ => ⟨h, Int.le_refl _, by simp [raTo], fun _ => by simp [raTo]⟩
  | k + 1, hk => by
    obtain ⟨h1, h2, h3, h4⟩ := ra_ok h k (by omega)
    have e := riOk_eq h1 (by omega)
    cases ho : riOk g (raTo g r k) with
    | true =>
      obtain ⟨a1, a2⟩ := ri_ok ho
      rw [ho] at e
      have hd : (raTo g r k).Done = false := by simpa using e
      have := h4 hd
      rw [raTo_yes ho]
      exact ⟨a1, by omega, by omega, fun _ => by omega⟩
    | false =>
      rw [ho] at e
      have hd : (raTo g r k).Done = true := by simpa using e
      rw [raTo_no ho 1]
      exact ⟨h1, h2, by omega, fun hf => by rw [hd] at hf; cases hf⟩

theorem ra_of {g : GraphD} {r : RunD} (h : runOk g r = true) (m : Nat) : raR g r (m : Int) = raTo g r m := by
  unfold raR
  rw [if_pos h, show max (m : Int) 0 = (m : Int) by omega, Int.toNat_natCast]

/-! Runs that begin. -/

theorem firstVal_ok {j : JobD} (v : Int) : valOk (firstVal j v) = true := by
  refine valOk_in ?_
  unfold firstVal
  split
  · omega
  · split
    · omega
    · split
      · omega
      · split <;> omega
theorem firstEdge_ok {j : JobD} (f t d : Int) : valOk (firstEdge j f t d) = true := by
  refine valOk_in ?_
  unfold firstEdge
  split
  · omega
  · rename_i hn
    split
    · have h1 : (0 : Int) ≤ 1048576 / d := Int.ediv_nonneg (by omega) (by omega)
      have h2 : (1048576 : Int) / d ≤ 1048576 := Int.ediv_le_self _ (by omega)
      omega
    · split
      · omega
      · split <;> omega

theorem runNew_ok {g : GraphD} {j : JobD} (hg : graphOk g = true) (hj : jobOk g.N j = true) : runOk g (runNew g j) = true := by
  obtain ⟨⟨g1, g2, _⟩, _⟩ := graphOk_out hg
  have e : runNew g j = ⟨j, 0, g.N == 0, fvTo j g.N.toNat, feTo j g.Edges g.Edges.length, ⟨g.N, newL g.N true⟩⟩ := by unfold runNew; rw [hg, hj]; rfl
  rw [e]
  obtain ⟨n, l⟩ := g
  dsimp only at *
  obtain ⟨m, rfl⟩ := Int.eq_ofNat_of_zero_le g1
  rw [newL_in (by omega)]
  simp only [if_true, Int.toNat_natCast]
  refine RunIn.ok ⟨hg, hj, by simp [fvTo_len], feTo_len j l l.length (Nat.le_refl _), ?_, ?_, fullTo_ok m m (by omega) (Nat.le_refl _), rfl⟩ ⟨Int.le_refl _, by show (0 : Int) ≤ 1000; omega⟩ ?_
  · rw [List.all_eq_true]
    intro z hz
    simp only [fvTo, List.mem_map] at hz
    obtain ⟨v, _, rfl⟩ := hz
    exact firstVal_ok _
  · rw [List.all_eq_true]
    intro z hz
    simp only [feTo, List.mem_map] at hz
    obtain ⟨v, _, rfl⟩ := hz
    exact firstEdge_ok _ _ _
  · show ((m : Int) == 0) = emptyL (fullTo m m)
    by_cases hm : m = 0
    · subst hm; rfl
    · rw [full_empty (by omega) (by omega), beq_eq_false_iff_ne]; omega

theorem runNew_it {g : GraphD} {j : JobD} : (runNew g j).Iter = 0 := by
  unfold runNew
  split <;> rfl

theorem ran_ok {g : GraphD} {j : JobD} (hg : graphOk g = true) (hj : jobOk g.N j = true) (m : Nat) (hm : m ≤ 4) : runOk g (raR g (runNew g j) (m : Int)) = true ∧ 0 ≤ (raR g (runNew g j) (m : Int)).Iter ∧ (raR g (runNew g j) (m : Int)).Iter ≤ 4 := by
  have h1 := runNew_ok hg hj
  have h2 := runNew_it (g := g) (j := j)
  rw [ra_of h1]
  obtain ⟨a1, a2, a3, _⟩ := ra_ok h1 m (by omega)
  exact ⟨a1, by omega, by omega⟩

end Go.Proofs.YtfdhdkljpeohlaaGreatDoor


namespace Go.Proofs.YtfdhdkljpeohlaaGreatDoor
set_option linter.unusedSimpArgs false
set_option linter.unusedVariables false
set_option linter.unusedSimpArgs false
set_option linter.unusedVariables false
set_option linter.defProp false
set_option maxRecDepth 20000
open Go.RowKit
attribute [local irreducible] lexD

/-- What of an edge does not change. -/
def skE (e : SEdgeD) : SEdgeD := { e with Val := 0 }
def skS (s : ShardD) : ShardD := ⟨s.Lo, s.Hi, s.Edges.map skE⟩
theorem sk_len {l m : List ShardD} (h : l.map skS = m.map skS) : l.length = m.length := by have := congrArg List.length h; simpa using this
theorem sk_edges {l m : List ShardD} (h : l.map skS = m.map skS) {i : Nat} (hi : i < l.length) : skS l[i] = skS (m[i]'(by rw [← sk_len h]; exact hi)) := by
  have hl := sk_len h
  have := congrArg (fun l => l[i]?) h
  simp only [List.getElem?_map, List.getElem?_eq_getElem hi, List.getElem?_eq_getElem (show i < m.length by omega), Option.map_some, Option.some.injEq] at this
  exact this
theorem skS_len {s t : ShardD} (h : skS s = skS t) : s.Edges.length = t.Edges.length ∧ s.Lo = t.Lo ∧ s.Hi = t.Hi := by
  unfold skS at h
  simp only [ShardD.mk.injEq] at h
  refine ⟨?_, h.1, h.2.1⟩
  have := congrArg List.length h.2.2
  simpa using this

end Go.Proofs.YtfdhdkljpeohlaaGreatDoor

namespace Go.Proofs.YtfdhdkljpeohlaaGreatDoor
set_option linter.unusedSimpArgs false
set_option linter.unusedVariables false
set_option linter.defProp false
set_option maxRecDepth 20000
open Go.RowKit
attribute [local irreducible] lexD

end Go.Proofs.YtfdhdkljpeohlaaGreatDoor

namespace Go.Proofs.YtfdhdkljpeohlaaGreatDoor
set_option linter.unusedSimpArgs false
set_option linter.unusedVariables false
set_option linter.defProp false
set_option maxRecDepth 20000
open Go.RowKit
attribute [local irreducible] lexD

end Go.Proofs.YtfdhdkljpeohlaaGreatDoor


namespace Go.Proofs.YtfdhdkljpeohlaaGreatDoor
set_option linter.unusedSimpArgs false
set_option linter.unusedVariables false
set_option linter.unusedSimpArgs false
set_option linter.unusedVariables false
set_option linter.defProp false
set_option maxRecDepth 20000
open Go.RowKit

theorem map_get {α β : Type} {f : α → β} {l m : List α} (h : l.map f = m.map f) {i : Nat} (hi : i < l.length) (hm : i < m.length) : f l[i] = f m[i] := by
  have := congrArg (fun l => l[i]?) h
  simp only [List.getElem?_map, List.getElem?_eq_getElem hi, List.getElem?_eq_getElem hm, Option.map_some, Option.some.injEq] at this
  exact this
theorem skE_out {e y : SEdgeD} (h : skE e = skE y) : e.From = y.From ∧ e.To = y.To ∧ e.W = y.W ∧ e.Index = y.Index := by
  unfold skE at h
  simp only [SEdgeD.mk.injEq] at h
  exact ⟨h.1, h.2.1, h.2.2.1, h.2.2.2.1⟩
theorem sk_sum : ∀ {l m : List ShardD}, l.map skS = m.map skS → edSum l = edSum m
  | [], [], _ => rfl
  | [], _ :: _, h => by simp at h
  | _ :: _, [], h => by simp at h
  | s :: l, t :: m, h => by
    simp only [List.map_cons, List.cons.injEq] at h
    show s.Edges.length + edSum l = t.Edges.length + edSum m
    rw [sk_sum h.2, (skS_len h.1).1]
theorem sk_allE : ∀ {l m : List ShardD}, l.map skS = m.map skS → (allE l).map skE = (allE m).map skE
  | [], [], _ => rfl
  | [], _ :: _, h => by simp at h
  | _ :: _, [], h => by simp at h
  | s :: l, t :: m, h => by
    simp only [List.map_cons, List.cons.injEq] at h
    have ih := sk_allE h.2
    have h1 := h.1
    unfold skS at h1
    simp only [ShardD.mk.injEq] at h1
    unfold allE at ih ⊢
    rw [List.flatMap_cons, List.flatMap_cons, List.map_append, List.map_append, ih, h1.2.2]
theorem sk_hi {l m : List ShardD} (h : l.map skS = m.map skS) (k : Nat) : lastH l k = lastH m k := by
  have e : l.map (·.Hi) = m.map (·.Hi) := by
    have := congrArg (List.map (·.Hi)) h
    simpa [List.map_map, Function.comp_def, skS] using this
  unfold lastH; rw [e]
def valsIn (l : List ShardD) : Prop := ∀ s ∈ l, ∀ e ∈ s.Edges, 0 ≤ e.Val ∧ e.Val ≤ 1099511627776
theorem sk_sh {s t : ShardD} (h : skS s = skS t) (ht : ShOk t) (hv : ∀ e ∈ s.Edges, 0 ≤ e.Val ∧ e.Val ≤ 1099511627776) : ShOk s := by
  obtain ⟨l1, l2, l3⟩ := skS_len h
  have he : s.Edges.map skE = t.Edges.map skE := by unfold skS at h; simp only [ShardD.mk.injEq] at h; exact h.2.2
  obtain ⟨h1, h2⟩ := ht
  refine ⟨?_, fun i hi _ => ?_⟩
  · unfold shHead at h1 ⊢; rw [l1, l2, l3]; exact h1
  · obtain ⟨q1, q2⟩ := h2 i (by omega) (by omega)
    obtain ⟨a1, a2, a3, a4⟩ := skE_out (map_get he hi (by omega))
    have hvi := hv _ (List.getElem_mem hi)
    constructor
    · unfold edOk at q1 ⊢
      rw [a1, a2, a3, a4, l2, l3]
      omega
    · intro h0
      have q3 : ordOk (t.Edges[i - 1]'(by omega)) (t.Edges[i]'(by omega)) := q2 h0
      obtain ⟨b1, b2, b3, b4⟩ := skE_out (map_get he (i := i - 1) (by omega) (by omega))
      unfold ordOk at q3 ⊢
      rw [b1, b4, a1, a4]
      exact q3
theorem okL_sk {n : Int} {m : Nat} {L M : List SEdgeD} (h : L.map skE = M.map skE) (ho : okL n m M) : okL n m L := by
  have hl : L.length = M.length := by have := congrArg List.length h; simpa using this
  intro i hi
  obtain ⟨q1, q2⟩ := ho i (by omega)
  obtain ⟨a1, a2, a3, a4⟩ := skE_out (map_get h hi (by omega))
  rw [a1, a4]
  refine ⟨q1, fun j hj => ?_⟩
  obtain ⟨b1, b2, b3, b4⟩ := skE_out (map_get h (i := j) (by omega) (by omega))
  rw [b4]; exact q2 j hj
theorem farm_sk {f : FarmD} {l : List ShardD} (h : FarmOk f) (hs : l.map skS = f.Shards.map skS) (hv : valsIn l) : FarmOk ⟨f.N, f.Ends, l⟩ := by
  obtain ⟨h1, h2, h3, h4⟩ := h
  have hl := sk_len hs
  obtain ⟨j1, j2, j3, j4, j5, j6⟩ := h4
  refine ⟨h1, by dsimp only; omega, fun i hi _ => ?_, j1, j2, fun i hi _ => ?_, ?_, ?_, ?_⟩
  · dsimp only at hi ⊢
    obtain ⟨a, b, c⟩ := h3 i (by omega) (by omega)
    obtain ⟨_, l2, l3⟩ := skS_len (sk_edges hs hi)
    exact ⟨by rw [l2]; exact a, fun h => by rw [l3]; exact b h, fun y hy => (hv _ (List.getElem_mem hi) y hy).2⟩
  · dsimp only at hi ⊢
    obtain ⟨a, b⟩ := j3 i (by omega) (by omega)
    obtain ⟨_, l2, l3⟩ := skS_len (sk_edges hs hi)
    exact ⟨sk_sh (sk_edges hs hi) a (hv _ (List.getElem_mem hi)), by rw [l2, sk_hi hs]; exact b⟩
  · dsimp only
    rw [hl, sk_hi hs]; exact j4
  · dsimp only
    rw [sk_sum hs]; exact j5
  · dsimp only
    rw [sk_sum hs]; exact okL_sk (sk_allE hs) j6
theorem farm_L {f : FarmD} (h : FarmOk f) : f.Ends.length ≤ 1048576 ∧ f.Shards.length ≤ 1048576 ∧ ∀ s ∈ f.Shards, s.Edges.length ≤ 1048576 := by
  have g := gf_ok h
  have gl := g.l
  have ge := g.e
  refine ⟨by omega, by omega, fun s hs => ?_⟩
  obtain ⟨i, hi, rfl⟩ := List.getElem_of_mem hs
  have := (g.s i hi).1.2.2.2
  omega

end Go.Proofs.YtfdhdkljpeohlaaGreatDoor


namespace Go.Proofs.YtfdhdkljpeohlaaGreatDoor
set_option linter.unusedSimpArgs false
set_option linter.unusedVariables false
set_option linter.unusedSimpArgs false
set_option linter.unusedVariables false
set_option linter.defProp false
set_option maxRecDepth 20000
open Go.RowKit

theorem nodup_le {α : Type} [DecidableEq α] : ∀ {l m : List α}, l.Nodup → (∀ x ∈ l, x ∈ m) → l.length ≤ m.length
  | [], _, _, _ => Nat.zero_le _
  | a :: l, m, h, hs => by
    obtain ⟨h1, h2⟩ := List.nodup_cons.1 h
    have ha : a ∈ m := hs a (.head _)
    have := nodup_le (l := l) (m := m.erase a) h2 fun x hx => (List.mem_erase_of_ne (fun e => h1 (by rw [← e]; exact hx))).2 (hs x (.tail _ hx))
    rw [List.length_erase_of_mem ha] at this
    have := List.length_pos_of_mem ha
    simp only [List.length_cons]
    omega
/-- m different numbers below m are all of them. -/
theorem nodup_all {m : Nat} {l : List Nat} (h : l.Nodup) (hl : l.length = m) (hb : ∀ x ∈ l, x < m) : ∀ i, i < m → i ∈ l := fun i hi => by
  by_cases hm : i ∈ l
  · exact hm
  · have h2 : (i :: l).Nodup := List.nodup_cons.2 ⟨hm, h⟩
    have := nodup_le (m := List.range m) h2 fun x hx => by
      rw [List.mem_range]
      rcases List.mem_cons.1 hx with rfl | hx
      · exact hi
      · exact hb x hx
    simp at this
    omega
theorem okL_all {n : Int} {m : Nat} {L : List SEdgeD} (h : okL n m L) (hl : L.length = m) : ∀ i, i < m → ∃ e ∈ L, e.Index = (i : Int) := fun i hi => by
  have h1 : (L.map (·.Index.toNat)).Nodup := by
    unfold List.Nodup
    rw [List.pairwise_iff_getElem]
    intro a b ha hb hab
    rw [List.getElem_map, List.getElem_map]
    have hb' : b < L.length := by simpa using hb
    have ha' : a < L.length := by omega
    have q1 := (h b hb').2 a hab
    have q2 := (h b hb').1.1
    have q3 := (h a ha').1.1
    omega
  obtain ⟨e, he, hei⟩ := List.mem_map.1 (nodup_all h1 (by simpa using hl) (fun x hx => by
    obtain ⟨e, he, rfl⟩ := List.mem_map.1 hx
    obtain ⟨j, hj, rfl⟩ := List.getElem_of_mem he
    have := (h j hj).1
    omega) i hi)
  obtain ⟨j, hj, rfl⟩ := List.getElem_of_mem he
  have := (h j hj).1.1
  exact ⟨_, he, by omega⟩
/-- The value of an edge stands at its index. -/
theorem valsL_get {n : Int} {m : Nat} : ∀ (L : List SEdgeD), okL n m L → ∀ e ∈ L, (valsL m L)[e.Index.toNat]? = some e.Val := by
  have key : ∀ (k : Nat) (L : List SEdgeD), L.length = k → okL n m L → ∀ e ∈ L, (valsL m L)[e.Index.toNat]? = some e.Val := by
    intro k
    induction k with
    | zero => intro L hl _ e he; rw [List.eq_nil_of_length_eq_zero hl] at he; cases he
    | succ k ih =>
      intro L hl ho e he
      obtain ⟨M, y, rfl⟩ : ∃ M y, L = M ++ [y] := ⟨L.dropLast, L.getLast (by intro h; rw [h] at hl; cases hl), (List.dropLast_concat_getLast _).symm⟩
      obtain ⟨q1, q2, q3⟩ := okL_snoc.1 ho
      rw [valsL_snoc, List.getElem?_set]
      have hlv := valsL_len m M
      rcases List.mem_append.1 he with he | he
      · have h2 := q3 e he
        have h3 := okL_nn q1 he
        rw [if_neg (by omega)]
        exact ih M (by simp at hl; omega) q1 e he
      · rw [List.mem_singleton] at he
        subst he
        rw [if_pos rfl, if_pos (by omega)]
  exact fun L => key L.length L rfl
theorem fv_get {f : FarmD} (h : FarmOk f) : ∀ e ∈ allE f.Shards, (fvL f)[e.Index.toNat]? = some e.Val := by
  have e0 : fvL f = valsL (edSum f.Shards) (allE f.Shards) := by unfold fvL; rw [pB_t h, if_pos rfl]
  rw [e0]
  exact valsL_get _ h.2.2.2.2.2.2.2.2
theorem fv_len {f : FarmD} (h : FarmOk f) : (fvL f).length = edSum f.Shards := by
  have e0 : fvL f = valsL (edSum f.Shards) (allE f.Shards) := by unfold fvL; rw [pB_t h, if_pos rfl]
  rw [e0, valsL_len]
theorem farm_all {f : FarmD} (h : FarmOk f) : ∀ i, i < edSum f.Shards → ∃ e ∈ allE f.Shards, e.Index = (i : Int) := okL_all h.2.2.2.2.2.2.2.2 (allE_len _)
/-- Farms with the same edges, of which each value is known, have these values. -/
theorem fv_by {f : FarmD} (h : FarmOk f) {vs : List Int} (hl : vs.length = edSum f.Shards) (hv : ∀ e ∈ allE f.Shards, vs[e.Index.toNat]? = some e.Val) : fvL f = vs := by
  have hfl := fv_len h
  apply List.ext_getElem?
  intro i
  rcases Nat.lt_or_ge i (edSum f.Shards) with hi | hi
  · obtain ⟨e, he, hei⟩ := farm_all h i hi
    have e1 := fv_get h e he
    have e2 := hv e he
    have : e.Index.toNat = i := by omega
    rw [this] at e1 e2
    rw [e1, e2]
  · rw [List.getElem?_eq_none (by omega), List.getElem?_eq_none (by omega)]
end Go.Proofs.YtfdhdkljpeohlaaGreatDoor

namespace Go.Proofs.YtfdhdkljpeohlaaGreatDoor
set_option linter.unusedSimpArgs false
set_option linter.unusedVariables false
set_option linter.defProp false
set_option maxRecDepth 20000
open Go.RowKit

theorem edgesL_get {n : Int} {m : Nat} : ∀ (L : List SEdgeD), okL n m L → ∀ e ∈ L, (edgesL m L)[e.Index.toNat]? = some ⟨e.From, e.To, e.W⟩ := by
  have key : ∀ (k : Nat) (L : List SEdgeD), L.length = k → okL n m L → ∀ e ∈ L, (edgesL m L)[e.Index.toNat]? = some ⟨e.From, e.To, e.W⟩ := by
    intro k
    induction k with
    | zero => intro L hl _ e he; rw [List.eq_nil_of_length_eq_zero hl] at he; cases he
    | succ k ih =>
      intro L hl ho e he
      obtain ⟨M, y, rfl⟩ : ∃ M y, L = M ++ [y] := ⟨L.dropLast, L.getLast (by intro h; rw [h] at hl; cases hl), (List.dropLast_concat_getLast _).symm⟩
      obtain ⟨q1, q2, q3⟩ := okL_snoc.1 ho
      rw [edgesL_snoc, List.getElem?_set]
      have hlv := edgesL_len m M
      rcases List.mem_append.1 he with he | he
      · have h2 := q3 e he
        have h3 := okL_nn q1 he
        rw [if_neg (by omega)]
        exact ih M (by simp at hl; omega) q1 e he
      · rw [List.mem_singleton] at he
        subst he
        rw [if_pos rfl, if_pos (by omega)]
  exact fun L => key L.length L rfl
theorem fg_eq {f : FarmD} (h : FarmOk f) : fgR f = ⟨f.N, edgesL (edSum f.Shards) (allE f.Shards)⟩ := by unfold fgR; rw [pB_t h, if_pos rfl]
theorem fgE_len {f : FarmD} (h : FarmOk f) : (fgR f).Edges.length = edSum f.Shards := by rw [fg_eq h]; exact edgesL_len _ _
theorem fg_get {f : FarmD} (h : FarmOk f) : ∀ e ∈ allE f.Shards, (fgR f).Edges[e.Index.toNat]? = some ⟨e.From, e.To, e.W⟩ := by
  rw [fg_eq h]
  exact edgesL_get _ h.2.2.2.2.2.2.2.2
end Go.Proofs.YtfdhdkljpeohlaaGreatDoor


namespace Go.Proofs.YtfdhdkljpeohlaaGreatDoor
set_option linter.unusedSimpArgs false
set_option linter.unusedVariables false
set_option linter.unusedSimpArgs false
set_option linter.unusedVariables false
set_option linter.defProp false
set_option maxRecDepth 20000
open Go.RowKit

/-! Farms that were given values. -/
theorem shW_sk (vals : List Int) (s : ShardD) : skS (shW vals s) = skS s := by
  unfold skS shW
  simp only [List.map_map]
  congr 1
theorem fw_farm {f : FarmD} {vals : List Int} (h : FwOk f vals) : FarmOk (fwR f vals) ∧ (fwR f vals).N = f.N ∧ (fwR f vals).Ends = f.Ends ∧ edSum (fwR f vals).Shards = edSum f.Shards ∧ fvL (fwR f vals) = vals := by
  obtain ⟨e, _⟩ := fw_yes h
  have hs : (f.Shards.map (shW vals)).map skS = f.Shards.map skS := by
    rw [List.map_map]
    exact List.map_congr_left fun s _ => shW_sk vals s
  have hidx : ∀ e ∈ allE f.Shards, 0 ≤ e.Index ∧ e.Index < vals.length := fun e he => by
    obtain ⟨j, hj, rfl⟩ := List.getElem_of_mem he
    have := (h.1.2.2.2.2.2.2.2.2 j hj).1
    rw [h.2.1]
    omega
  have hval : ∀ e ∈ allE f.Shards, vals[e.Index.toNat]? = some (withV vals e).Val ∧ 0 ≤ (withV vals e).Val ∧ (withV vals e).Val ≤ 1099511627776 := fun e he => by
    obtain ⟨a, b⟩ := hidx e he
    have hlt : e.Index.toNat < vals.length := by omega
    have e1 : (withV vals e).Val = vals[e.Index.toNat] := by
      unfold withV
      dsimp only
      rw [List.getD_eq_getElem?_getD, List.getElem?_eq_getElem hlt]; rfl
    rw [e1, List.getElem?_eq_getElem hlt]
    refine ⟨rfl, ?_⟩
    have := List.all_eq_true.1 h.2.2 _ (List.getElem_mem hlt)
    unfold valOk at this
    simpa using this
  have hvi : valsIn (f.Shards.map (shW vals)) := fun s hs e he => by
    obtain ⟨t, ht, rfl⟩ := List.mem_map.1 hs
    unfold shW at he
    obtain ⟨u, hu, rfl⟩ := List.mem_map.1 he
    exact (hval u (by unfold allE; exact List.mem_flatMap.2 ⟨t, ht, hu⟩)).2
  have hf := farm_sk h.1 hs hvi
  have hsum := sk_sum hs
  rw [e]
  refine ⟨hf, rfl, rfl, hsum, fv_by hf (by dsimp only; rw [hsum]; exact h.2.1) fun x hx => ?_⟩
  dsimp only at hx
  unfold allE at hx
  obtain ⟨s, hs, hx⟩ := List.mem_flatMap.1 hx
  obtain ⟨t, ht, rfl⟩ := List.mem_map.1 hs
  unfold shW at hx
  obtain ⟨u, hu, rfl⟩ := List.mem_map.1 hx
  have hu2 : u ∈ allE f.Shards := by unfold allE; exact List.mem_flatMap.2 ⟨t, ht, hu⟩
  exact (hval u hu2).1

/-! A part that is put back unchanged. -/
end Go.Proofs.YtfdhdkljpeohlaaGreatDoor


namespace Go.Proofs.YtfdhdkljpeohlaaGreatDoor
set_option linter.unusedSimpArgs false
set_option linter.unusedVariables false
set_option linter.unusedSimpArgs false
set_option linter.unusedVariables false
set_option linter.defProp false
set_option maxRecDepth 20000
open Go.RowKit

theorem fgO_eq {g : GraphD} {b : Int} (h : cutOk g b = true) {size : Nat} (hs : 0 < size) : fgR (farmO g b size) = g := by
  obtain ⟨hf, hsum⟩ := farmO_ok h hs
  obtain ⟨hg, _, _⟩ := cutOk_out h
  have he := cut_ends h
  have hperm := shL_all hg he hs
  have e0 := fg_eq hf
  have hl := fgE_len hf
  rw [hsum] at hl
  have hN : (fgR (farmO g b size)).N = g.N := by rw [e0]; rfl
  have hE : (fgR (farmO g b size)).Edges = g.Edges := by
    apply List.ext_getElem hl
    intro i h1 h2
    obtain ⟨e, hm, hei⟩ := farm_all hf i (by rw [hsum]; exact h2)
    have hget := fg_get hf e hm
    have hm2 : e ∈ allE (shL g (cutL g b) (srtG g (cutL g b) size)) := hm
    obtain ⟨k, hk, rfl⟩ := List.mem_map.1 (hperm.subset hm2)
    rw [List.mem_range] at hk
    have es : seOf g (rcAt g (cutL g b) k) = ⟨g.Edges[k].From, g.Edges[k].To, g.Edges[k].W, (k : Int), 0⟩ := by
      have e : g.Edges.getD k edgeZ = g.Edges[k] := by rw [List.getD_eq_getElem?_getD, List.getElem?_eq_getElem hk]; rfl
      unfold seOf rcAt
      simp only [Int.toNat_natCast, e]
    rw [es] at hget hei
    dsimp only at hget hei
    obtain rfl : k = i := by omega
    rw [Int.toNat_natCast, List.getElem?_eq_getElem h1] at hget
    exact Option.some.inj hget
  generalize fgR (farmO g b size) = x at hN hE
  obtain ⟨n, l⟩ := x
  dsimp only at hN hE
  subst hN hE
  rfl
theorem fgM_eq {g : GraphD} {b size : Int} (h : fmOk g b size = true) : fgR (farmR g b size) = g ∧ FarmOk (farmR g b size) ∧ edSum (farmR g b size).Shards = g.Edges.length := by
  have e : farmR g b size = farmO g b size.toNat := by unfold farmR; rw [if_pos h]
  unfold fmOk at h
  rw [Bool.and_eq_true, decide_eq_true_eq] at h
  rw [e]
  exact ⟨fgO_eq h.1 (by omega), farmO_ok h.1 (by omega)⟩

end Go.Proofs.YtfdhdkljpeohlaaGreatDoor


namespace Go.Proofs.YtfdhdkljpeohlaaGreatDoor
set_option linter.unusedSimpArgs false
set_option linter.unusedVariables false
set_option linter.unusedSimpArgs false
set_option linter.unusedVariables false
set_option linter.defProp false
open Go.RowKit

def fixS (b : List UInt8) (s : RdS) : RdS := if s.p + 6 ≤ b.length then ⟨s.p + 6, s.ok⟩ else ⟨s.p, false⟩
def fixV (b : List UInt8) (s : RdS) : Int := if s.p + 6 ≤ b.length then ((gf b s.p 6 : Nat) : Int) else 0
/-- What the program's list reads: the numbers, and where it stands. -/
def lsGo (b : List UInt8) : Nat → List Int → RdS → List Int × RdS
  | 0, l, s => (l, s)
  | m + 1, l, s => if s.ok then lsGo b m (l ++ [fixV b s]) (fixS b s) else (l, s)
def lsN (b : List UInt8) (s : RdS) : Nat := (gvN b s.p).toNat
def lsI (b : List UInt8) (s : RdS) : RdS := if 400 < lsN b s then ⟨(numS b s).p, false⟩ else numS b s
def lsR (b : List UInt8) (s : RdS) : List Int × RdS := lsGo b (lsN b s) [] (lsI b s)

theorem lsGo_bad {b : List UInt8} {m : Nat} {l : List Int} {s : RdS} (h : s.ok = false) : lsGo b m l s = (l, s) := by
  cases m with
  | zero => rfl
  | succ m => unfold lsGo; rw [h]; rfl
theorem lsGo_step {b : List UInt8} {m : Nat} {l : List Int} {s : RdS} (h : s.ok = true) : lsGo b (m + 1) l s = lsGo b m (l ++ [fixV b s]) (fixS b s) := by
  rw [lsGo.eq_2, h]; rfl
theorem fixS_le {b : List UInt8} {s : RdS} (h : s.p ≤ b.length) : (fixS b s).p ≤ b.length := by
  unfold fixS; split
  · assumption
  · exact h
theorem lsI_le {b : List UInt8} {s : RdS} (h : s.p ≤ b.length) : (lsI b s).p ≤ b.length := by
  have := numS_le h
  unfold lsI; split <;> exact this
theorem lsGo_le {b : List UInt8} : ∀ {m : Nat} {l : List Int} {s : RdS}, s.p ≤ b.length → (lsGo b m l s).2.p ≤ b.length
  | 0, _, _, h => h
  | m + 1, l, s, h => by
    unfold lsGo
    split
    · exact lsGo_le (fixS_le h)
    · exact h
theorem lsR_le {b : List UInt8} {s : RdS} (h : s.p ≤ b.length) : (lsR b s).2.p ≤ b.length := lsGo_le (lsI_le h)
theorem lsI_n {b : List UInt8} {s : RdS} (h : (lsI b s).ok = true) : lsN b s ≤ 400 := by
  unfold lsI at h
  split at h
  · cases h
  · omega
theorem lsGo_len {b : List UInt8} : ∀ {m : Nat} {l : List Int} {s : RdS}, (s.ok = true → l.length + m ≤ 400) → l.length ≤ 400 → (lsGo b m l s).1.length ≤ 400
  | 0, _, _, _, h => h
  | m + 1, l, s, h1, h2 => by
    unfold lsGo
    split
    · rename_i hs
      have := h1 hs
      exact lsGo_len (fun _ => by simp; omega) (by simp; omega)
    · exact h2
theorem lsR_len (b : List UInt8) (s : RdS) : (lsR b s).1.length ≤ 400 := lsGo_len (fun h => by have := lsI_n h; simpa using this) (by simp)
theorem gvN_max (b : List UInt8) (p : Nat) : 0 ≤ gvN b p ∧ gvN b p ≤ 281474976710655 := by
  cases h : gvK b p with
  | true => obtain ⟨n, k, _, e, _, _, h2, _⟩ := gv_facts h; omega
  | false =>
    have : gvO b p = none := by unfold gvK at h; cases h2 : gvO b p <;> simp_all
    rw [(gv_none this).1]; omega
theorem lsN_eq (b : List UInt8) (s : RdS) : gvN b s.p = ((lsN b s : Nat) : Int) := by
  have := gvN_max b s.p
  unfold lsN; omega
theorem lsN_max (b : List UInt8) (s : RdS) : lsN b s ≤ 281474976710655 := by
  have := gvN_max b s.p
  unfold lsN; omega

/-- The program's way through a file of values. -/
def vrS (D : List UInt8) (k : Bool) : Nat → RdS
  | 0 => ⟨0, k⟩
  | 1 => numS D ⟨0, k⟩
  | 2 => numS D (numS D ⟨0, k⟩)
  | 3 => numS D (numS D (numS D ⟨0, k⟩))
  | 4 => (lsR D (numS D (numS D (numS D ⟨0, k⟩)))).2
  | 5 => (lsR D (lsR D (numS D (numS D (numS D ⟨0, k⟩)))).2).2
  | _ => numS D (lsR D (lsR D (numS D (numS D (numS D ⟨0, k⟩)))).2).2
def vrV (D : List UInt8) (k : Bool) : ValuesD := ⟨⟨gvN D (vrS D k 0).p, gvN D (vrS D k 1).p⟩, gvN D (vrS D k 2).p, (lsR D (vrS D k 3)).1, (lsR D (vrS D k 4)).1, ⟨gvN D (vrS D k 5).p, D.drop (vrS D k 6).p⟩⟩
def vrC (b : List UInt8) : Bool := (vrS (foD b 2) (foB b 2) 6).ok
/-- What is read out of a file of values. -/
def vrB (b : List UInt8) : Bool := vrC b && (vfB (vrV (foD b 2) (foB b 2)) && decide (vfR (vrV (foD b 2) (foB b 2)) = b))
def vrR (b : List UInt8) : ValuesD := if vrB b then vrV (foD b 2) (foB b 2) else ⟨⟨0, 0⟩, 0, [], [], ⟨0, []⟩⟩
theorem vr_no {b : List UInt8} (h : vrB b = false) : vrR b = ⟨⟨0, 0⟩, 0, [], [], ⟨0, []⟩⟩ := by unfold vrR; rw [h]; rfl
theorem vr_yes {b : List UInt8} (h : vrB b = true) : vrR b = vrV (foD b 2) (foB b 2) := by unfold vrR; rw [h]; rfl
theorem foD_len (b : List UInt8) (k : Int) : (foD b k).length ≤ 60000 := by
  unfold foD; split
  · exact frD_len b
  · simp

end Go.Proofs.YtfdhdkljpeohlaaGreatDoor


namespace Go.Proofs.YtfdhdkljpeohlaaGreatDoor
set_option linter.unusedSimpArgs false
set_option linter.unusedVariables false
set_option linter.unusedSimpArgs false
set_option linter.unusedVariables false
set_option linter.defProp false
open Go.RowKit

def uz (n : Int) : Int := if n % 2 = 0 then n / 2 else -(n / 2) - 1
theorem uz_zig {n : Nat} : zigN (uz (n : Int)) = n := by
  unfold uz
  split
  · rename_i h
    unfold zigN; rw [if_pos (by omega)]; omega
  · rename_i h
    unfold zigN; rw [if_neg (by omega)]; omega
theorem uz_bd {n : Int} (h : 0 ≤ n ∧ n ≤ 281474976710655) : -281474976710656 ≤ uz n ∧ uz n ≤ 281474976710656 := by
  unfold uz; split <;> omega
theorem uz_zero : uz 0 = 0 := rfl

/-- The bytes from p to q. -/
def AtB (b : List UInt8) (p q : Nat) (l : List UInt8) : Prop := p ≤ q ∧ q ≤ b.length ∧ (b.drop p).take (q - p) = l
theorem AtB.nil {b : List UInt8} {p : Nat} (h : p ≤ b.length) : AtB b p p [] := ⟨Nat.le_refl _, h, by simp⟩
theorem AtB.trans {b : List UInt8} {p q r : Nat} {l m : List UInt8} (h : AtB b p q l) (k : AtB b q r m) : AtB b p r (l ++ m) := by
  obtain ⟨h1, h2, h3⟩ := h
  obtain ⟨k1, k2, k3⟩ := k
  refine ⟨by omega, k2, ?_⟩
  rw [show r - p = (q - p) + (r - q) by omega, List.take_add, h3, List.drop_drop, show p + (q - p) = q by omega, k3]

theorem nm_both {b : List UInt8} {s : RdS} (ho : s.ok = true) : ((numS b s).ok = false ∧ (varS b s).ok = false) ∨ (∃ n q : Nat, numS b s = ⟨q, true⟩ ∧ varS b s = ⟨q, true⟩ ∧ gvN b s.p = n ∧ varN b s = n ∧ n ≤ 281474976710655 ∧ s.p + 1 ≤ q ∧ AtB b s.p q (varB n)) := by
  obtain ⟨p, o⟩ := s
  dsimp only at ho
  subst ho
  cases hk : gvK b p with
  | false =>
    refine .inl ⟨?_, ?_⟩
    · unfold numS; rw [hk]; rfl
    · unfold varS; rw [hk]; rfl
  | true =>
    obtain ⟨n, m, _, e1, e2, hle, hn, hv⟩ := gv_facts hk
    have e3 : numS b ⟨p, true⟩ = ⟨p + m, true⟩ := by unfold numS; rw [hk, e2]; rfl
    have e4 : varS b ⟨p, true⟩ = ⟨p + m, true⟩ := by unfold varS; rw [hk, e2]; rfl
    have e5 : varN b ⟨p, true⟩ = gvN b p := by unfold varN; rw [hk]; rfl
    have hm : 1 ≤ m := by
      rcases Nat.eq_zero_or_pos m with h0 | h0
      · subst h0
        exact absurd (by rw [hv]; simp) (varB_ne n)
      · exact h0
    exact .inr ⟨n, p + m, e3, e4, e1, by rw [e5]; exact e1, hn, by dsimp only; omega, by dsimp only; omega, hle, by rw [hv]; congr 1; dsimp only; omega⟩

/-- An edge behind another one, read: by the program, by the reference. -/
def egI (b : List UInt8) (z : SEdgeD) (s : RdS) : SEdgeD × RdS := (⟨z.From + gvN b s.p, z.To + uz (gvN b (numS b s).p), gvN b (numS b (numS b s)).p, z.Index + uz (gvN b (numS b (numS b (numS b s))).p), 0⟩, numS b (numS b (numS b (numS b s))))
def egS (b : List UInt8) (z : SEdgeD) (s : RdS) : SEdgeD × RdS := (⟨z.From + varN b s, z.To + uz (varN b (varS b s)), varN b (varS b (varS b s)), z.Index + uz (varN b (varS b (varS b (varS b s)))), 0⟩, varS b (varS b (varS b (varS b s))))

theorem eg_both {b : List UInt8} {z : SEdgeD} {s : RdS} (ho : s.ok = true) : ((egI b z s).2.ok = false ∧ (egS b z s).2.ok = false) ∨ (egS b z s = egI b z s ∧ (egI b z s).2.ok = true ∧ s.p + 4 ≤ (egI b z s).2.p ∧ AtB b s.p (egI b z s).2.p (sEB z (egI b z s).1)) := by
  unfold egI egS
  rcases nm_both (b := b) ho with ⟨a1, a2⟩ | ⟨n1, q1, a1, a2, a3, a4, a5, a6, a7⟩
  · exact .inl ⟨numS_bad (numS_bad (numS_bad a1)), varS_bad (varS_bad (varS_bad a2))⟩
  rw [a1, a2, a3, a4]
  rcases nm_both (b := b) (s := ⟨q1, true⟩) rfl with ⟨b1, b2⟩ | ⟨n2, q2, b1, b2, b3, b4, b5, b6, b7⟩
  · exact .inl ⟨numS_bad (numS_bad b1), varS_bad (varS_bad b2)⟩
  rw [b1, b2, b3, b4]
  rcases nm_both (b := b) (s := ⟨q2, true⟩) rfl with ⟨c1, c2⟩ | ⟨n3, q3, c1, c2, c3, c4, c5, c6, c7⟩
  · exact .inl ⟨numS_bad c1, varS_bad c2⟩
  rw [c1, c2, c3, c4]
  rcases nm_both (b := b) (s := ⟨q3, true⟩) rfl with ⟨d1, d2⟩ | ⟨n4, q4, d1, d2, d3, d4, d5, d6, d7⟩
  · exact .inl ⟨d1, d2⟩
  rw [d1, d2, d3, d4]
  dsimp only at *
  refine .inr ⟨rfl, rfl, by omega, ?_⟩
  have h := ((a7.trans b7).trans c7).trans d7
  unfold sEB
  dsimp only
  rw [show z.From + (n1 : Int) - z.From = n1 by omega, show z.To + uz (n2 : Int) - z.To = uz n2 by omega, show z.Index + uz (n4 : Int) - z.Index = uz n4 by omega, uz_zig, uz_zig, Int.toNat_natCast, Int.toNat_natCast]
  exact h
theorem egI_le {b : List UInt8} {z : SEdgeD} {s : RdS} (h : s.p ≤ b.length) : (egI b z s).2.p ≤ b.length := numS_le (numS_le (numS_le (numS_le h)))
def shGo (b : List UInt8) : Nat → List SEdgeD → SEdgeD → RdS → List SEdgeD × RdS
  | 0, l, _, s => (l, s)
  | m + 1, l, z, s => if s.ok then shGo b m (l ++ [(egI b z s).1]) (egI b z s).1 (egI b z s).2 else (l, s)
def shGoS (b : List UInt8) : Nat → List SEdgeD → SEdgeD → RdS → List SEdgeD × RdS
  | 0, l, _, s => (l, s)
  | m + 1, l, z, s => if s.ok then shGoS b m (l ++ [(egS b z s).1]) (egS b z s).1 (egS b z s).2 else (l, s)
theorem shGo_bad {b : List UInt8} {m : Nat} {l : List SEdgeD} {z : SEdgeD} {s : RdS} (h : s.ok = false) : shGo b m l z s = (l, s) := by
  cases m with
  | zero => rfl
  | succ m => unfold shGo; rw [h]; rfl
theorem shGo_step {b : List UInt8} {m : Nat} {l : List SEdgeD} {z : SEdgeD} {s : RdS} (h : s.ok = true) : shGo b (m + 1) l z s = shGo b m (l ++ [(egI b z s).1]) (egI b z s).1 (egI b z s).2 := by
  rw [shGo.eq_2, h]; rfl
theorem shGoS_bad {b : List UInt8} {m : Nat} {l : List SEdgeD} {z : SEdgeD} {s : RdS} (h : s.ok = false) : shGoS b m l z s = (l, s) := by
  cases m with
  | zero => rfl
  | succ m => unfold shGoS; rw [h]; rfl
theorem shGoS_step {b : List UInt8} {m : Nat} {l : List SEdgeD} {z : SEdgeD} {s : RdS} (h : s.ok = true) : shGoS b (m + 1) l z s = shGoS b m (l ++ [(egS b z s).1]) (egS b z s).1 (egS b z s).2 := by
  rw [shGoS.eq_2, h]; rfl
theorem shGo_le {b : List UInt8} : ∀ {m : Nat} {l : List SEdgeD} {z : SEdgeD} {s : RdS}, s.p ≤ b.length → (shGo b m l z s).2.p ≤ b.length
  | 0, _, _, _, h => h
  | m + 1, l, z, s, h => by
    unfold shGo; split
    · exact shGo_le (egI_le h)
    · exact h

theorem shGo_both {b : List UInt8} : ∀ (m : Nat) (l : List SEdgeD) (z : SEdgeD) (s : RdS), s.ok = true → s.p ≤ b.length →
    ((shGo b m l z s).2.ok = false ∧ (shGoS b m l z s).2.ok = false) ∨ (shGoS b m l z s = shGo b m l z s ∧ (shGo b m l z s).2.ok = true ∧ ∃ l', (shGo b m l z s).1 = l ++ l' ∧ l'.length = m ∧ AtB b s.p (shGo b m l z s).2.p (edB z l'))
  | 0, l, z, s, ho, hp => .inr ⟨rfl, ho, [], by simp [shGo], rfl, AtB.nil hp⟩
  | m + 1, l, z, s, ho, hp => by
    rw [shGo_step ho, shGoS_step ho]
    rcases eg_both (b := b) (z := z) ho with ⟨a1, a2⟩ | ⟨a1, a2, a3, a4⟩
    · rw [shGo_bad a1, shGoS_bad a2]
      exact .inl ⟨a1, a2⟩
    · rw [a1]
      rcases shGo_both m (l ++ [(egI b z s).1]) (egI b z s).1 (egI b z s).2 a2 (egI_le hp) with h | ⟨h1, h2, l', h3, h4, h5⟩
      · exact .inl h
      · exact .inr ⟨h1, h2, (egI b z s).1 :: l', by rw [h3, List.append_assoc]; rfl, by rw [List.length_cons, h4], a4.trans h5⟩

/-- A shard read: by the program, by the reference. -/
def siN (b : List UInt8) (s : RdS) : Nat := (gvN b (numS b (numS b s)).p).toNat
def siT (b : List UInt8) (s : RdS) : RdS := if 400 < siN b s then ⟨(numS b (numS b (numS b s))).p, false⟩ else numS b (numS b (numS b s))
def siR (b : List UInt8) (s : RdS) : List SEdgeD × RdS := shGo b (siN b s) [] ⟨0, gvN b s.p, 0, 0, 0⟩ (siT b s)
def siD (b : List UInt8) (s : RdS) : ShardD := ⟨gvN b s.p, gvN b (numS b s).p, (siR b s).1⟩
noncomputable def siS (b : List UInt8) (s : RdS) : RdS := ⟨(siR b s).2.p, (siR b s).2.ok && pB (ShOk (siD b s))⟩
def ssN (b : List UInt8) (s : RdS) : Nat := (varN b (varS b (varS b s))).toNat
def ssR (b : List UInt8) (s : RdS) : List SEdgeD × RdS := shGoS b (ssN b s) [] ⟨0, varN b s, 0, 0, 0⟩ (varS b (varS b (varS b s)))
def ssD (b : List UInt8) (s : RdS) : ShardD := ⟨varN b s, varN b (varS b s), (ssR b s).1⟩

/-- What a shard at a place is. -/
noncomputable def shK (b : List UInt8) (p : Nat) : Bool := (siS b ⟨p, true⟩).ok
noncomputable def shD (b : List UInt8) (p : Nat) : ShardD := if shK b p then siD b ⟨p, true⟩ else ⟨0, 0, []⟩
noncomputable def shP (b : List UInt8) (p : Nat) : Nat := if shK b p then (siS b ⟨p, true⟩).p else 0
theorem sh_no {b : List UInt8} {p : Nat} (h : shK b p = false) : shD b p = ⟨0, 0, []⟩ ∧ shP b p = 0 := by
  unfold shD shP; rw [h]; exact ⟨rfl, rfl⟩
theorem sh_yes {b : List UInt8} {p : Nat} (h : shK b p = true) : shD b p = siD b ⟨p, true⟩ ∧ shP b p = (siS b ⟨p, true⟩).p := by
  unfold shD shP; rw [h]; exact ⟨rfl, rfl⟩
theorem siR_bad {b : List UInt8} {s : RdS} (h : (numS b (numS b (numS b s))).ok = false) : (siR b s).2.ok = false := by
  have e : (siT b s).ok = false := by
    unfold siT; split
    · rfl
    · exact h
  unfold siR; rw [shGo_bad e]; exact e
theorem siT_le {b : List UInt8} {s : RdS} (h : s.p ≤ b.length) : (siT b s).p ≤ b.length := by
  have := numS_le (numS_le (numS_le h))
  unfold siT; split <;> exact this
theorem siS_le {b : List UInt8} {s : RdS} (h : s.p ≤ b.length) : (siS b s).p ≤ b.length := shGo_le (siT_le h)
theorem sh_law {b : List UInt8} {p : Nat} (hp : p ≤ b.length) :
    ((ssR b ⟨p, true⟩).2.ok = false ∧ shK b p = false) ∨ ((ssR b ⟨p, true⟩).2.ok = true ∧ ¬ ShOk (ssD b ⟨p, true⟩) ∧ shK b p = false)
    ∨ ((ssR b ⟨p, true⟩).2.ok = true ∧ ShOk (ssD b ⟨p, true⟩) ∧ shK b p = true ∧ shD b p = ssD b ⟨p, true⟩ ∧ shP b p = (ssR b ⟨p, true⟩).2.p ∧ p + 3 ≤ shP b p ∧ AtB b p (shP b p) (shB (ssD b ⟨p, true⟩))) := by
  have hno : ∀ h : (siR b ⟨p, true⟩).2.ok = false, shK b p = false := fun h => by unfold shK siS; rw [h]; rfl
  rcases nm_both (b := b) (s := ⟨p, true⟩) rfl with ⟨a1, a2⟩ | ⟨n1, q1, a1, a2, a3, a4, a5, a6, a7⟩
  · exact .inl ⟨by unfold ssR; rw [shGoS_bad (varS_bad (varS_bad a2))]; exact varS_bad (varS_bad a2), hno (siR_bad (numS_bad (numS_bad a1)))⟩
  rcases nm_both (b := b) (s := ⟨q1, true⟩) rfl with ⟨b1, b2⟩ | ⟨n2, q2, b1, b2, b3, b4, b5, b6, b7⟩
  · exact .inl ⟨by unfold ssR; rw [a2, shGoS_bad (varS_bad b2)]; exact varS_bad b2, hno (siR_bad (by rw [a1]; exact numS_bad b1))⟩
  rcases nm_both (b := b) (s := ⟨q2, true⟩) rfl with ⟨c1, c2⟩ | ⟨n3, q3, c1, c2, c3, c4, c5, c6, c7⟩
  · exact .inl ⟨by unfold ssR; rw [a2, b2, shGoS_bad c2]; exact c2, hno (siR_bad (by rw [a1, b1]; exact c1))⟩
  have eN : siN b ⟨p, true⟩ = n3 := by unfold siN; rw [a1, b1, c3]; rfl
  have eM : ssN b ⟨p, true⟩ = n3 := by unfold ssN; rw [a2, b2, c4]; rfl
  have eS : ssR b ⟨p, true⟩ = shGoS b n3 [] ⟨0, n1, 0, 0, 0⟩ ⟨q3, true⟩ := by unfold ssR; rw [eM, a2, b2, c2, a4]
  have eD : ssD b ⟨p, true⟩ = ⟨n1, n2, (ssR b ⟨p, true⟩).1⟩ := by unfold ssD; rw [a4, a2, b4]
  have eE : siD b ⟨p, true⟩ = ⟨n1, n2, (siR b ⟨p, true⟩).1⟩ := by unfold siD; rw [a3, a1, b3]
  have hq3 : q3 ≤ b.length := c7.2.1
  have both := shGo_both (b := b) n3 [] ⟨0, n1, 0, 0, 0⟩ ⟨q3, true⟩ rfl hq3
  by_cases h4 : 400 < n3
  · have hb : shK b p = false := hno (by unfold siR siT; rw [eN, if_pos h4, shGo_bad rfl])
    cases hk : (ssR b ⟨p, true⟩).2.ok with
    | false => exact .inl ⟨rfl, hb⟩
    | true =>
      refine .inr (.inl ⟨rfl, fun ho => ?_, hb⟩)
      rcases both with ⟨_, h2⟩ | ⟨h1, _, l', h3, h4', _⟩
      · rw [eS] at hk; rw [hk] at h2; cases h2
      · have := ho.1
        unfold shHead at this
        rw [eD, eS, h1, h3] at this
        simp at this
        omega
  · have eR : siR b ⟨p, true⟩ = shGo b n3 [] ⟨0, n1, 0, 0, 0⟩ ⟨q3, true⟩ := by unfold siR siT; rw [eN, if_neg h4, a1, b1, c1, a3]
    rcases both with ⟨h1, h2⟩ | ⟨h1, h2, l', h3, h4', h5⟩
    · exact .inl ⟨by rw [eS]; exact h2, hno (by rw [eR]; exact h1)⟩
    · have e : ssR b ⟨p, true⟩ = siR b ⟨p, true⟩ := by rw [eS, eR, h1]
      have eDE : siD b ⟨p, true⟩ = ssD b ⟨p, true⟩ := by rw [eE, eD, e]
      have hk : (siR b ⟨p, true⟩).2.ok = true := by rw [eR]; exact h2
      by_cases ho : ShOk (ssD b ⟨p, true⟩)
      · have hK : shK b p = true := by unfold shK siS; rw [eDE, hk, pB_t ho]; rfl
        obtain ⟨f1, f2⟩ := sh_yes hK
        have f3 : (siS b ⟨p, true⟩).p = (siR b ⟨p, true⟩).2.p := rfl
        rw [f3] at f2
        rw [← eR] at h5
        have hA : AtB b p (siR b ⟨p, true⟩).2.p (shB (ssD b ⟨p, true⟩)) := by
          have := ((a7.trans b7).trans c7).trans h5
          unfold shB shH s0
          rw [eD, e]
          dsimp only
          rw [eR, h3]
          simp only [List.nil_append, Int.toNat_natCast, h4']
          rw [← eR]
          exact this
        refine .inr (.inr ⟨by rw [e]; exact hk, ho, hK, by rw [f1, eDE], by rw [f2, e], ?_, by rw [f2]; exact hA⟩)
        have := h5.1
        rw [f2]
        dsimp only at *
        omega
      · exact .inr (.inl ⟨by rw [e]; exact hk, ho, by unfold shK siS; rw [eDE, pB_f ho, Bool.and_false]⟩)

end Go.Proofs.YtfdhdkljpeohlaaGreatDoor


namespace Go.Proofs.YtfdhdkljpeohlaaGreatDoor
set_option linter.unusedSimpArgs false
set_option linter.unusedVariables false
set_option linter.unusedSimpArgs false
set_option linter.unusedVariables false
set_option linter.defProp false
open Go.RowKit

noncomputable def fgGo (b : List UInt8) : Nat → List ShardD → RdS → List ShardD × RdS
  | 0, l, s => (l, s)
  | m + 1, l, s => if s.ok then fgGo b m (l ++ [siD b s]) (siS b s) else (l, s)
theorem fgGo_bad {b : List UInt8} {m : Nat} {l : List ShardD} {s : RdS} (h : s.ok = false) : fgGo b m l s = (l, s) := by
  cases m with
  | zero => rfl
  | succ m => unfold fgGo; rw [h]; rfl
theorem fgGo_step {b : List UInt8} {m : Nat} {l : List ShardD} {s : RdS} (h : s.ok = true) : fgGo b (m + 1) l s = fgGo b m (l ++ [siD b s]) (siS b s) := by
  rw [fgGo.eq_2, h]; rfl
def hiE (l : List ShardD) : List Int := l.map (·.Hi)
/-- The farm in the data of a file: by the program, by the reference. -/
def giN (D : List UInt8) (s : RdS) : Nat := (gvN D (numS D s).p).toNat
noncomputable def giR (D : List UInt8) (s : RdS) : List ShardD × RdS := fgGo D (giN D s) [] (numS D (numS D s))
noncomputable def giF (D : List UInt8) (s : RdS) : FarmD := ⟨gvN D s.p, hiE (giR D s).1, (giR D s).1⟩
noncomputable def grP (b : List UInt8) : Prop := (giR (foD b 1) ⟨0, foB b 1⟩).2.ok = true ∧ (giR (foD b 1) ⟨0, foB b 1⟩).2.p = (foD b 1).length ∧ FarmOk (giF (foD b 1) ⟨0, foB b 1⟩)
noncomputable def grB (b : List UInt8) : Bool := pB (grP b)
noncomputable def grR (b : List UInt8) : FarmD := if grB b then giF (foD b 1) ⟨0, foB b 1⟩ else ⟨0, [], []⟩
theorem gr_no {b : List UInt8} (h : ¬ grP b) : grB b = false ∧ grR b = ⟨0, [], []⟩ := by
  have e : grB b = false := pB_f h
  unfold grR; rw [e]; exact ⟨rfl, rfl⟩
theorem gr_yes {b : List UInt8} (h : grP b) : grB b = true ∧ grR b = giF (foD b 1) ⟨0, foB b 1⟩ := by
  have e : grB b = true := pB_t h
  unfold grR; rw [e]; exact ⟨rfl, rfl⟩
theorem giR_bad {D : List UInt8} {s : RdS} (h : (numS D (numS D s)).ok = false) : (giR D s).2.ok = false := by
  unfold giR; rw [fgGo_bad h]; exact h
theorem gr_bad {b : List UInt8} (h : foB b 1 = false) : ¬ grP b := by
  intro hg
  obtain ⟨h1, _⟩ := hg
  rw [h, giR_bad (numS_bad (numS_bad rfl))] at h1
  cases h1

end Go.Proofs.YtfdhdkljpeohlaaGreatDoor


namespace Go.Proofs.YtfdhdkljpeohlaaGreatDoor
set_option linter.unusedSimpArgs false
set_option linter.unusedVariables false
set_option linter.unusedSimpArgs false
set_option linter.unusedVariables false
set_option linter.defProp false
set_option maxRecDepth 20000
open Go.RowKit
attribute [local irreducible] lexD

set_option maxHeartbeats 4000000 in
theorem numW_k (b : List UInt8) (s : RdS) (hb : b.length ≤ 1048576) (hp : s.p ≤ b.length) : FnOK Tryz.prog 29 ⟨2, [(0, some (.row 5 (b.map bytK))), (1, some (.box 74 [.sl 0 1 0 b.length, .v (.int .i64 ((s).p : Int)), .v (.bool (s).ok)]))], [.c (.ptr 1 0 0)], .c (.v (.int .i64 (gvN b s.p))), [(0, some (.row 5 (b.map bytK))), (1, some (.box 74 [.sl 0 1 0 b.length, .v (.int .i64 ((numS b s).p : Int)), .v (.bool (numS b s).ok)]))], 2⟩ := by
  have c := implGetVar_k b s.p (by omega) (by omega)
  cases hk : gvK b s.p with
  | false =>
    have e : numS b s = ⟨s.p, false⟩ := by unfold numS; rw [hk]; rfl
    have e0 : gvN b s.p = 0 := by
      have : gvO b s.p = none := by unfold gvK at hk; cases h : gvO b s.p <;> simp_all
      exact (gv_none this).1
    rw [hk] at c
    rw [e, e0]
    refine fnOK_of true mixed Tryz.func29 rfl (by rfl) (by rfl) ?_
    have hres := congrArg Array.toList Tryz.results29
    simp only [Tryz.ntmps29, BGB, seval]
    (have gx := And.intro (@List.length_map.{0,0}) (And.intro @List.getElem_map.{0,0} @bytK.eq_1); have q1 := c; refine go ?_; (repeat' first | exact Ef.mk | apply Lf.mk | refine fun (K : KT) hK hE hT => ?_ | refine fun (KS : KE) hKS => ?_ | refine fun (D : KD) hD => ?_ | refine fun (hg : (_ : Prop)) => ?_ | fail); all_goals (first | (refine Wr.mk ?_; (try clear gx q1); repeat first | clear hK hE hT K | clear hR hE hT K) | assumption | skip))
    all_goals (refine post_a hres (.inl rfl) ?_; simp only [RSB, ENB, seval, tiAll, true_and]; simp only [MAB, seval]; refine ⟨rfl, rfl, ?_, ?_, ?_⟩ <;> (first | rfl | (simp [WKB, Nat.add_comm, true_and]; done) | (simp only [WKB, seval])))
  | true =>
    obtain ⟨n, k, _, e1, e2, hle, _⟩ := gv_facts hk
    have e : numS b s = ⟨s.p + k, s.ok⟩ := by unfold numS; rw [hk, e2]; rfl
    rw [hk, e1, e2] at c
    rw [e, e1]
    refine fnOK_of true mixed Tryz.func29 rfl (by rfl) (by rfl) ?_
    have hres := congrArg Array.toList Tryz.results29
    simp only [Tryz.ntmps29, BGB, seval]
    (have gx := And.intro (@List.length_map.{0,0}) (And.intro @List.getElem_map.{0,0} @bytK.eq_1); have q1 := c; refine go ?_; (repeat' first | exact Ef.mk | apply Lf.mk | refine fun (K : KT) hK hE hT => ?_ | refine fun (KS : KE) hKS => ?_ | refine fun (D : KD) hD => ?_ | refine fun (hg : (_ : Prop)) => ?_ | fail); all_goals (first | (refine Wr.mk ?_; (try clear gx q1); repeat first | clear hK hE hT K | clear hR hE hT K) | assumption | skip))
    all_goals (refine post_a hres (.inl rfl) ?_; simp only [RSB, ENB, seval, tiAll, true_and]; simp only [MAB, seval]; refine ⟨rfl, rfl, ?_, ?_, ?_⟩ <;> (first | rfl | (simp [WKB, Nat.add_comm, true_and]; done) | (simp only [WKB, seval])))


end Go.Proofs.YtfdhdkljpeohlaaGreatDoor


namespace Go.Proofs.YtfdhdkljpeohlaaGreatDoor
set_option linter.unusedSimpArgs false
set_option linter.unusedVariables false
set_option linter.unusedSimpArgs false
set_option linter.unusedVariables false
set_option linter.defProp false
set_option maxRecDepth 20000
open Go.RowKit
attribute [local irreducible] lexD

set_option maxHeartbeats 4000000 in
theorem implGetZig_k (b : List UInt8) (p : Nat) (hb : b.length ≤ 1099511627776) (hp : p ≤ 1099511627776) : FnOK Tryz.prog 91 ⟨1, [(0, some (.ro (b.map bytK)))], [.c (.sl 0 1 0 b.length), .c (.v (.int .i64 (p : Int)))],
    .tup [.inl (.v (.int .i64 (uz (gvN b p)))), .inl (.v (.int .i64 (gvP b p))), .inl (.v (.bool (gvK b p)))], [], 1⟩ := by
  have c := implGetVar_k b p hb hp
  have hm := gvN_max b p
  cases hk : gvO b p with
  | none =>
    obtain ⟨g1, g2, g3⟩ := gv_none hk
    rw [g1, g2, g3] at c
    rw [g1, g2, g3, uz_zero]
    refine fnOK_of true mixed Tryz.func91 rfl (by rfl) (by rfl) ?_
    have hres := congrArg Array.toList Tryz.results91
    simp only [Tryz.ntmps91, BGB, seval]
    (have gx := And.intro (@List.length_map.{0,0}) (And.intro @List.getElem_map.{0,0} @bytK.eq_1); have q1 := c; refine go ?_; (repeat' first | exact Ef.mk | apply Lf.mk | refine fun (K : KT) hK hE hT => ?_ | refine fun (KS : KE) hKS => ?_ | refine fun (D : KD) hD => ?_ | refine fun (hg : (_ : Prop)) => ?_ | fail); all_goals (first | (refine Wr.mk ?_; (try clear gx q1); repeat first | clear hK hE hT K | clear hR hE hT K) | assumption | skip))
    all_goals (refine post_a hres (.inl rfl) ?_; simp only [RSB, ENB, seval, tiAll, true_and]; simp only [MAB, seval]; refine ⟨rfl, rfl, ?_, ?_, ?_⟩ <;> (first | rfl | (simp [WKB, Nat.add_comm, true_and]; done) | (simp only [WKB, seval])))
  | some x =>
    obtain ⟨m, k⟩ := x
    obtain ⟨g1, g2, g3⟩ := gv_some hk
    rw [g1] at hm
    rw [g1, g2, g3] at c
    rw [g1, g2, g3]
    rcases Nat.mod_two_eq_zero_or_one m with h | h
    · have e : uz (m : Int) = (m : Int) / 2 := by unfold uz; rw [if_pos (by omega)]
      rw [e]
      refine fnOK_of true mixed Tryz.func91 rfl (by rfl) (by rfl) ?_
      have hres := congrArg Array.toList Tryz.results91
      simp only [Tryz.ntmps91, BGB, seval]
      (have gx := And.intro (@List.length_map.{0,0}) (And.intro @List.getElem_map.{0,0} @bytK.eq_1); have q1 := c; refine go ?_; (repeat' first | exact Ef.mk | apply Lf.mk | refine fun (K : KT) hK hE hT => ?_ | refine fun (KS : KE) hKS => ?_ | refine fun (D : KD) hD => ?_ | refine fun (hg : (_ : Prop)) => ?_ | fail); all_goals (first | (refine Wr.mk ?_; (try clear gx q1); repeat first | clear hK hE hT K | clear hR hE hT K) | assumption | skip))
      all_goals first | (exfalso; omega) | (refine post_a hres (.inl rfl) ?_; simp only [RSB, ENB, seval, tiAll, true_and]; simp only [MAB, seval]; refine ⟨rfl, rfl, ?_, ?_, ?_⟩ <;> (first | rfl | (simp [WKB, Nat.add_comm, true_and]; done) | (simp only [WKB, seval])))
    · have e : uz (m : Int) = -((m : Int) / 2) - 1 := by unfold uz; rw [if_neg (by omega)]
      rw [e]
      refine fnOK_of true mixed Tryz.func91 rfl (by rfl) (by rfl) ?_
      have hres := congrArg Array.toList Tryz.results91
      simp only [Tryz.ntmps91, BGB, seval]
      (have gx := And.intro (@List.length_map.{0,0}) (And.intro @List.getElem_map.{0,0} @bytK.eq_1); have q1 := c; refine go ?_; (repeat' first | exact Ef.mk | apply Lf.mk | refine fun (K : KT) hK hE hT => ?_ | refine fun (KS : KE) hKS => ?_ | refine fun (D : KD) hD => ?_ | refine fun (hg : (_ : Prop)) => ?_ | fail); all_goals (first | (refine Wr.mk ?_; (try clear gx q1); repeat first | clear hK hE hT K | clear hR hE hT K) | assumption | skip))
      all_goals first | (exfalso; omega) | (refine post_a hres (.inl rfl) ?_; simp only [RSB, ENB, seval, tiAll, true_and]; simp only [MAB, seval]; refine ⟨rfl, rfl, ?_, ?_, ?_⟩ <;> (first | rfl | (simp [WKB, Nat.add_comm, true_and]; done) | (simp only [WKB, seval])))

set_option maxHeartbeats 4000000 in
theorem zigW_k (b : List UInt8) (s : RdS) (hb : b.length ≤ 1048576) (hp : s.p ≤ b.length) : FnOK Tryz.prog 68 ⟨2, [(0, some (.row 5 (b.map bytK))), (1, some (.box 74 [.sl 0 1 0 b.length, .v (.int .i64 ((s).p : Int)), .v (.bool (s).ok)]))], [.c (.ptr 1 0 0)], .c (.v (.int .i64 (uz (gvN b s.p)))), [(0, some (.row 5 (b.map bytK))), (1, some (.box 74 [.sl 0 1 0 b.length, .v (.int .i64 ((numS b s).p : Int)), .v (.bool (numS b s).ok)]))], 2⟩ := by
  have c := implGetZig_k b s.p (by omega) (by omega)
  cases hk : gvK b s.p with
  | false =>
    have e : numS b s = ⟨s.p, false⟩ := by unfold numS; rw [hk]; rfl
    have e0 : gvN b s.p = 0 := by
      have : gvO b s.p = none := by unfold gvK at hk; cases h : gvO b s.p <;> simp_all
      exact (gv_none this).1
    rw [hk, e0, uz_zero] at c
    rw [e, e0, uz_zero]
    refine fnOK_of true mixed Tryz.func68 rfl (by rfl) (by rfl) ?_
    have hres := congrArg Array.toList Tryz.results68
    simp only [Tryz.ntmps68, BGB, seval]
    (have gx := And.intro (@List.length_map.{0,0}) (And.intro @List.getElem_map.{0,0} @bytK.eq_1); have q1 := c; refine go ?_; (repeat' first | exact Ef.mk | apply Lf.mk | refine fun (K : KT) hK hE hT => ?_ | refine fun (KS : KE) hKS => ?_ | refine fun (D : KD) hD => ?_ | refine fun (hg : (_ : Prop)) => ?_ | fail); all_goals (first | (refine Wr.mk ?_; (try clear gx q1); repeat first | clear hK hE hT K | clear hR hE hT K) | assumption | skip))
    all_goals (refine post_a hres (.inl rfl) ?_; simp only [RSB, ENB, seval, tiAll, true_and]; simp only [MAB, seval]; refine ⟨rfl, rfl, ?_, ?_, ?_⟩ <;> (first | rfl | (simp [WKB, Nat.add_comm, true_and]; done) | (simp only [WKB, seval])))
  | true =>
    obtain ⟨n, k, _, e1, e2, hle, _⟩ := gv_facts hk
    have e : numS b s = ⟨s.p + k, s.ok⟩ := by unfold numS; rw [hk, e2]; rfl
    rw [hk, e2] at c
    rw [e]
    refine fnOK_of true mixed Tryz.func68 rfl (by rfl) (by rfl) ?_
    have hres := congrArg Array.toList Tryz.results68
    simp only [Tryz.ntmps68, BGB, seval]
    (have gx := And.intro (@List.length_map.{0,0}) (And.intro @List.getElem_map.{0,0} @bytK.eq_1); have q1 := c; refine go ?_; (repeat' first | exact Ef.mk | apply Lf.mk | refine fun (K : KT) hK hE hT => ?_ | refine fun (KS : KE) hKS => ?_ | refine fun (D : KD) hD => ?_ | refine fun (hg : (_ : Prop)) => ?_ | fail); all_goals (first | (refine Wr.mk ?_; (try clear gx q1); repeat first | clear hK hE hT K | clear hR hE hT K) | assumption | skip))
    all_goals (refine post_a hres (.inl rfl) ?_; simp only [RSB, ENB, seval, tiAll, true_and]; simp only [MAB, seval]; refine ⟨rfl, rfl, ?_, ?_, ?_⟩ <;> (first | rfl | (simp [WKB, Nat.add_comm, true_and]; done) | (simp only [WKB, seval])))

end Go.Proofs.YtfdhdkljpeohlaaGreatDoor

