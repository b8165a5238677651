/-
  The engine, texts K5 K6 in one. No conditions of its own.
-/
import Derived.Test.YtfnhchcgieeedaaGreatGO
import Derived.Test.YtfnhchcgieeedaaGreatMKA
namespace Go.Proofs.YtfnhchcgieeedaaGreat
set_option linter.unusedSimpArgs false
set_option linter.unusedVariables false
set_option linter.unusedSimpArgs false
set_option linter.unusedVariables false
set_option linter.defProp false
open Go.RowKit

def firstVal (j : JobD) (v : Int) : Int :=
  if ¬ (0 ≤ v ∧ v < 150) then 0 else if j.Prog = 1 then 1048576 else if j.Prog = 2 ∨ j.Prog = 4 then v else if j.Prog = 3 ∧ v ≠ j.Src then 1099511627776 else 0
def firstEdge (j : JobD) (f t d : Int) : Int :=
  if ¬ (0 ≤ f ∧ f < 150 ∧ 0 ≤ t ∧ t < 150 ∧ 1 ≤ d ∧ d ≤ 400) then 0 else if j.Prog = 1 then 1048576 / d else if j.Prog = 2 ∨ j.Prog = 3 then 1099511627776 else if j.Prog = 4 then f * 1000 + t else 0

theorem isVertex_k (v : Int) : FnOK Tryz.prog 40 ⟨0, [], [.c (.v (.int .i64 v))], .c (.v (.bool (decide (0 ≤ v ∧ v < 150)))), [], 0⟩ := by
  refine fnOK_of true mixed Tryz.func40 rfl (by rfl) (by rfl) ?_
  have hres := congrArg Array.toList Tryz.results40
  simp only [Tryz.ntmps40, BGB, seval]
  (have gx := true_and True; refine go ?_; (repeat' first | exact Ef.mk | apply Lf.mk | refine fun (K : KT) hK hE hT => ?_ | refine fun (KS : KE) hKS => ?_ | refine fun (D : KD) hD => ?_ | refine fun (hg : (_ : Prop)) => ?_ | fail); all_goals (first | (refine Wr.mk ?_; (try clear gx); repeat first | clear hK hE hT K | clear hR hE hT K) | assumption | skip))
  all_goals (refine post_a hres (.inl rfl) ?_; simp only [RSB, ENB, seval, tiAll, true_and]; simp only [MAB, seval]; refine ⟨rfl, rfl, ?_, ?_, ?_⟩ <;> (first | rfl | (simp [WKB, Nat.add_comm, true_and]; done) | (simp only [WKB, seval])))
  all_goals (refine congrArg (fun b => SV.c (CV.v (Value.bool b))) ?_; symm; first | (rw [decide_eq_false_iff_not]; omega) | (rw [decide_eq_true_eq]; omega) | (rw [decide_eq_decide]; omega) | (rw [Bool.eq_iff_iff]; simp only [decide_eq_true_eq, beq_iff_eq]; omega))

set_option maxHeartbeats 1000000 in
theorem implFirstVal_k (j : JobD) (v : Int) : FnOK Tryz.prog 19 ⟨0, [], [.agg [.v (.int .i64 j.Prog), .v (.int .i64 j.Src)], .c (.v (.int .i64 v))], .c (.v (.int .i64 (firstVal j v))), [], 0⟩ := by
  obtain ⟨p, s⟩ := j
  refine fnOK_of true mixed Tryz.func19 rfl (by rfl) (by rfl) ?_
  have hres := congrArg Array.toList Tryz.results19
  simp only [Tryz.ntmps19, BGB, seval]
  (have gx := true_and True; have q1 := isVertex_k v; refine go ?_; (repeat' first | exact Ef.mk | apply Lf.mk | refine fun (K : KT) hK hE hT => ?_ | refine fun (KS : KE) hKS => ?_ | refine fun (D : KD) hD => ?_ | refine fun (hg : (_ : Prop)) => ?_ | fail); all_goals (first | (refine Wr.mk ?_; (try clear gx q1); repeat first | clear hK hE hT K | clear hR hE hT K) | assumption | skip))
  all_goals (refine post_a hres (.inl rfl) ?_; simp only [RSB, ENB, seval, tiAll, true_and]; simp only [MAB, seval]; refine ⟨rfl, rfl, ?_, ?_, ?_⟩ <;> (first | rfl | (simp [WKB, Nat.add_comm, true_and]; done) | (simp only [WKB, seval])))
  all_goals (refine congrArg (fun z => SV.c (CV.v (Value.int .i64 z))) ?_; symm; unfold firstVal; dsimp only; simp [*]; try omega)

set_option maxHeartbeats 2000000 in
theorem implFirstEdge_k (j : JobD) (f t d : Int) : FnOK Tryz.prog 21 ⟨0, [], [.agg [.v (.int .i64 j.Prog), .v (.int .i64 j.Src)], .c (.v (.int .i64 f)), .c (.v (.int .i64 t)), .c (.v (.int .i64 d))], .c (.v (.int .i64 (firstEdge j f t d))), [], 0⟩ := by
  obtain ⟨p, s⟩ := j
  refine fnOK_of true mixed Tryz.func21 rfl (by rfl) (by rfl) ?_
  have hres := congrArg Array.toList Tryz.results21
  simp only [Tryz.ntmps21, BGB, seval]
  (have gx := true_and True; have q1 := isVertex_k f; have q2 := isVertex_k t; refine go ?_; (repeat' first | exact Ef.mk | apply Lf.mk | refine fun (K : KT) hK hE hT => ?_ | refine fun (KS : KE) hKS => ?_ | refine fun (D : KD) hD => ?_ | refine fun (hg : (_ : Prop)) => ?_ | fail); all_goals (first | (refine Wr.mk ?_; (try clear gx q1 q2); repeat first | clear hK hE hT K | clear hR hE hT K) | assumption | skip))
  all_goals (refine post_a hres (.inl rfl) ?_; simp only [RSB, ENB, seval, tiAll, true_and]; simp only [MAB, seval]; refine ⟨rfl, rfl, ?_, ?_, ?_⟩ <;> (first | rfl | (simp [WKB, Nat.add_comm, true_and]; done) | (simp only [WKB, seval])))
  all_goals (refine congrArg (fun z => SV.c (CV.v (Value.int .i64 z))) ?_; symm; unfold firstEdge; dsimp only; first | (rw [if_pos (by omega)]; done) | (rw [if_neg (by omega)]; simp [*]; done) | (rw [if_neg (by omega)]; simp [*]; omega))

/-! Degrees. -/

def degN (l : List EdgeD) (k : Nat) (v : Nat) : Nat := (l.take k).countP fun e => decide (e.From = (v : Int))
def degRow (n : Nat) (l : List EdgeD) (k : Nat) : List (List DC) := (List.range n).map fun v => [.v (.int .i64 (degN l k v : Int))]
def outDegs (g : GraphD) : List Int := if graphOk g then (List.range g.N.toNat).map fun v => (degN g.Edges g.Edges.length v : Int) else []

theorem degN_le (l : List EdgeD) (k v : Nat) : degN l k v ≤ k := by
  unfold degN
  exact Nat.le_trans List.countP_le_length (by simp; omega)
theorem degN_succ (l : List EdgeD) (k v : Nat) (h : k < l.length) : degN l (k + 1) v = degN l k v + (if l[k].From = (v : Int) then 1 else 0) := by
  unfold degN
  rw [List.take_succ_eq_append_getElem h, List.countP_append]
  simp [List.countP_cons]
theorem degRow_zero (n : Nat) (l : List EdgeD) : degRow n l 0 = List.replicate n [DC.v (.int .i64 0)] := by
  apply List.ext_getElem
  · simp [degRow]
  · intro i h1 h2
    simp [degRow, degN]
theorem degRow_len (n : Nat) (l : List EdgeD) (k : Nat) : (degRow n l k).length = n := by simp [degRow]
theorem degRow_get (n : Nat) (l : List EdgeD) (k v : Nat) (h : v < (degRow n l k).length) : (degRow n l k)[v] = [.v (.int .i64 (degN l k v : Int))] := by simp [degRow]
theorem degRow_set (n : Nat) (l : List EdgeD) (k v : Nat) (h : k < l.length) (hv : l[k].From = (v : Int)) (hn : v < n) : (degRow n l k).set v [.v (.int .i64 ((degN l k v : Int) + 1))] = degRow n l (k + 1) := by
  apply List.ext_getElem
  · simp [degRow]
  · intro i h1 h2
    rw [List.getElem_set]
    simp only [degRow, List.getElem_map, List.getElem_range]
    rw [degN_succ l k i h, hv]
    by_cases hi : v = i
    · subst hi; simp
    · rw [if_neg hi, if_neg (by omega)]; simp
theorem degRow_out (g : GraphD) (h : graphOk g = true) : degRow g.N.toNat g.Edges g.Edges.length = (outDegs g).map intK := by
  unfold outDegs degRow
  rw [if_pos h, List.map_map]
  rfl

theorem graphOk_in {g : GraphD} (h : graphOk g = true) : 0 ≤ g.N ∧ g.N ≤ 150 ∧ g.Edges.length ≤ 400 ∧ ∀ k (hk : k < g.Edges.length), 0 ≤ g.Edges[k].From ∧ g.Edges[k].From < g.N ∧ 0 ≤ g.Edges[k].To ∧ g.Edges[k].To < g.N ∧ 0 ≤ g.Edges[k].W ∧ g.Edges[k].W ≤ 1000 := by
  unfold graphOk at h
  simp only [Bool.and_eq_true, decide_eq_true_eq, List.all_eq_true] at h
  refine ⟨h.1.1, h.1.2.1, h.1.2.2, fun k hk => ?_⟩
  have := h.2 _ (List.getElem_mem hk)
  unfold edgeOk at this
  rw [decide_eq_true_eq] at this
  exact this

set_option maxHeartbeats 4000000 in
theorem implOutDegs_k (g : GraphD) (hl : g.Edges.length ≤ 1048576) : FnOK Tryz.prog 20 ⟨1, [(0, some (.ro ((g.Edges).map EdgeD.k)))], [.agg [.v (.int .i64 g.N), .sl 0 3 0 (g.Edges).length]], .c (.sl 1 1 0 (outDegs g).length), [(1, some (.row 3 ((outDegs g).map intK)))], 2⟩ := by
  have hs := implGraphOk_k g (by omega)
  cases ho : graphOk g with
  | false =>
    rw [ho] at hs
    have e : outDegs g = [] := by unfold outDegs; rw [ho]; rfl
    rw [e]
    refine fnOK_of true mixed Tryz.func20 rfl (by rfl) (by rfl) ?_
    have hres := congrArg Array.toList Tryz.results20
    simp only [Tryz.ntmps20, BGB, seval]
    (have gx := true_and True; have q1 := hs; refine go ?_; (repeat' first | exact Ef.mk | apply Lf.mk | refine fun (K : KT) hK hE hT => ?_ | refine fun (KS : KE) hKS => ?_ | refine fun (D : KD) hD => ?_ | refine fun (hg : (_ : Prop)) => ?_ | fail); all_goals (first | (refine Wr.mk ?_; (try clear gx q1); repeat first | clear hK hE hT K | clear hR hE hT K) | assumption | skip))
    (refine post_a hres (.inl rfl) ?_; simp only [RSB, ENB, seval, tiAll, true_and]; simp only [MAB, seval]; refine ⟨rfl, rfl, ?_, ?_, ?_⟩ <;> (first | rfl | (simp [WKB, Nat.add_comm, true_and]; done) | (simp only [WKB, seval])))
  | true =>
    rw [ho] at hs
    have hd := degRow_out g ho
    obtain ⟨h1, h2, h3, h4⟩ := graphOk_in ho
    have hdl : (outDegs g).length = g.N.toNat := by unfold outDegs; rw [ho]; simp
    obtain ⟨n, l⟩ := g
    dsimp only at *
    obtain ⟨m, rfl⟩ := Int.eq_ofNat_of_zero_le h1
    simp only [Int.toNat_natCast] at hd hdl
    rw [← hd, hdl]
    refine fnOK_of true mixed Tryz.func20 rfl (by rfl) (by rfl) ?_
    have hres := congrArg Array.toList Tryz.results20
    simp only [Tryz.ntmps20, BGB, seval]
    (have gx := true_and True; have q1 := hs; refine go ?_; (repeat' first | exact Ef.mk | apply Lf.mk | refine fun (K : KT) hK hE hT => ?_ | refine fun (KS : KE) hKS => ?_ | refine fun (D : KD) hD => ?_ | refine fun (hg : (_ : Prop)) => ?_ | fail); all_goals (first | (refine Wr.mk ?_; (try clear gx q1); repeat first | clear hK hE hT K | clear hR hE hT K) | assumption | skip))
    refine loop_v (X := {k : Nat // k ≤ l.length}) [] (fun x => [(15, .c (.v (.int .i64 ((x.1 : Nat) : Int))))]) (fun x => [(0, some (.ro (l.map EdgeD.k))), (1, some (.box 25 [.v (.int .i64 (m : Int)), .sl 0 3 0 l.length])), (2, some (.row 3 (degRow m l x.1)))]) 3 (fun x => l.length - x.1) ⟨0, by omega⟩ ?_
    simp only [KPB, seval]
    refine ⟨?_, ?_⟩
    · (refine wk_a ?_; simp only [MAB, seval]; refine ⟨rfl, rfl, (by decide), ?_, ?_⟩; all_goals (first | (simp only [WKB, seval, degRow_zero]; done) | (simp [WKB, seval, degRow_zero]; done) | simp only [WKB, seval]))
    · rintro ⟨k, hk⟩ K hR hE hT
      rcases Nat.lt_or_ge k l.length with hlt | hge
      case inr =>
        (have gx := @List.length_map.{0,0}; refine go ?_; (repeat' first | exact Ef.mk | apply Lf.mk | refine fun (K : KT) hK hE hT => ?_ | refine fun (KS : KE) hKS => ?_ | refine fun (D : KD) hD => ?_ | refine fun (hg : (_ : Prop)) => ?_ | fail); all_goals (first | (refine Wr.mk ?_; (try clear gx); repeat first | clear hK hE hT K | clear hR hE hT K) | assumption | skip))
        obtain rfl : k = l.length := by omega
        (refine post_a hres (.inl rfl) ?_; simp only [RSB, ENB, seval, tiAll, true_and]; simp only [MAB, seval]; refine ⟨rfl, rfl, ?_, ?_, ?_⟩ <;> (first | rfl | (simp [WKB, Nat.add_comm, true_and]; done) | (simp only [WKB, seval])))
      case inl =>
        obtain ⟨q1, q2, _⟩ := h4 k hlt
        obtain ⟨v, hv⟩ := Int.eq_ofNat_of_zero_le q1
        have hdn := degN_le l k v
        have hvm : v < m := by omega
        have e := degRow_set m l k v hlt hv hvm
        (have gx := And.intro (@List.length_map.{0,0}) (And.intro (@List.getElem_map.{0,0}) (And.intro (@EdgeD.k.eq_1) (And.intro (@hv) (And.intro @degRow_len @degRow_get)))); refine go ?_; (repeat' first | exact Ef.mk | apply Lf.mk | refine fun (K : KT) hK hE hT => ?_ | refine fun (KS : KE) hKS => ?_ | refine fun (D : KD) hD => ?_ | refine fun (hg : (_ : Prop)) => ?_ | fail); all_goals (first | (refine Wr.mk ?_; (try clear gx); repeat first | clear hK hE hT K | clear hR hE hT K) | assumption | skip))
        (refine hR.out ⟨k + 1, by omega⟩ _ _ _ (by simp only; omega) ?_; (refine wk_a ?_; simp only [MAB, seval]; refine ⟨rfl, rfl, (by decide), ?_, ?_⟩; all_goals (first | (simp only [WKB, seval, e]; done) | (simp [WKB, seval, e]; done) | simp only [WKB, seval])))

end Go.Proofs.YtfnhchcgieeedaaGreat

namespace Go.Proofs.YtfnhchcgieeedaaGreat
set_option linter.unusedSimpArgs false
set_option linter.unusedVariables false
set_option linter.defProp false
open Go.RowKit

def edgeFe (j : JobD) (l : List EdgeD) (e : EdgeD) : Int := firstEdge j e.From e.To (degN l l.length e.From.toNat)
def fvTo (j : JobD) (k : Nat) : List Int := (List.range k).map fun (v : Nat) => firstVal j (v : Int)
theorem fvTo_len (j : JobD) (k : Nat) : (fvTo j k).length = k := by simp [fvTo]
theorem fvTo_succ (j : JobD) (k : Nat) : fvTo j (k + 1) = fvTo j k ++ [firstVal j (k : Int)] := by simp [fvTo, List.range_succ]
def feTo (j : JobD) (l : List EdgeD) (k : Nat) : List Int := (l.take k).map (edgeFe j l)
theorem feTo_len (j : JobD) (l : List EdgeD) (k : Nat) (h : k ≤ l.length) : (feTo j l k).length = k := by simp [feTo]; omega
theorem feTo_succ (j : JobD) (l : List EdgeD) (k : Nat) (h : k < l.length) : feTo j l (k + 1) = feTo j l k ++ [edgeFe j l l[k]] := by
  unfold feTo
  rw [List.take_succ_eq_append_getElem h, List.map_append]
  rfl
theorem outDegs_get {g : GraphD} (h : graphOk g = true) (v : Nat) (hv : v < (outDegs g).length) : (outDegs g)[v] = (degN g.Edges g.Edges.length v : Int) := by
  have e : outDegs g = (List.range g.N.toNat).map fun v => (degN g.Edges g.Edges.length v : Int) := by unfold outDegs; rw [if_pos h]
  simp [e]

def runNew (g : GraphD) (j : JobD) : RunD :=
  if graphOk g && jobOk g.N j then ⟨j, 0, g.N == 0, fvTo j g.N.toNat, feTo j g.Edges g.Edges.length, ⟨g.N, newL g.N true⟩⟩ else ⟨⟨0, 0⟩, 0, false, [], [], ⟨0, []⟩⟩

set_option maxHeartbeats 8000000 in
theorem implRunNew_k (g : GraphD) (j : JobD) (hl : g.Edges.length ≤ 1048576) : FnOK Tryz.prog 6 ⟨1, [(0, some (.ro ((g.Edges).map EdgeD.k)))], [.agg [.v (.int .i64 g.N), .sl 0 3 0 (g.Edges).length], .agg [.v (.int .i64 j.Prog), .v (.int .i64 j.Src)]], .tup [.inr [.v (.int .i64 (runNew g j).Job.Prog), .v (.int .i64 (runNew g j).Job.Src), .v (.int .i64 (runNew g j).Iter), .v (.bool (runNew g j).Done), .sl 1 1 0 ((runNew g j).Vals).length, .sl 2 1 0 ((runNew g j).EVals).length, .v (.int .i64 (runNew g j).Next.N), .sl 3 1 0 ((runNew g j).Next.Bits).length], .inl (.v (.bool (graphOk g && jobOk g.N j)))], [(1, some (.row 3 (((runNew g j).Vals).map intK))), (2, some (.row 3 (((runNew g j).EVals).map intK))), (3, some (.row 5 (((runNew g j).Next.Bits).map bytK)))], 4⟩ := by
  have hs := implGraphOk_k g (by omega)
  have hj := implJobOk_k g.N j
  cases ho : (graphOk g && jobOk g.N j) with
  | false =>
    have e : runNew g j = ⟨⟨0, 0⟩, 0, false, [], [], ⟨0, []⟩⟩ := by unfold runNew; rw [ho]; rfl
    rw [e]
    obtain ⟨v1, e1⟩ : ∃ v, v = graphOk g := ⟨_, rfl⟩
    obtain ⟨v2, e2⟩ : ∃ v, v = jobOk g.N j := ⟨_, rfl⟩
    rw [← e1] at hs
    rw [← e2] at hj
    rw [← e1, ← e2] at ho
    have ho' : v1 = true → v2 = true → False := fun a b => by rw [a, b] at ho; cases ho
    refine fnOK_of true mixed Tryz.func6 rfl (by rfl) (by rfl) ?_
    have hres := congrArg Array.toList Tryz.results6
    simp only [Tryz.ntmps6, BGB, seval]
    (have gx := true_and True; have q1 := hs; have q2 := hj; refine go ?_; (repeat' first | exact Ef.mk | apply Lf.mk | refine fun (K : KT) hK hE hT => ?_ | refine fun (KS : KE) hKS => ?_ | refine fun (D : KD) hD => ?_ | refine fun (hg : (_ : Prop)) => ?_ | fail); all_goals (first | (refine Wr.mk ?_; (try clear gx q1 q2); repeat first | clear hK hE hT K | clear hR hE hT K) | assumption | skip))
    all_goals first
      | (exact (ho' (by assumption) (by assumption)).elim)
      | skip
    all_goals (refine post_a hres (.inl rfl) ?_; simp only [RSB, ENB, seval, tiAll, true_and]; simp only [MAB, seval]; refine ⟨rfl, rfl, ?_, ?_, ?_⟩ <;> (first | rfl | (simp [WKB, Nat.add_comm, true_and]; done) | (simp only [WKB, seval])))
  | true =>
    have e : runNew g j = ⟨j, 0, g.N == 0, fvTo j g.N.toNat, feTo j g.Edges g.Edges.length, ⟨g.N, newL g.N true⟩⟩ := by unfold runNew; rw [ho]; rfl
    rw [e]
    rw [Bool.and_eq_true] at ho
    obtain ⟨ho, hjo⟩ := ho
    rw [ho] at hs
    rw [hjo] at hj
    have hd := implOutDegs_k g hl
    have hn := implSetNew_k g.N true
    obtain ⟨h1, h2, h3, h4⟩ := graphOk_in ho
    have hdl : (outDegs g).length = g.N.toNat := by unfold outDegs; rw [ho]; simp
    obtain ⟨n, l⟩ := g
    dsimp only at *
    obtain ⟨m, rfl⟩ := Int.eq_ofNat_of_zero_le h1
    simp only [Int.toNat_natCast] at hdl ⊢
    obtain ⟨e1, e2⟩ := newN_in (n := m) (by omega)
    rw [e1, e2] at hn
    have hnl : (newL (m : Int) true).length = (m + 7) / 8 := by rw [newL_in (by omega), fullTo_len]
    rw [hnl] at hn ⊢
    refine fnOK_of true mixed Tryz.func6 rfl (by rfl) (by rfl) ?_
    have hres := congrArg Array.toList Tryz.results6
    simp only [Tryz.ntmps6, BGB, seval]
    (have gx := true_and True; have q1 := hs; have q2 := hj; have q3 := hn; refine go ?_; (repeat' first | exact Ef.mk | apply Lf.mk | refine fun (K : KT) hK hE hT => ?_ | refine fun (KS : KE) hKS => ?_ | refine fun (D : KD) hD => ?_ | refine fun (hg : (_ : Prop)) => ?_ | fail); all_goals (first | (refine Wr.mk ?_; (try clear gx q1 q2 q3); repeat first | clear hK hE hT K | clear hR hE hT K) | assumption | skip))
    have hn2 : ∀ k, k ≤ m → (fvTo j k).length = k := fun k _ => fvTo_len j k
    refine loop_v (X := {k : Nat // k ≤ m}) [] (fun x => [(29, .c (.v (.int .i64 ((x.1 : Nat) : Int))))]) (fun x => [(0, some (.ro (l.map EdgeD.k))), (1, some (.box 25 [.v (.int .i64 (m : Int)), .sl 0 3 0 l.length])), (2, some (.box 28 [.v (.int .i64 j.Prog), .v (.int .i64 j.Src)])), (3, some (.box 34 [.v (.int .i64 0), .v (.int .i64 0), .v (.int .i64 0), .v (.bool false), .nil, .nil, .v (.int .i64 0), .nil])), (4, some (.box 34 [.v (.int .i64 j.Prog), .v (.int .i64 j.Src), .v (.int .i64 0), .v (.bool ((m : Int) == 0)), .sl 5 1 0 x.1, .nil, .v (.int .i64 0), .nil])), (5, some (.row 3 ((fvTo j x.1).map intK)))]) 6 (fun x => m - x.1) ⟨0, by omega⟩ ?_
    simp only [KPB, seval]
    refine ⟨?_, ?_⟩
    · (refine wk_a ?_; simp only [MAB, seval]; refine ⟨rfl, rfl, (by decide), ?_, ?_⟩; all_goals (first | (simp only [WKB, seval, fvTo, List.range_zero, List.map_nil]; done) | (simp [WKB, seval, fvTo, List.range_zero, List.map_nil]; done) | simp only [WKB, seval]))
    · rintro ⟨k, hk⟩ K hR hE hT
      have hkl := fvTo_len j k
      rcases Nat.lt_or_ge k m with hlt | hge
      case inl =>
        (have gx := And.intro @List.length_map.{0,0} @hkl; have q1 := implFirstVal_k j (k : Int); refine go ?_; (repeat' first | exact Ef.mk | apply Lf.mk | refine fun (K : KT) hK hE hT => ?_ | refine fun (KS : KE) hKS => ?_ | refine fun (D : KD) hD => ?_ | refine fun (hg : (_ : Prop)) => ?_ | fail); all_goals (first | (refine Wr.mk ?_; (try clear gx q1); repeat first | clear hK hE hT K | clear hR hE hT K) | assumption | skip))
        have e := fvTo_succ j k
        (refine hR.out ⟨k + 1, by omega⟩ _ _ _ (by simp only; omega) ?_; (refine wk_a ?_; simp only [MAB, seval]; refine ⟨rfl, rfl, (by decide), ?_, ?_⟩; all_goals (first | (simp only [WKB, seval, e, List.map_append, intK, List.map_cons, List.map_nil]; done) | (simp [WKB, seval, e, List.map_append, intK, List.map_cons, List.map_nil]; done) | simp only [WKB, seval])))
      case inr =>
        obtain rfl : m = k := by omega
        (have gx := And.intro @List.length_map.{0,0} @hkl; have q1 := hd; refine go ?_; (repeat' first | exact Ef.mk | apply Lf.mk | refine fun (K : KT) hK hE hT => ?_ | refine fun (KS : KE) hKS => ?_ | refine fun (D : KD) hD => ?_ | refine fun (hg : (_ : Prop)) => ?_ | fail); all_goals (first | (refine Wr.mk ?_; (try clear gx q1); repeat first | clear hK hE hT K | clear hR hE hT K) | assumption | skip))
        refine loop_v (X := {i : Nat // i ≤ l.length}) [] (fun x => [(46, .c (.v (.int .i64 ((x.1 : Nat) : Int))))]) (fun x => [(0, some (.ro (l.map EdgeD.k))), (1, some (.box 25 [.v (.int .i64 (m : Int)), .sl 0 3 0 l.length])), (2, some (.box 28 [.v (.int .i64 j.Prog), .v (.int .i64 j.Src)])), (3, some (.box 34 [.v (.int .i64 0), .v (.int .i64 0), .v (.int .i64 0), .v (.bool false), .nil, .nil, .v (.int .i64 0), .nil])), (4, some (.box 34 [.v (.int .i64 j.Prog), .v (.int .i64 j.Src), .v (.int .i64 0), .v (.bool ((m : Int) == 0)), .sl 5 1 0 m, .sl 7 1 0 x.1, .v (.int .i64 0), .nil])), (5, some (.row 3 ((fvTo j m).map intK))), (6, some (.row 3 ((outDegs ⟨(m : Int), l⟩).map intK))), (7, some (.row 3 ((feTo j l x.1).map intK)))]) 8 (fun x => l.length - x.1) ⟨0, by omega⟩ ?_
        simp only [KPB, seval]
        refine ⟨?_, ?_⟩
        · (refine wk_a ?_; simp only [MAB, seval]; refine ⟨rfl, rfl, (by decide), ?_, ?_⟩; all_goals (first | (simp only [WKB, seval, feTo, List.take_zero, List.map_nil]; done) | (simp [WKB, seval, feTo, List.take_zero, List.map_nil]; done) | simp only [WKB, seval]))
        · rintro ⟨i, hi⟩ K hR hE hT
          have hil := feTo_len j l i hi
          rcases Nat.lt_or_ge i l.length with hlt | hge
          case inl =>
            obtain ⟨q1, q2, _⟩ := h4 i hlt
            obtain ⟨v, hv⟩ := Int.eq_ofNat_of_zero_le q1
            have hvm : v < m := by omega
            have hdv := outDegs_get (g := ⟨(m : Int), l⟩) ho v (by omega)
            dsimp only at hdv
            have e := feTo_succ j l i hlt
            have e3 : edgeFe j l l[i] = firstEdge j (v : Int) l[i].To (degN l l.length v : Int) := by unfold edgeFe; rw [hv]; simp
            rw [e3] at e
            (have gx := And.intro (@List.length_map.{0,0}) (And.intro (@List.getElem_map.{0,0}) (And.intro (@EdgeD.k.eq_1) (And.intro (@hv) (And.intro (@hdl) (And.intro (@intK.eq_1) (And.intro @hdv @hil)))))); have q1 := implFirstEdge_k j (v : Int) (l[i]'hlt).To (degN l l.length v : Int); refine go ?_; (repeat' first | exact Ef.mk | apply Lf.mk | refine fun (K : KT) hK hE hT => ?_ | refine fun (KS : KE) hKS => ?_ | refine fun (D : KD) hD => ?_ | refine fun (hg : (_ : Prop)) => ?_ | fail); all_goals (first | (refine Wr.mk ?_; (try clear gx q1); repeat first | clear hK hE hT K | clear hR hE hT K) | assumption | skip))
            (refine hR.out ⟨i + 1, by omega⟩ _ _ _ (by simp only; omega) ?_; (refine wk_a ?_; simp only [MAB, seval]; refine ⟨rfl, rfl, (by decide), ?_, ?_⟩; all_goals (first | (simp only [WKB, seval, e, List.map_append, intK, List.map_cons, List.map_nil]; done) | (simp [WKB, seval, e, List.map_append, intK, List.map_cons, List.map_nil]; done) | simp only [WKB, seval])))
          case inr =>
            obtain rfl : i = l.length := by omega
            (have gx := @List.length_map.{0,0}; have q1 := hn; refine go ?_; (repeat' first | exact Ef.mk | apply Lf.mk | refine fun (K : KT) hK hE hT => ?_ | refine fun (KS : KE) hKS => ?_ | refine fun (D : KD) hD => ?_ | refine fun (hg : (_ : Prop)) => ?_ | fail); all_goals (first | (refine Wr.mk ?_; (try clear gx q1); repeat first | clear hK hE hT K | clear hR hE hT K) | assumption | skip))
            (refine post_a hres (.inl rfl) ?_; simp only [RSB, ENB, seval, tiAll, hkl, hil, hnl]; simp only [MAB, seval]; refine ⟨rfl, rfl, ?_, ?_, ?_⟩ <;> (first | rfl | (simp [WKB, Nat.add_comm, hkl, hil, hnl]; done) | (simp only [WKB, seval])))

end Go.Proofs.YtfnhchcgieeedaaGreat

