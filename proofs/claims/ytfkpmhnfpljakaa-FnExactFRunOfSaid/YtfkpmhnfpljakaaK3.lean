/-
  Contracts: members of sets, valid runs. No conditions of its own.
-/
import Derived.Test.YtfkpmhnfpljakaaGO
import Derived.Test.YtfkpmhnfpljakaaK2
import Derived.Test.YtfkpmhnfpljakaaSetP
namespace Go.Proofs.Ytfkpmhnfpljakaa
set_option linter.unusedSimpArgs false
set_option linter.unusedVariables false
set_option linter.unusedSimpArgs false
set_option linter.unusedVariables false
set_option linter.defProp false
open Go.RowKit

def memI (l : List UInt8) (v : Nat) : Option Int := if bitAt l v then some (v : Int) else none
def membersL (n : Int) (l : List UInt8) : List Int := if setOk n l then fm (memI l) n.toNat else []
theorem membersL_ok {n : Int} {l : List UInt8} (h : setOk n l = true) : membersL n l = fm (memI l) n.toNat := by unfold membersL; rw [h]; rfl
theorem membersL_no {n : Int} {l : List UInt8} (h : setOk n l = false) : membersL n l = [] := by unfold membersL; rw [h]; rfl
theorem membersL_len (n : Int) (l : List UInt8) : (membersL n l).length ≤ 150 := by
  cases h : setOk n l with
  | false => rw [membersL_no h]; simp
  | true =>
    rw [membersL_ok h]
    have := fm_len (memI l) n.toNat
    have := setOk_len h
    omega
theorem memI_hit {l : List UInt8} {v : Nat} (h : bitAt l v = true) : memI l v = some (v : Int) := by simp [memI, h]
theorem memI_miss {l : List UInt8} {v : Nat} (h : bitAt l v = false) : memI l v = none := by simp [memI, h]

theorem hasL_ok {m : Nat} {l : List UInt8} {k : Nat} (h : setOk (m : Int) l = true) (hk : k < m) : hasL (m : Int) l (k : Int) = bitAt l k := by
  unfold hasL
  rw [h]
  simp [hk]

set_option maxHeartbeats 4000000 in
theorem specMembers_k (n : Int) (l : List UInt8) (hl : l.length ≤ 1048576) : FnOK Try.prog 131 ⟨1, [(0, some (.ro (l.map bytK)))], [.agg [.v (.int .i64 n), .sl 0 1 0 l.length]], .c (.sl 1 1 0 (membersL n l).length), [(1, some (.row 3 ((membersL n l).map intK)))], 2⟩ := by
  have hs := specSetOk_k n l hl
  cases ho : setOk n l with
  | false =>
    rw [ho] at hs
    rw [membersL_no ho]
    refine fnOK_of true mixed Try.func131 rfl (by rfl) (by rfl) ?_
    have hres := congrArg Array.toList Try.results131
    simp only [Try.ntmps131, BGB, seval]
    (have gx := And.intro (@List.length_map.{0,0}) (And.intro @List.getElem_map.{0,0} @bytK.eq_1); have q1 := hs; refine go ?_; (repeat' (first | exact Ef.mk | refine Lf.mk ?_ ?_ | refine fun (K : KT) hK hE hT => ?_ | refine fun (KS : Eff → Prop) hKS => ?_ | refine fun (D : List Keys → Prop) hD => ?_ | refine fun (hg : (_ : Prop)) => ?_ | fail)); all_goals (first | (refine Wr.mk ?_; (try clear gx); (try clear q1); repeat (first | (clear hK hE hT; clear K) | (clear hR hE hT; clear K))) | assumption | skip))
    refine loop_v (X := Unit) [5] (fun x => [(3, .c (.sl 2 1 0 0)), (4, .c (.v (.int .i64 0)))]) (fun x => [(0, some (.ro (l.map bytK))), (1, some (.box 56 [.v (.int .i64 n), .sl 0 1 0 l.length])), (2, some (.row 3 []))]) 3 (fun x => 0) () ?_
    simp only [KPB, seval]
    refine ⟨?_, ?_⟩
    · (refine wk_a ?_; simp only [MAB, seval]; refine ⟨rfl, rfl, (by decide), ?_, ?_⟩; all_goals (first | (simp only [WKB, seval, true_and, Nat.reduceLT, Nat.zero_lt_succ]; done) | (simp [WKB, seval, true_and]; done) | simp only [WKB, seval]))
    · rintro ⟨⟩ K hR hE hT
      (have gx := And.intro (@List.length_map.{0,0}) (And.intro @List.getElem_map.{0,0} @bytK.eq_1); have q1 := hs; refine go ?_; (repeat' (first | exact Ef.mk | refine Lf.mk ?_ ?_ | refine fun (K : KT) hK hE hT => ?_ | refine fun (KS : Eff → Prop) hKS => ?_ | refine fun (D : List Keys → Prop) hD => ?_ | refine fun (hg : (_ : Prop)) => ?_ | fail)); all_goals (first | (refine Wr.mk ?_; (try clear gx); (try clear q1); repeat (first | (clear hK hE hT; clear K) | (clear hR hE hT; clear K))) | assumption | skip))
      all_goals (refine post_a hres (.inl rfl) ?_; simp only [RSB, ENB, seval, tiAll, true_and]; simp only [MAB, seval]; refine ⟨rfl, rfl, ?_, ?_, ?_⟩ <;> (first | rfl | (simp [WKB, Nat.add_comm, true_and]; done) | (simp only [WKB, seval])))
  | true =>
    rw [ho] at hs
    obtain ⟨h1, h2, h3, h4⟩ := setOk_len ho
    obtain ⟨m, rfl⟩ := Int.eq_ofNat_of_zero_le h1
    rw [membersL_ok ho]
    simp only [Int.toNat_natCast] at h3 ⊢
    refine fnOK_of true mixed Try.func131 rfl (by rfl) (by rfl) ?_
    have hres := congrArg Array.toList Try.results131
    simp only [Try.ntmps131, BGB, seval]
    (have gx := And.intro (@List.length_map.{0,0}) (And.intro @List.getElem_map.{0,0} @bytK.eq_1); have q1 := hs; refine go ?_; (repeat' (first | exact Ef.mk | refine Lf.mk ?_ ?_ | refine fun (K : KT) hK hE hT => ?_ | refine fun (KS : Eff → Prop) hKS => ?_ | refine fun (D : List Keys → Prop) hD => ?_ | refine fun (hg : (_ : Prop)) => ?_ | fail)); all_goals (first | (refine Wr.mk ?_; (try clear gx); (try clear q1); repeat (first | (clear hK hE hT; clear K) | (clear hR hE hT; clear K))) | assumption | skip))
    refine loop_v (X := {k : Nat // k ≤ m}) [5] (fun x => [(3, .c (.sl 2 1 0 (fm (memI l) x.1).length)), (4, .c (.v (.int .i64 ((x.1 : Nat) : Int))))]) (fun x => [(0, some (.ro (l.map bytK))), (1, some (.box 56 [.v (.int .i64 (m : Int)), .sl 0 1 0 l.length])), (2, some (.row 3 ((fm (memI l) x.1).map intK)))]) 3 (fun x => m - x.1) ⟨0, by omega⟩ ?_
    simp only [KPB, seval]
    refine ⟨?_, ?_⟩
    · (refine wk_a ?_; simp only [MAB, seval]; refine ⟨rfl, rfl, (by decide), ?_, ?_⟩; all_goals (first | (simp only [WKB, seval, fm_zero, Nat.reduceLT, Nat.zero_lt_succ]; done) | (simp [WKB, seval, fm_zero]; done) | simp only [WKB, seval]))
    · rintro ⟨k, hk⟩ K hR hE hT
      have l1 := fm_len (memI l) k
      have hh1 := specHas_k (m : Int) l hl (k : Int)
      rcases Nat.lt_or_ge k m with hlt | hge
      case inr =>
        (have gx := And.intro (@List.length_map.{0,0}) (And.intro (@List.getElem_map.{0,0}) (And.intro @bytK.eq_1 @List.length_map.{0,0})); have q1 := hs; refine go ?_; (repeat' (first | exact Ef.mk | refine Lf.mk ?_ ?_ | refine fun (K : KT) hK hE hT => ?_ | refine fun (KS : Eff → Prop) hKS => ?_ | refine fun (D : List Keys → Prop) hD => ?_ | refine fun (hg : (_ : Prop)) => ?_ | fail)); all_goals (first | (refine Wr.mk ?_; (try clear gx); (try clear q1); repeat (first | (clear hK hE hT; clear K) | (clear hR hE hT; clear K))) | assumption | skip))
        obtain rfl : k = m := by omega
        (refine post_a hres (.inl rfl) ?_; simp only [RSB, ENB, seval, tiAll, true_and]; simp only [MAB, seval]; refine ⟨rfl, rfl, ?_, ?_, ?_⟩ <;> (first | rfl | (simp [WKB, Nat.add_comm, true_and]; done) | (simp only [WKB, seval])))
      case inl =>
        rw [hasL_ok ho hlt] at hh1
        (have gx := And.intro (@List.length_map.{0,0}) (And.intro (@List.getElem_map.{0,0}) (And.intro @bytK.eq_1 @List.length_map.{0,0})); have q1 := hs; have q2 := hh1; refine go ?_; (repeat' (first | exact Ef.mk | refine Lf.mk ?_ ?_ | refine fun (K : KT) hK hE hT => ?_ | refine fun (KS : Eff → Prop) hKS => ?_ | refine fun (D : List Keys → Prop) hD => ?_ | refine fun (hg : (_ : Prop)) => ?_ | fail)); all_goals (first | (refine Wr.mk ?_; (try clear gx); (try clear q1 q2); repeat (first | (clear hK hE hT; clear K) | (clear hR hE hT; clear K))) | assumption | skip))
        · have e := memI_hit (l := l) (v := k) (by assumption)
          (refine hR.out ⟨k + 1, by omega⟩ _ _ _ (by simp only; omega) ?_; (refine wk_a ?_; simp only [MAB, seval]; refine ⟨rfl, rfl, (by decide), ?_, ?_⟩; all_goals (first | (simp only [WKB, seval, fm_some e, intK, Nat.reduceLT, Nat.zero_lt_succ]; done) | (simp [WKB, seval, fm_some e, intK]; done) | simp only [WKB, seval])))
        · have e := memI_miss (l := l) (v := k) (by assumption)
          (refine hR.out ⟨k + 1, by omega⟩ _ _ _ (by simp only; omega) ?_; (refine wk_a ?_; simp only [MAB, seval]; refine ⟨rfl, rfl, (by decide), ?_, ?_⟩; all_goals (first | (simp only [WKB, seval, fm_none e, Nat.reduceLT, Nat.zero_lt_succ]; done) | (simp [WKB, seval, fm_none e]; done) | simp only [WKB, seval])))

def zeroB (x : UInt8) : Bool := decide (x.toNat = 0)
def emptyL (l : List UInt8) : Bool := l.all zeroB

set_option maxHeartbeats 1000000 in
theorem implisEmpty_k (n : Int) (l : List UInt8) (hl : l.length ≤ 1048576) : FnOK Try.prog 135 ⟨1, [(0, some (.ro (l.map bytK)))], [.agg [.v (.int .i64 n), .sl 0 1 0 l.length]], .c (.v (.bool (emptyL l))), [], 1⟩ := by
  refine fnOK_of true mixed Try.func135 rfl (by rfl) (by rfl) ?_
  have hres := congrArg Array.toList Try.results135
  simp only [Try.ntmps135, BGB, seval]
  (have gx := true_and True; refine go ?_; (repeat' (first | exact Ef.mk | refine Lf.mk ?_ ?_ | refine fun (K : KT) hK hE hT => ?_ | refine fun (KS : Eff → Prop) hKS => ?_ | refine fun (D : List Keys → Prop) hD => ?_ | refine fun (hg : (_ : Prop)) => ?_ | fail)); all_goals (first | (refine Wr.mk ?_; (try clear gx); repeat (first | (clear hK hE hT; clear K) | (clear hR hE hT; clear K))) | assumption | skip))
  refine loop_v (X := {k : Nat // k ≤ l.length ∧ Rnd (∀ i (hi : i < l.length), i < k → zeroB l[i] = true)}) [] (fun x => [(8, .c (.v (.int .i64 ((x.1 : Nat) : Int))))]) (fun x => [(0, some (.ro (l.map bytK))), (1, some (.box 56 [.v (.int .i64 n), .sl 0 1 0 l.length]))]) 2 (fun x => l.length - x.1) ⟨0, by omega, ⟨fun i hi h => by omega⟩⟩ ?_
  simp only [KPB, seval]
  refine ⟨?_, ?_⟩
  · (refine wk_a ?_; simp only [MAB, seval]; refine ⟨rfl, rfl, (by decide), ?_, ?_⟩; all_goals (first | (simp only [WKB, seval, true_and, Nat.reduceLT, Nat.zero_lt_succ]; done) | (simp [WKB, seval, true_and]; done) | simp only [WKB, seval]))
  · rintro ⟨k, hk, hi⟩ K hR hE hT
    (have gx := And.intro (@List.length_map.{0,0}) (And.intro @List.getElem_map.{0,0} @bytK.eq_1); refine go ?_; (repeat' (first | exact Ef.mk | refine Lf.mk ?_ ?_ | refine fun (K : KT) hK hE hT => ?_ | refine fun (KS : Eff → Prop) hKS => ?_ | refine fun (D : List Keys → Prop) hD => ?_ | refine fun (hg : (_ : Prop)) => ?_ | fail)); all_goals (first | (refine Wr.mk ?_; (try clear gx); repeat (first | (clear hK hE hT; clear K) | (clear hR hE hT; clear K))) | assumption | skip))
    · have e : zeroB (l[k]'(by omega)) = false := by unfold zeroB; rw [decide_eq_false_iff_not]; omega
      (refine post_a hres (.inl rfl) ?_; simp only [RSB, ENB, seval, tiAll, emptyL, all_no (p := zeroB) (by omega) e]; simp only [MAB, seval]; refine ⟨rfl, rfl, ?_, ?_, ?_⟩ <;> (first | rfl | (simp [WKB, Nat.add_comm, emptyL, all_no (p := zeroB) (by omega) e]; done) | (simp only [WKB, seval])))
    · have e : zeroB (l[k]'(by omega)) = true := by unfold zeroB; rw [decide_eq_true_eq]; omega
      (refine hR.out ⟨k + 1, by omega, ⟨all_more hi.out (by omega) e⟩⟩ _ _ _ (by simp only; omega) ?_; (refine wk_a ?_; simp only [MAB, seval]; refine ⟨rfl, rfl, (by decide), ?_, ?_⟩; all_goals (first | (simp only [WKB, seval, true_and, Nat.reduceLT, Nat.zero_lt_succ]; done) | (simp [WKB, seval, true_and]; done) | simp only [WKB, seval])))
    · (refine post_a hres (.inl rfl) ?_; simp only [RSB, ENB, seval, tiAll, emptyL, all_yes (p := zeroB) (k := k) (by omega) hi.out]; simp only [MAB, seval]; refine ⟨rfl, rfl, ?_, ?_, ?_⟩ <;> (first | rfl | (simp [WKB, Nat.add_comm, emptyL, all_yes (p := zeroB) (k := k) (by omega) hi.out]; done) | (simp only [WKB, seval])))

theorem byte_zero {x : UInt8} (hb : ∀ k, k < 8 → x.toNat / 2 ^ k % 2 = 0) : x.toNat = 0 := by
  have : x = 0 := u8_ext fun k hk => by
    rw [Nat.testBit_eq_decide_div_mod_eq, hb k hk]
    simp
  rw [this]; rfl

theorem fm_nil {α : Type} {f : Nat → Option α} {n : Nat} : fm f n = [] ↔ ∀ i, i < n → f i = none := by
  induction n with
  | zero => simp [fm_zero]
  | succ n ih =>
    cases h : f n with
    | none =>
      rw [fm_none h, ih]
      constructor
      · intro h1 i hi
        by_cases hin : i = n
        · subst hin; exact h
        · exact h1 i (by omega)
      · exact fun h1 i hi => h1 i (by omega)
    | some x =>
      rw [fm_some h]
      constructor
      · intro h1; simp at h1
      · intro h1; have := h1 n (by omega); rw [h] at this; cases this

theorem empty_members {n : Int} {l : List UInt8} (ho : setOk n l = true) : emptyL l = decide ((membersL n l).length = 0) := by
  obtain ⟨h1, h2, h3, h4⟩ := setOk_len ho
  rw [membersL_ok ho, Bool.eq_iff_iff, decide_eq_true_eq, List.length_eq_zero_iff, fm_nil]
  unfold emptyL
  rw [List.all_eq_true]
  constructor
  · intro h i hi
    refine memI_miss ?_
    unfold bitAt
    rw [decide_eq_false_iff_not]
    have hil : i / 8 < l.length := by omega
    have := h l[i / 8] (List.getElem_mem hil)
    simp only [zeroB, decide_eq_true_eq] at this
    simp [List.getD, hil, this]
  · intro h x hx
    obtain ⟨i, hi, rfl⟩ := List.getElem_of_mem hx
    simp only [zeroB, decide_eq_true_eq]
    refine byte_zero fun k hk => ?_
    have hb : bitAt l (8 * i + k) = false := by
      by_cases hlt : 8 * i + k < n.toNat
      · have := h _ hlt
        unfold memI at this
        cases hb : bitAt l (8 * i + k) with
        | false => rfl
        | true => rw [hb] at this; simp at this
      · have ho' := ho
        unfold setOk at ho'
        simp only [decide_eq_true_eq] at ho'
        exact ho'.2.2.2 _ (by omega) (by omega)
    unfold bitAt at hb
    rw [decide_eq_false_iff_not] at hb
    have e1 : (8 * i + k) / 8 = i := by omega
    have e2 : (8 * i + k) % 8 = k := by omega
    rw [e1, e2] at hb
    simp [List.getD, hi] at hb
    omega

/-- Is the run valid? -/
def runOk (g : GraphD) (r : RunD) : Bool :=
  graphOk g && jobOk g.N r.Job && decide (0 ≤ r.Iter ∧ r.Iter ≤ 1000 ∧ (r.Vals.length : Int) = g.N ∧ r.EVals.length = g.Edges.length) && r.Vals.all valOk && r.EVals.all valOk &&
    setOk r.Next.N r.Next.Bits && (r.Next.N == g.N) && (r.Done == emptyL r.Next.Bits)


set_option maxHeartbeats 8000000 in
theorem implRunOk_k (g : GraphD) (r : RunD) (hg : g.Edges.length ≤ 1048576) (hr : (r.Vals).length ≤ 1048576 ∧ (r.EVals).length ≤ 1048576 ∧ (r.Next.Bits).length ≤ 1048576) : FnOK Try.prog 79 ⟨4, [(0, some (.ro ((g.Edges).map EdgeD.k))), (1, some (.ro ((r.Vals).map intK))), (2, some (.ro ((r.EVals).map intK))), (3, some (.ro ((r.Next.Bits).map bytK)))], [.agg [.v (.int .i64 g.N), .sl 0 3 0 (g.Edges).length], .agg [.v (.int .i64 r.Job.Prog), .v (.int .i64 r.Job.Src), .v (.int .i64 r.Iter), .v (.bool r.Done), .sl 1 1 0 (r.Vals).length, .sl 2 1 0 (r.EVals).length, .v (.int .i64 r.Next.N), .sl 3 1 0 (r.Next.Bits).length]], .c (.v (.bool (runOk g r))), [], 4⟩ := by
  obtain ⟨h0, h1, h2⟩ := hr
  have c1 := implGraphOk_k g (by omega)
  have c2 := implJobOk_k g.N r.Job
  have c3 := areValues_k r.Vals (by omega)
  have c4 := areValues_k r.EVals (by omega)
  have c5 := implSetOk_k r.Next.N r.Next.Bits h2
  obtain ⟨v1, e1⟩ : ∃ v, v = graphOk g := ⟨_, rfl⟩
  obtain ⟨v2, e2⟩ : ∃ v, v = jobOk g.N r.Job := ⟨_, rfl⟩
  obtain ⟨v3, e3⟩ : ∃ v, v = r.Vals.all valOk := ⟨_, rfl⟩
  obtain ⟨v4, e4⟩ : ∃ v, v = r.EVals.all valOk := ⟨_, rfl⟩
  obtain ⟨v5, e5⟩ : ∃ v, v = setOk r.Next.N r.Next.Bits := ⟨_, rfl⟩
  obtain ⟨v6, e6⟩ : ∃ v, v = emptyL r.Next.Bits := ⟨_, rfl⟩
  obtain ⟨v7, e70⟩ : ∃ v, v = decide (0 ≤ r.Iter ∧ r.Iter ≤ 1000 ∧ (r.Vals.length : Int) = g.N ∧ r.EVals.length = g.Edges.length) := ⟨_, rfl⟩
  unfold runOk
  rw [← e1] at c1
  rw [← e2] at c2
  rw [← e3] at c3
  rw [← e4] at c4
  rw [← e5] at c5
  rw [← e1, ← e2, ← e3, ← e4, ← e5, ← e6, ← e70]
  have c6 := implisEmpty_k r.Next.N r.Next.Bits h2
  rw [← e6] at c6
  refine fnOK_of true mixed Try.func79 rfl (by rfl) (by rfl) ?_
  have hres := congrArg Array.toList Try.results79
  simp only [Try.ntmps79, BGB, seval]
  (have gx := And.intro (@List.length_map.{0,0}) (And.intro (@List.getElem_map.{0,0}) (And.intro @bytK.eq_1 @List.length_map.{0,0})); have q1 := c1; have q2 := c2; have q3 := c3; have q4 := c4; have q5 := c5; have q6 := c6; refine go ?_; (repeat' (first | exact Ef.mk | refine Lf.mk ?_ ?_ | refine fun (K : KT) hK hE hT => ?_ | refine fun (KS : Eff → Prop) hKS => ?_ | refine fun (D : List Keys → Prop) hD => ?_ | refine fun (hg : (_ : Prop)) => ?_ | fail)); all_goals (first | (refine Wr.mk ?_; (try clear gx); (try clear q1 q2 q3 q4 q5 q6); repeat (first | (clear hK hE hT; clear K) | (clear hR hE hT; clear K))) | assumption | skip))
  all_goals (refine post_a hres (.inl rfl) ?_; simp only [RSB, ENB, seval, tiAll, true_and]; simp only [MAB, seval]; refine ⟨rfl, rfl, ?_, ?_, ?_⟩ <;> (first | rfl | (simp [WKB, Nat.add_comm, true_and]; done) | (simp only [WKB, seval])))
  all_goals (refine congrArg (fun b => SV.c (CV.v (Value.bool b))) ?_; clear c1 c2 c3 c4 c5 c6 e1 e2 e3 e4 e5 e6 hres)
  all_goals try rw [e7 (by assumption)]
  all_goals try clear e7
  all_goals first
    | (simp only [Bool.true_and, Bool.and_true, Bool.false_and, Bool.and_false, *]; done)
    | (have e9 : v7 = true := by rw [e70, decide_eq_true_eq]; omega
       clear e70
       simp [*]; done)
    | (have e9 : v7 = false := by rw [e70, decide_eq_false_iff_not]; omega
       clear e70
       simp [*]; done)

theorem members_zero {n : Int} {l : List UInt8} (ho : setOk n l = true) : (((membersL n l).length : Int) == 0) = emptyL l := by
  rw [empty_members ho, Bool.eq_iff_iff, beq_iff_eq, decide_eq_true_eq]
  omega

set_option maxHeartbeats 8000000 in
theorem specRunOk_k (g : GraphD) (r : RunD) (hg : g.Edges.length ≤ 1048576) (hr : (r.Vals).length ≤ 1048576 ∧ (r.EVals).length ≤ 1048576 ∧ (r.Next.Bits).length ≤ 1048576) : FnOK Try.prog 74 ⟨4, [(0, some (.ro ((g.Edges).map EdgeD.k))), (1, some (.ro ((r.Vals).map intK))), (2, some (.ro ((r.EVals).map intK))), (3, some (.ro ((r.Next.Bits).map bytK)))], [.agg [.v (.int .i64 g.N), .sl 0 3 0 (g.Edges).length], .agg [.v (.int .i64 r.Job.Prog), .v (.int .i64 r.Job.Src), .v (.int .i64 r.Iter), .v (.bool r.Done), .sl 1 1 0 (r.Vals).length, .sl 2 1 0 (r.EVals).length, .v (.int .i64 r.Next.N), .sl 3 1 0 (r.Next.Bits).length]], .c (.v (.bool (runOk g r))), [], 4⟩ := by
  obtain ⟨h0, h1, h2⟩ := hr
  have c1 := specGraphOk_k g (by omega)
  have c2 := specJobOk_k g.N r.Job
  have c3 := l11Vals_k r.Vals (by omega)
  have c4 := l11Vals_k r.EVals (by omega)
  have c5 := specSetOk_k r.Next.N r.Next.Bits h2
  obtain ⟨v1, e1⟩ : ∃ v, v = graphOk g := ⟨_, rfl⟩
  obtain ⟨v2, e2⟩ : ∃ v, v = jobOk g.N r.Job := ⟨_, rfl⟩
  obtain ⟨v3, e3⟩ : ∃ v, v = r.Vals.all valOk := ⟨_, rfl⟩
  obtain ⟨v4, e4⟩ : ∃ v, v = r.EVals.all valOk := ⟨_, rfl⟩
  obtain ⟨v5, e5⟩ : ∃ v, v = setOk r.Next.N r.Next.Bits := ⟨_, rfl⟩
  obtain ⟨v6, e6⟩ : ∃ v, v = emptyL r.Next.Bits := ⟨_, rfl⟩
  obtain ⟨v7, e70⟩ : ∃ v, v = decide (0 ≤ r.Iter ∧ r.Iter ≤ 1000 ∧ (r.Vals.length : Int) = g.N ∧ r.EVals.length = g.Edges.length) := ⟨_, rfl⟩
  unfold runOk
  rw [← e1] at c1
  rw [← e2] at c2
  rw [← e3] at c3
  rw [← e4] at c4
  rw [← e5] at c5
  rw [← e1, ← e2, ← e3, ← e4, ← e5, ← e6, ← e70]
  have c6 := specMembers_k r.Next.N r.Next.Bits h2
  have e7 : v5 = true → (((membersL r.Next.N r.Next.Bits).length : Int) == 0) = v6 := fun h => by rw [e6]; exact members_zero (by rw [← e5]; exact h)
  have e8 := membersL_len r.Next.N r.Next.Bits
  refine fnOK_of true mixed Try.func74 rfl (by rfl) (by rfl) ?_
  have hres := congrArg Array.toList Try.results74
  simp only [Try.ntmps74, BGB, seval]
  (have gx := And.intro (@List.length_map.{0,0}) (And.intro (@List.getElem_map.{0,0}) (And.intro @bytK.eq_1 @List.length_map.{0,0})); have q1 := c1; have q2 := c2; have q3 := c3; have q4 := c4; have q5 := c5; have q6 := c6; refine go ?_; (repeat' (first | exact Ef.mk | refine Lf.mk ?_ ?_ | refine fun (K : KT) hK hE hT => ?_ | refine fun (KS : Eff → Prop) hKS => ?_ | refine fun (D : List Keys → Prop) hD => ?_ | refine fun (hg : (_ : Prop)) => ?_ | fail)); all_goals (first | (refine Wr.mk ?_; (try clear gx); (try clear q1 q2 q3 q4 q5 q6); repeat (first | (clear hK hE hT; clear K) | (clear hR hE hT; clear K))) | assumption | skip))
  all_goals (refine post_a hres (.inl rfl) ?_; simp only [RSB, ENB, seval, tiAll, true_and]; simp only [MAB, seval]; refine ⟨rfl, rfl, ?_, ?_, ?_⟩ <;> (first | rfl | (simp [WKB, Nat.add_comm, true_and]; done) | (simp only [WKB, seval])))
  all_goals (refine congrArg (fun b => SV.c (CV.v (Value.bool b))) ?_; clear c1 c2 c3 c4 c5 c6 e1 e2 e3 e4 e5 e6 hres)
  all_goals try rw [e7 (by assumption)]
  all_goals try clear e7
  all_goals first
    | (simp only [Bool.true_and, Bool.and_true, Bool.false_and, Bool.and_false, *]; done)
    | (have e9 : v7 = true := by rw [e70, decide_eq_true_eq]; omega
       clear e70
       simp [*]; done)
    | (have e9 : v7 = false := by rw [e70, decide_eq_false_iff_not]; omega
       clear e70
       simp [*]; done)

end Go.Proofs.Ytfkpmhnfpljakaa
