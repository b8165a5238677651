/-
  Texts F3 F4 F6 N11 P3 W5p in one. No conditions of its own.
-/
import Derived.Test.YtfdhdkljpeohlaaGreatDoorGO
import Derived.Test.YtfdhdkljpeohlaaGreatDoorF2
import Derived.Test.YtfdhdkljpeohlaaGreatDoorMNA
import Derived.Test.YtfdhdkljpeohlaaGreatDoorMKA
import Derived.Test.YtfdhdkljpeohlaaGreatDoorZz2
import Derived.Test.YtfdhdkljpeohlaaGreatDoorMNC
import Derived.Test.YtfdhdkljpeohlaaGreatDoorMNB
import Derived.Test.YtfdhdkljpeohlaaGreatDoorZz4
import Derived.Test.YtfdhdkljpeohlaaGreatDoorMW
namespace Go.Proofs.YtfdhdkljpeohlaaGreatDoor
set_option linter.unusedSimpArgs false
set_option linter.unusedVariables false
set_option linter.unusedSimpArgs false
set_option linter.unusedVariables false
set_option linter.defProp false
open Go.RowKit

def frO (k : Int) (d : List UInt8) : Bool := decide (1 ≤ k ∧ k ≤ 3 ∧ d.length ≤ 60000)

theorem isFrameKind_k (k : Int) : FnOK Tryz.prog 89 ⟨0, [], [.c (.v (.int .i64 k))], .c (.v (.bool (decide (1 ≤ k ∧ k ≤ 3)))), [], 0⟩ := by
  refine fnOK_of true mixed Tryz.func89 rfl (by rfl) (by rfl) ?_
  have hres := congrArg Array.toList Tryz.results89
  simp only [Tryz.ntmps89, BGB, seval]
  (have gx := true_and True; refine go ?_; (repeat' first | exact Ef.mk | apply Lf.mk | refine fun (K : KT) hK hE hT => ?_ | refine fun (KS : KE) hKS => ?_ | refine fun (D : KD) hD => ?_ | refine fun (hg : (_ : Prop)) => ?_ | fail); all_goals (first | (refine Wr.mk ?_; (try clear gx); repeat first | clear hK hE hT K | clear hR hE hT K) | assumption | skip))
  all_goals (refine post_a hres (.inl rfl) ?_; simp only [RSB, ENB, seval, tiAll, true_and]; simp only [MAB, seval]; refine ⟨rfl, rfl, ?_, ?_, ?_⟩ <;> (first | rfl | (simp [WKB, Nat.add_comm, true_and]; done) | (simp only [WKB, seval])))
  all_goals (refine congrArg (fun b => SV.c (CV.v (Value.bool b))) ?_; symm; first | (rw [decide_eq_false_iff_not]; omega) | (rw [decide_eq_true_eq]; omega) | (rw [decide_eq_decide]; omega) | (rw [Bool.eq_iff_iff]; simp only [decide_eq_true_eq, beq_iff_eq]; omega))


set_option maxHeartbeats 2000000 in
theorem implFrameOk_k (k : Int) (d : List UInt8) (hd : d.length ≤ 1048576) : FnOK Tryz.prog 65 ⟨1, [(0, some (.ro (d.map bytK)))], [.agg [.v (.int .i64 k), .sl 0 1 0 d.length]], .c (.v (.bool (frO k d))), [], 1⟩ := by
  refine fnOK_of true mixed Tryz.func65 rfl (by rfl) (by rfl) ?_
  have hres := congrArg Array.toList Tryz.results65
  simp only [Tryz.ntmps65, BGB, seval]
  (have gx := And.intro (@List.length_map.{0,0}) (And.intro @List.getElem_map.{0,0} @bytK.eq_1); have q1 := isFrameKind_k k; refine go ?_; (repeat' first | exact Ef.mk | apply Lf.mk | refine fun (K : KT) hK hE hT => ?_ | refine fun (KS : KE) hKS => ?_ | refine fun (D : KD) hD => ?_ | refine fun (hg : (_ : Prop)) => ?_ | fail); all_goals (first | (refine Wr.mk ?_; (try clear gx q1); repeat first | clear hK hE hT K | clear hR hE hT K) | assumption | skip))
  all_goals (refine post_a hres (.inl rfl) ?_; simp only [RSB, ENB, seval, tiAll, frO]; simp only [MAB, seval]; refine ⟨rfl, rfl, ?_, ?_, ?_⟩ <;> (first | rfl | (simp [WKB, Nat.add_comm, frO]; done) | (simp only [WKB, seval])))
  all_goals (refine congrArg (fun b => SV.c (CV.v (Value.bool b))) ?_; symm; first | (rw [decide_eq_false_iff_not]; omega) | (rw [decide_eq_true_eq]; omega) | (rw [decide_eq_decide]; omega) | (rw [Bool.eq_iff_iff]; simp only [decide_eq_true_eq, beq_iff_eq]; omega))

theorem crcN_max (l : List UInt8) : crcN l ≤ 4294967295 := by
  have h := crcRun_lt l 4294967295 (by omega)
  have : crcN l < 4294967296 := xor_lt32 h (by omega)
  omega

def fbR (k : Nat) (d : List UInt8) : List UInt8 := if frO k d then fbL k d else []

set_option maxHeartbeats 4000000 in
theorem implFrameBytes_k (k : Nat) (d : List UInt8) (hk : 1 ≤ k ∧ k ≤ 3) (hd : d.length ≤ 1048576) : FnOK Tryz.prog 27 ⟨1, [(0, some (.ro (d.map bytK)))], [.agg [.v (.int .i64 (k : Int)), .sl 0 1 0 d.length]],
    .tup [.inl (.sl 1 1 0 (fbR k d).length), .inl (.v (.bool (frO k d)))], [(1, some (.row 5 ((fbR k d).map bytK)))], 2⟩ := by
  have co := implFrameOk_k (k : Int) d hd
  cases ho : frO k d with
  | false =>
    have e : fbR k d = [] := by unfold fbR; rw [ho]; rfl
    rw [ho] at co
    rw [e]
    refine fnOK_of true mixed Tryz.func27 rfl (by rfl) (by rfl) ?_
    have hres := congrArg Array.toList Tryz.results27
    simp only [Tryz.ntmps27, BGB, seval]
    (have gx := And.intro (@List.length_map.{0,0}) (And.intro @List.getElem_map.{0,0} @bytK.eq_1); have q1 := co; refine go ?_; (repeat' first | exact Ef.mk | apply Lf.mk | refine fun (K : KT) hK hE hT => ?_ | refine fun (KS : KE) hKS => ?_ | refine fun (D : KD) hD => ?_ | refine fun (hg : (_ : Prop)) => ?_ | fail); all_goals (first | (refine Wr.mk ?_; (try clear gx q1); repeat first | clear hK hE hT K | clear hR hE hT K) | assumption | skip))
    (refine post_a hres (.inl rfl) ?_; simp only [RSB, ENB, seval, tiAll, true_and]; simp only [MAB, seval]; refine ⟨rfl, rfl, ?_, ?_, ?_⟩ <;> (first | rfl | (simp [WKB, Nat.add_comm, true_and]; done) | (simp only [WKB, seval])))
  | true =>
    have e : fbR k d = fbL k d := by unfold fbR; rw [ho]; rfl
    rw [ho] at co
    unfold frO at ho
    rw [decide_eq_true_eq] at ho
    have m1 := crcN_max (hdB k d)
    have m2 := crcN_max d
    have l1 := hdB_len k d
    have l2 := h2B_len k d
    have l3 := h3B_len k d
    have b1 : IntKind.u8.wrap (k : Int) = ((UInt8.ofNat k).toNat : Int) := by
      rw [IntWalk.u8_in _ ⟨by omega, by omega⟩, UInt8.toNat_ofNat']
      omega
    have c1 := putFix_k [71, UInt8.ofNat k] d.length (by simp) (by omega)
    have c2 := implCrc_k (hdB k d) (by omega)
    have c3 := putFix_k (hdB k d) (crcN (hdB k d)) (by omega) (by omega)
    have c4 := implCrc_k d (by omega)
    have c5 := putFix_k (h2B k d) (crcN d) (by omega) (by omega)
    change FnOK _ _ ⟨_, _, _, .c (.sl 1 1 0 (hdB k d).length), [_, (1, some (.row _ ((hdB k d).map bytK)))], _⟩ at c1
    change FnOK _ _ ⟨_, _, _, .c (.sl 1 1 0 (h2B k d).length), [_, (1, some (.row _ ((h2B k d).map bytK)))], _⟩ at c3
    change FnOK _ _ ⟨_, _, _, .c (.sl 1 1 0 (h3B k d).length), [_, (1, some (.row _ ((h3B k d).map bytK)))], _⟩ at c5
    rw [l1] at c1 c2 c3
    rw [l2] at c3 c5
    rw [l3] at c5
    have l4 := fbL_len k d
    rw [e, l4]
    have e2 : (fbL k d).map bytK = (h3B k d).map bytK ++ d.map bytK := by unfold fbL; rw [List.map_append]
    rw [e2]
    have u71 : ((71 : UInt8).toNat : Int) = 71 := rfl
    have t1 : ((hdB k d).map bytK).take 8 = (hdB k d).map bytK := List.take_of_length_le (by simp [l1])
    refine fnOK_of true mixed Tryz.func27 rfl (by rfl) (by rfl) ?_
    have hres := congrArg Array.toList Tryz.results27
    simp only [Tryz.ntmps27, BGB, seval]
    (have gx := And.intro (@List.length_map.{0,0}) (And.intro (@List.getElem_map.{0,0}) (And.intro (@bytK.eq_1) (And.intro (@b1) (And.intro (@u71) (And.intro (@map_take) (And.intro (@t1) (And.intro (@l1) (And.intro @l2 @l3)))))))); have q1 := co; have q2 := c1; have q3 := c2; have q4 := c3; have q5 := c4; have q6 := c5; refine go ?_; (repeat' first | exact Ef.mk | apply Lf.mk | refine fun (K : KT) hK hE hT => ?_ | refine fun (KS : KE) hKS => ?_ | refine fun (D : KD) hD => ?_ | refine fun (hg : (_ : Prop)) => ?_ | fail); all_goals (first | (refine Wr.mk ?_; (try clear gx q1 q2 q3 q4 q5 q6); repeat first | clear hK hE hT K | clear hR hE hT K) | assumption | skip))
    (refine post_a hres (.inl rfl) ?_; simp only [RSB, ENB, seval, tiAll, true_and]; simp only [MAB, seval]; refine ⟨rfl, rfl, ?_, ?_, ?_⟩ <;> (first | rfl | (simp [WKB, Nat.add_comm, true_and]; done) | (simp only [WKB, seval])))

end Go.Proofs.YtfdhdkljpeohlaaGreatDoor


namespace Go.Proofs.YtfdhdkljpeohlaaGreatDoor
set_option linter.unusedSimpArgs false
set_option linter.unusedVariables false
set_option linter.unusedSimpArgs false
set_option linter.unusedVariables false
set_option linter.defProp false
open Go.RowKit

def lbO (l : List Int) : Bool := decide (l.length ≤ 400) && l.all pvO
/-- The first k numbers of a list behind its length. -/
def lbT (l : List Int) (k : Nat) : List UInt8 := varB l.length ++ (l.take k).flatMap fun n => fixB n.toNat
def lbL (l : List Int) : List UInt8 := lbT l l.length
def lbR (l : List Int) : List UInt8 := if lbO l then lbL l else []

theorem lbT_zero (l : List Int) : lbT l 0 = varB l.length := by simp [lbT]
theorem lbT_succ {l : List Int} {k : Nat} (h : k < l.length) : lbT l (k + 1) = lbT l k ++ fixB l[k].toNat := by
  unfold lbT
  rw [List.take_succ_eq_append_getElem h, List.flatMap_append, List.append_assoc]
  simp
theorem lbT_len {l : List Int} (hl : l.length ≤ 400) : ∀ k, (lbT l k).length ≤ 7 + 6 * k
  | 0 => by rw [lbT_zero]; have := varB_len7 (n := l.length) (by omega); omega
  | k + 1 => by
    have ih := lbT_len hl k
    rcases Nat.lt_or_ge k l.length with h | h
    · rw [lbT_succ h, List.length_append, fixB_len]; omega
    · unfold lbT at ih ⊢
      rw [List.take_of_length_le (by omega)] at ih ⊢
      omega

/-- The first numbers of a list are in range. -/
def prO (l : List Int) (k : Nat) : Prop := ∀ i (h : i < l.length), i < k → pvO l[i] = true
theorem prO_succ {l : List Int} {k : Nat} (h : prO l k) (hk : k < l.length) (hv : pvO l[k] = true) : prO l (k + 1) := fun i hi hik => by
  by_cases e : i = k
  · subst e; exact hv
  · exact h i hi (by omega)
theorem lbO_end {l : List Int} (hl : l.length ≤ 400) (h : prO l l.length) : lbO l = true := by
  unfold lbO
  rw [decide_eq_true hl, Bool.true_and, List.all_eq_true]
  intro x hx
  obtain ⟨i, hi, rfl⟩ := List.mem_iff_getElem.1 hx
  exact h i hi hi
theorem lbO_bad {l : List Int} {k : Nat} (hk : k < l.length) (hv : pvO l[k] = false) : lbO l = false := by
  unfold lbO
  cases h : l.all pvO with
  | false => rw [Bool.and_false]
  | true =>
    rw [List.all_eq_true] at h
    rw [h _ (List.getElem_mem hk)] at hv
    cases hv
theorem lbO_long {l : List Int} (h : ¬ l.length ≤ 400) : lbO l = false := by
  unfold lbO
  rw [decide_eq_false h]
  rfl

set_option maxHeartbeats 4000000 in
theorem implListBytes_k (l : List Int) (hl : l.length ≤ 1048576) : FnOK Tryz.prog 17 ⟨1, [(0, some (.ro (l.map intK)))], [.c (.sl 0 1 0 l.length)],
    .tup [.inl (.sl 1 1 0 (lbR l).length), .inl (.v (.bool (lbO l)))], [(1, some (.row 5 ((lbR l).map bytK)))], 2⟩ := by
  by_cases hlen : l.length ≤ 400
  case neg =>
    have e := lbO_long hlen
    have e2 : lbR l = [] := by unfold lbR; rw [e]; rfl
    rw [e, e2]
    refine fnOK_of true mixed Tryz.func17 rfl (by rfl) (by rfl) ?_
    have hres := congrArg Array.toList Tryz.results17
    simp only [Tryz.ntmps17, BGB, seval]
    (have gx := And.intro (@List.length_map.{0,0}) (And.intro (@List.getElem_map.{0,0}) (And.intro @bytK.eq_1 @List.length_map.{0,0})); refine go ?_; (repeat' first | exact Ef.mk | apply Lf.mk | refine fun (K : KT) hK hE hT => ?_ | refine fun (KS : KE) hKS => ?_ | refine fun (D : KD) hD => ?_ | refine fun (hg : (_ : Prop)) => ?_ | fail); all_goals (first | (refine Wr.mk ?_; (try clear gx); repeat first | clear hK hE hT K | clear hR hE hT K) | assumption | skip))
    all_goals (refine post_a hres (.inl rfl) ?_; simp only [RSB, ENB, seval, tiAll, true_and]; simp only [MAB, seval]; refine ⟨rfl, rfl, ?_, ?_, ?_⟩ <;> (first | rfl | (simp [WKB, Nat.add_comm, true_and]; done) | (simp only [WKB, seval])))
  case pos =>
    have c0 := putVar0_k l.length (by omega)
    refine fnOK_of true mixed Tryz.func17 rfl (by rfl) (by rfl) ?_
    have hres := congrArg Array.toList Tryz.results17
    simp only [Tryz.ntmps17, BGB, seval]
    (have gx := And.intro (@List.length_map.{0,0}) (And.intro (@List.getElem_map.{0,0}) (And.intro @bytK.eq_1 @List.length_map.{0,0})); have q1 := c0; refine go ?_; (repeat' first | exact Ef.mk | apply Lf.mk | refine fun (K : KT) hK hE hT => ?_ | refine fun (KS : KE) hKS => ?_ | refine fun (D : KD) hD => ?_ | refine fun (hg : (_ : Prop)) => ?_ | fail); all_goals (first | (refine Wr.mk ?_; (try clear gx q1); repeat first | clear hK hE hT K | clear hR hE hT K) | assumption | skip))
    refine loop_v (X := {k : Nat // k ≤ l.length ∧ Rnd (prO l k)}) [12] (fun x => [(15, .c (.v (.int .i64 ((x.1 : Nat) : Int)))), (4, .c (.sl 1 1 0 (lbT l x.1).length))]) (fun x => [(0, some (.ro (l.map intK))), (1, some (.row 5 ((lbT l x.1).map bytK)))]) 2 (fun x => l.length - x.1) ⟨0, by omega, ⟨fun i h hi => absurd hi (by omega)⟩⟩ ?_
    simp only [KPB, seval]
    refine ⟨?_, ?_⟩
    · (refine wk_a ?_; simp only [MAB, seval]; refine ⟨rfl, rfl, (by decide), ?_, ?_⟩; all_goals (first | (simp only [WKB, seval, lbT_zero]; done) | (simp [WKB, seval, lbT_zero]; done) | simp only [WKB, seval]))
    · rintro ⟨k, hk, hr⟩ K hR hE hT
      have hlb := lbT_len hlen k
      rcases Nat.lt_or_ge k l.length with hlt | hge
      case inr =>
        obtain rfl : k = l.length := by omega
        have e := lbO_end hlen hr.out
        have e2 : lbR l = lbT l l.length := by unfold lbR; rw [e]; rfl
        (have gx := And.intro (@List.length_map.{0,0}) (And.intro (@List.getElem_map.{0,0}) (And.intro @bytK.eq_1 @List.length_map.{0,0})); refine go ?_; (repeat' first | exact Ef.mk | apply Lf.mk | refine fun (K : KT) hK hE hT => ?_ | refine fun (KS : KE) hKS => ?_ | refine fun (D : KD) hD => ?_ | refine fun (hg : (_ : Prop)) => ?_ | fail); all_goals (first | (refine Wr.mk ?_; (try clear gx); repeat first | clear hK hE hT K | clear hR hE hT K) | assumption | skip))
        (refine post_a hres (.inl rfl) ?_; simp only [RSB, ENB, seval, tiAll, e, e2]; simp only [MAB, seval]; refine ⟨rfl, rfl, ?_, ?_, ?_⟩ <;> (first | rfl | (simp [WKB, Nat.add_comm, e, e2]; done) | (simp only [WKB, seval])))
      case inl =>
        cases hv : pvO l[k] with
        | false =>
          have hv' := hv
          unfold pvO at hv'
          rw [decide_eq_false_iff_not] at hv'
          have cn := isNumber_k l[k]
          rw [decide_eq_false hv'] at cn
          have e := lbO_bad hlt hv
          have e2 : lbR l = [] := by unfold lbR; rw [e]; rfl
          (have gx := And.intro (@List.length_map.{0,0}) (And.intro (@List.getElem_map.{0,0}) (And.intro (@bytK.eq_1) (And.intro (@List.length_map.{0,0}) (And.intro @List.getElem_map.{0,0} @intK.eq_1)))); have q1 := cn; refine go ?_; (repeat' first | exact Ef.mk | apply Lf.mk | refine fun (K : KT) hK hE hT => ?_ | refine fun (KS : KE) hKS => ?_ | refine fun (D : KD) hD => ?_ | refine fun (hg : (_ : Prop)) => ?_ | fail); all_goals (first | (refine Wr.mk ?_; (try clear gx q1); repeat first | clear hK hE hT K | clear hR hE hT K) | assumption | skip))
          (refine post_a hres (.inl rfl) ?_; simp only [RSB, ENB, seval, tiAll, e, e2]; simp only [MAB, seval]; refine ⟨rfl, rfl, ?_, ?_, ?_⟩ <;> (first | rfl | (simp [WKB, Nat.add_comm, e, e2]; done) | (simp only [WKB, seval])))
        | true =>
          have hv' := hv
          unfold pvO at hv'
          rw [decide_eq_true_eq] at hv'
          have cn := isNumber_k l[k]
          rw [decide_eq_true hv'] at cn
          have e := lbT_succ hlt
          have cp := putFix_k (lbT l k) l[k].toNat (by omega) (by omega)
          rw [show ((l[k].toNat : Nat) : Int) = l[k] by omega] at cp
          rw [← e] at cp
          (have gx := And.intro (@List.length_map.{0,0}) (And.intro (@List.getElem_map.{0,0}) (And.intro (@bytK.eq_1) (And.intro (@List.length_map.{0,0}) (And.intro @List.getElem_map.{0,0} @intK.eq_1)))); have q1 := cn; have q2 := cp; refine go ?_; (repeat' first | exact Ef.mk | apply Lf.mk | refine fun (K : KT) hK hE hT => ?_ | refine fun (KS : KE) hKS => ?_ | refine fun (D : KD) hD => ?_ | refine fun (hg : (_ : Prop)) => ?_ | fail); all_goals (first | (refine Wr.mk ?_; (try clear gx q1 q2); repeat first | clear hK hE hT K | clear hR hE hT K) | assumption | skip))
          (refine hR.out ⟨k + 1, by omega, ⟨prO_succ hr.out hlt hv⟩⟩ _ _ _ (by simp only; omega) ?_; (refine wk_a ?_; simp only [MAB, seval]; refine ⟨rfl, rfl, (by decide), ?_, ?_⟩; all_goals (first | (simp only [WKB, seval, true_and]; done) | (simp [WKB, seval, true_and]; done) | simp only [WKB, seval])))

end Go.Proofs.YtfdhdkljpeohlaaGreatDoor


namespace Go.Proofs.YtfdhdkljpeohlaaGreatDoor
set_option linter.unusedSimpArgs false
set_option linter.unusedVariables false
set_option linter.unusedSimpArgs false
set_option linter.unusedVariables false
set_option linter.defProp false
set_option maxRecDepth 20000
open Go.RowKit

def vfC (v : ValuesD) : Prop := 1 ≤ v.Job.Prog ∧ v.Job.Prog ≤ 4 ∧ 0 ≤ v.Job.Src ∧ v.Job.Src ≤ 150 ∧ 0 ≤ v.Iter ∧ v.Iter ≤ 1000
def vfO (v : ValuesD) : Prop := vfC v ∧ v.Vals.all valOk = true ∧ v.EVals.all valOk = true ∧ setOk v.Next.N v.Next.Bits = true ∧ lbO v.Vals = true ∧ lbO v.EVals = true
instance (v : ValuesD) : Decidable (vfO v) := by unfold vfO vfC; exact inferInstance
def vf0 (v : ValuesD) : List UInt8 := varB v.Job.Prog.toNat ++ varB v.Job.Src.toNat ++ varB v.Iter.toNat
def vf1 (v : ValuesD) : List UInt8 := vf0 v ++ lbL v.Vals ++ lbL v.EVals ++ varB v.Next.N.toNat
def vfD (v : ValuesD) : List UInt8 := vf1 v ++ v.Next.Bits
/-- The file, and whether there is one. -/
def vfR (v : ValuesD) : List UInt8 := if vfO v then fbR 2 (vfD v) else []
def vfB (v : ValuesD) : Bool := decide (vfO v) && frO 2 (vfD v)
theorem vf_no {v : ValuesD} (h : ¬ vfO v) : vfR v = [] ∧ vfB v = false := by
  unfold vfR vfB
  rw [if_neg h, decide_eq_false h]
  exact ⟨rfl, rfl⟩
theorem vf_yes {v : ValuesD} (h : vfO v) : vfR v = fbR 2 (vfD v) ∧ vfB v = frO 2 (vfD v) := by
  unfold vfR vfB
  rw [if_pos h, decide_eq_true h]
  exact ⟨rfl, Bool.true_and _⟩
theorem lbO_len {l : List Int} (h : lbO l = true) : l.length ≤ 400 := by
  unfold lbO at h
  rw [Bool.and_eq_true, decide_eq_true_eq] at h
  exact h.1
theorem lbL_len {l : List Int} (h : lbO l = true) : (lbL l).length ≤ 2407 := by
  have h1 := lbO_len h
  have := lbT_len h1 l.length
  unfold lbL; omega
theorem lbR_yes {l : List Int} (h : lbO l = true) : lbR l = lbL l := by unfold lbR; rw [h]; rfl

structure VfY (v : ValuesD) where
  p : Nat
  s : Nat
  i : Nat
  n : Nat
  hp : v.Job.Prog = (p : Int)
  hs : v.Job.Src = (s : Int)
  hi : v.Iter = (i : Int)
  hn : v.Next.N = (n : Int)
  bp : p ≤ 4
  bs : s ≤ 150
  bi : i ≤ 1000
  bn : n ≤ 150
  bb : v.Next.Bits.length ≤ 19
theorem vf_nats {v : ValuesD} (h : vfO v) : ∃ _ : VfY v, True := by
  obtain ⟨⟨h1, h2, h3, h4, h5, h6⟩, _, _, h7, _⟩ := h
  obtain ⟨g1, g2, g3, g4⟩ := setOk_len h7
  exact ⟨⟨v.Job.Prog.toNat, v.Job.Src.toNat, v.Iter.toNat, v.Next.N.toNat, by omega, by omega, by omega, by omega, by omega, by omega, by omega, by omega, g4⟩, trivial⟩

end Go.Proofs.YtfdhdkljpeohlaaGreatDoor


namespace Go.Proofs.YtfdhdkljpeohlaaGreatDoor
set_option linter.unusedSimpArgs false
set_option linter.unusedVariables false
set_option linter.unusedSimpArgs false
set_option linter.unusedVariables false
set_option linter.defProp false
set_option maxRecDepth 20000
open Go.RowKit

noncomputable def fvL (f : FarmD) : List Int := if pB (FarmOk f) then valsL (edSum f.Shards) (allE f.Shards) else []
noncomputable def fgR (f : FarmD) : GraphD := if pB (FarmOk f) then ⟨f.N, edgesL (edSum f.Shards) (allE f.Shards)⟩ else ⟨0, []⟩

theorem fgR_len (f : FarmD) : (fgR f).Edges.length ≤ 400 := by
  unfold fgR
  split
  · rename_i h
    have hf := pB_i h
    rw [edgesL_len]; exact hf.2.2.2.2.2.2.2.1
  · simp
set_option maxHeartbeats 16000000 in
theorem implFarmGraph_k (f : FarmD) (h : (f.Ends).length ≤ 1048576 ∧ (f.Shards).length ≤ 1048576 ∧ (∀ s ∈ f.Shards, s.Edges.length ≤ 1048576)) : FnOK Tryz.prog 8 ⟨2, [(0, some (.ro ((f.Ends).map intK))), (1, some (.ro ((f.Shards).map (ShardD.k 108))))], [.agg [.v (.int .i64 f.N), .sl 0 1 0 (f.Ends).length, .sl 1 3 0 (f.Shards).length]], .agg [.v (.int .i64 (fgR f).N), .sl 2 3 0 ((fgR f).Edges).length], [(2, some (.row 80 (((fgR f).Edges).map EdgeD.k)))], 3⟩ := by
  have c := implFarmOk_k f h
  obtain ⟨h0, h1, h2⟩ := h
  by_cases hf : FarmOk f
  · have c2 := implJoinedY_k f.N f.Shards h1 h2 hf.2.2.2
    have e : fgR f = ⟨f.N, edgesL (edSum f.Shards) (allE f.Shards)⟩ := by unfold fgR; rw [pB_t hf, if_pos rfl]
    have le := edgesL_len (edSum f.Shards) (allE f.Shards)
    rw [e]
    rw [pB_t hf] at c
    refine fnOK_of true mixed Tryz.func8 rfl (by rfl) (by rfl) ?_
    have hres := congrArg Array.toList Tryz.results8
    simp only [Tryz.ntmps8, BGB, seval]
    (have gx := @List.length_map.{0,0}; have q1 := c; have q2 := c2; refine go ?_; (repeat' first | exact Ef.mk | apply Lf.mk | refine fun (K : KT) hK hE hT => ?_ | refine fun (KS : KE) hKS => ?_ | refine fun (D : KD) hD => ?_ | refine fun (hg : (_ : Prop)) => ?_ | fail); all_goals (first | (refine Wr.mk ?_; (try clear gx q1 q2); repeat first | clear hK hE hT K | clear hR hE hT K) | assumption | skip))
    all_goals (refine post_a hres (.inl rfl) ?_; simp only [RSB, ENB, seval, tiAll, le]; simp only [MAB, seval]; refine ⟨rfl, rfl, ?_, ?_, ?_⟩ <;> (first | rfl | (simp [WKB, Nat.add_comm, le]; done) | (simp only [WKB, seval])))
  · have e : fgR f = ⟨0, []⟩ := by unfold fgR; rw [pB_f hf]; rfl
    rw [e]
    rw [pB_f hf] at c
    refine fnOK_of true mixed Tryz.func8 rfl (by rfl) (by rfl) ?_
    have hres := congrArg Array.toList Tryz.results8
    simp only [Tryz.ntmps8, BGB, seval]
    (have gx := @List.length_map.{0,0}; have q1 := c; refine go ?_; (repeat' first | exact Ef.mk | apply Lf.mk | refine fun (K : KT) hK hE hT => ?_ | refine fun (KS : KE) hKS => ?_ | refine fun (D : KD) hD => ?_ | refine fun (hg : (_ : Prop)) => ?_ | fail); all_goals (first | (refine Wr.mk ?_; (try clear gx q1); repeat first | clear hK hE hT K | clear hR hE hT K) | assumption | skip))
    all_goals (refine post_a hres (.inl rfl) ?_; simp only [RSB, ENB, seval, tiAll, true_and]; simp only [MAB, seval]; refine ⟨rfl, rfl, ?_, ?_, ?_⟩ <;> (first | rfl | (simp [WKB, Nat.add_comm, true_and]; done) | (simp only [WKB, seval])))

set_option maxHeartbeats 16000000 in
theorem specFarmGraph_k (f : FarmD) (h : (f.Ends).length ≤ 1048576 ∧ (f.Shards).length ≤ 1048576 ∧ (∀ s ∈ f.Shards, s.Edges.length ≤ 1048576)) : FnOK Tryz.prog 10 ⟨2, [(0, some (.ro ((f.Ends).map intK))), (1, some (.ro ((f.Shards).map (ShardD.k 108))))], [.agg [.v (.int .i64 f.N), .sl 0 1 0 (f.Ends).length, .sl 1 3 0 (f.Shards).length]], .agg [.v (.int .i64 (fgR f).N), .sl 2 3 0 ((fgR f).Edges).length], [(2, some (.row 80 (((fgR f).Edges).map EdgeD.k)))], 3⟩ := by
  have c := specFarmOk_k f h
  obtain ⟨h0, h1, h2⟩ := h
  by_cases hf : FarmOk f
  · have c2 := specJoinedY_k f.N f.Shards h1 h2 hf.2.2.2
    have e : fgR f = ⟨f.N, edgesL (edSum f.Shards) (allE f.Shards)⟩ := by unfold fgR; rw [pB_t hf, if_pos rfl]
    have le := edgesL_len (edSum f.Shards) (allE f.Shards)
    rw [e]
    rw [pB_t hf] at c
    refine fnOK_of true mixed Tryz.func10 rfl (by rfl) (by rfl) ?_
    have hres := congrArg Array.toList Tryz.results10
    simp only [Tryz.ntmps10, BGB, seval]
    (have gx := @List.length_map.{0,0}; have q1 := c; have q2 := c2; refine go ?_; (repeat' first | exact Ef.mk | apply Lf.mk | refine fun (K : KT) hK hE hT => ?_ | refine fun (KS : KE) hKS => ?_ | refine fun (D : KD) hD => ?_ | refine fun (hg : (_ : Prop)) => ?_ | fail); all_goals (first | (refine Wr.mk ?_; (try clear gx q1 q2); repeat first | clear hK hE hT K | clear hR hE hT K) | assumption | skip))
    all_goals (refine post_a hres (.inl rfl) ?_; simp only [RSB, ENB, seval, tiAll, le]; simp only [MAB, seval]; refine ⟨rfl, rfl, ?_, ?_, ?_⟩ <;> (first | rfl | (simp [WKB, Nat.add_comm, le]; done) | (simp only [WKB, seval])))
  · have e : fgR f = ⟨0, []⟩ := by unfold fgR; rw [pB_f hf]; rfl
    rw [e]
    rw [pB_f hf] at c
    refine fnOK_of true mixed Tryz.func10 rfl (by rfl) (by rfl) ?_
    have hres := congrArg Array.toList Tryz.results10
    simp only [Tryz.ntmps10, BGB, seval]
    (have gx := @List.length_map.{0,0}; have q1 := c; refine go ?_; (repeat' first | exact Ef.mk | apply Lf.mk | refine fun (K : KT) hK hE hT => ?_ | refine fun (KS : KE) hKS => ?_ | refine fun (D : KD) hD => ?_ | refine fun (hg : (_ : Prop)) => ?_ | fail); all_goals (first | (refine Wr.mk ?_; (try clear gx q1); repeat first | clear hK hE hT K | clear hR hE hT K) | assumption | skip))
    all_goals (refine post_a hres (.inl rfl) ?_; simp only [RSB, ENB, seval, tiAll, true_and]; simp only [MAB, seval]; refine ⟨rfl, rfl, ?_, ?_, ?_⟩ <;> (first | rfl | (simp [WKB, Nat.add_comm, true_and]; done) | (simp only [WKB, seval])))

end Go.Proofs.YtfdhdkljpeohlaaGreatDoor


namespace Go.Proofs.YtfdhdkljpeohlaaGreatDoor
set_option linter.unusedSimpArgs false
set_option linter.unusedVariables false
set_option linter.unusedSimpArgs false
set_option linter.unusedVariables false
set_option linter.defProp false
set_option maxRecDepth 20000
open Go.RowKit

def gfT (f : FarmD) (k : Nat) : List UInt8 := varB f.N.toNat ++ varB f.Ends.length ++ (f.Shards.take k).flatMap shB
theorem gfT_zero (f : FarmD) : gfT f 0 = varB f.N.toNat ++ varB f.Ends.length := by simp [gfT]
theorem gfT_succ {f : FarmD} {k : Nat} (h : k < f.Shards.length) : gfT f (k + 1) = gfT f k ++ shB f.Shards[k] := by
  unfold gfT
  rw [List.take_succ_eq_append_getElem h, List.flatMap_append, ← List.append_assoc]
  simp
theorem gfT_len {f : FarmD} (h : GfOk f) : ∀ k, k ≤ f.Shards.length → (gfT f k).length ≤ 14 + 21 * k + 28 * edSum (f.Shards.take k)
  | 0, _ => by
    have := h.n
    have a := varB_len7 (n := f.N.toNat) (by omega)
    have b := varB_len7 (n := f.Ends.length) (by have := h.e; have := h.l; omega)
    rw [gfT_zero, List.length_append]; omega
  | k + 1, hk => by
    have ih := gfT_len h k (by omega)
    have := shB_len (h.s k (by omega))
    rw [gfT_succ (by omega), List.length_append, edSum_snoc (by omega)]; omega
theorem gfT_max {f : FarmD} (h : GfOk f) {k : Nat} (hk : k ≤ f.Shards.length) : (gfT f k).length ≤ 20000 := by
  have a := gfT_len h k hk
  have b := edSum_le f.Shards k
  have := h.l
  have := h.c
  omega
def gfD (f : FarmD) : List UInt8 := gfT f f.Shards.length
noncomputable def gfB (f : FarmD) : Bool := if pB (FarmOk f) then frO 1 (gfD f) else false
noncomputable def gfR (f : FarmD) : List UInt8 := if pB (FarmOk f) then fbR 1 (gfD f) else []
theorem gf_yes {f : FarmD} (h : FarmOk f) : gfB f = frO 1 (gfD f) ∧ gfR f = fbR 1 (gfD f) := by
  unfold gfB gfR; rw [pB_t h]; exact ⟨rfl, rfl⟩
theorem gf_no {f : FarmD} (h : ¬ FarmOk f) : gfB f = false ∧ gfR f = [] := by
  unfold gfB gfR; rw [pB_f h]; exact ⟨rfl, rfl⟩

set_option maxHeartbeats 16000000 in
theorem implGraphFile_k (f : FarmD) (h : (f.Ends).length ≤ 1048576 ∧ (f.Shards).length ≤ 1048576 ∧ (∀ s ∈ f.Shards, s.Edges.length ≤ 1048576)) : FnOK Tryz.prog 5 ⟨2, [(0, some (.ro ((f.Ends).map intK))), (1, some (.ro ((f.Shards).map (ShardD.k 108))))], [.agg [.v (.int .i64 f.N), .sl 0 1 0 (f.Ends).length, .sl 1 3 0 (f.Shards).length]], .tup [.inl (.sl 2 1 0 (gfR f).length), .inl (.v (.bool (gfB f)))], [(2, some (.row 5 ((gfR f).map bytK)))], 3⟩ := by
  have co := implFarmOk_k f h
  obtain ⟨h0, h1, h2⟩ := h
  by_cases hf : FarmOk f
  case neg =>
    obtain ⟨e1, e2⟩ := gf_no hf
    rw [e1, e2]
    rw [pB_f hf] at co
    refine fnOK_of true mixed Tryz.func5 rfl (by rfl) (by rfl) ?_
    have hres := congrArg Array.toList Tryz.results5
    simp only [Tryz.ntmps5, BGB, seval]
    (have gx := And.intro (@List.length_map.{0,0}) (And.intro (@List.getElem_map.{0,0}) (And.intro @bytK.eq_1 @List.length_map.{0,0})); have q1 := co; refine go ?_; (repeat' first | exact Ef.mk | apply Lf.mk | refine fun (K : KT) hK hE hT => ?_ | refine fun (KS : KE) hKS => ?_ | refine fun (D : KD) hD => ?_ | refine fun (hg : (_ : Prop)) => ?_ | fail); all_goals (first | (refine Wr.mk ?_; (try clear gx q1); repeat first | clear hK hE hT K | clear hR hE hT K) | assumption | skip))
    all_goals (refine post_a hres (.inl rfl) ?_; simp only [RSB, ENB, seval, tiAll, true_and]; simp only [MAB, seval]; refine ⟨rfl, rfl, ?_, ?_, ?_⟩ <;> (first | rfl | (simp [WKB, Nat.add_comm, true_and]; done) | (simp only [WKB, seval])))
  case pos =>
    obtain ⟨e1, e2⟩ := gf_yes hf
    have g := gf_ok hf
    have gn := g.n
    have gl := g.l
    have ge := g.e
    rw [e1, e2]
    rw [pB_t hf] at co
    have w1 := varB_len7 (n := f.N.toNat) (by omega)
    have c1 := putVar0_k f.N.toNat (by omega)
    have c2 := putVar_k (varB f.N.toNat) f.Ends.length (by omega) (by omega)
    rw [show ((f.N.toNat : Nat) : Int) = f.N by omega] at c1
    rw [← gfT_zero] at c2
    have cf := implFrameBytes_k 1 (gfD f) (by omega) (by have := gfT_max g (Nat.le_refl _); unfold gfD; omega)
    refine fnOK_of true mixed Tryz.func5 rfl (by rfl) (by rfl) ?_
    have hres := congrArg Array.toList Tryz.results5
    simp only [Tryz.ntmps5, BGB, seval]
    (have gx := And.intro (@List.length_map.{0,0}) (And.intro (@List.getElem_map.{0,0}) (And.intro @bytK.eq_1 @List.length_map.{0,0})); have q1 := co; have q2 := c1; have q3 := c2; refine go ?_; (repeat' first | exact Ef.mk | apply Lf.mk | refine fun (K : KT) hK hE hT => ?_ | refine fun (KS : KE) hKS => ?_ | refine fun (D : KD) hD => ?_ | refine fun (hg : (_ : Prop)) => ?_ | fail); all_goals (first | (refine Wr.mk ?_; (try clear gx q1 q2 q3); repeat first | clear hK hE hT K | clear hR hE hT K) | assumption | skip))
    refine loop_v (X := {k : Nat // k ≤ f.Shards.length}) [12, 16] (fun x => [(20, .c (.v (.int .i64 ((x.1 : Nat) : Int)))), (4, .c (.sl 4 1 0 (gfT f x.1).length))]) (fun x => [(0, some (.ro ((f.Ends).map intK))), (1, some (.ro ((f.Shards).map (ShardD.k 108)))), (2, some (.box 26 [.v (.int .i64 f.N), .sl 0 1 0 (f.Ends).length, .sl 1 3 0 (f.Shards).length])), (4, some (.row 5 ((gfT f x.1).map bytK)))]) 5 (fun x => f.Shards.length - x.1) ⟨0, by omega⟩ ?_
    simp only [KPB, seval]
    refine ⟨?_, ?_⟩
    · (refine wk_a ?_; simp only [MAB, seval]; refine ⟨rfl, rfl, (by decide), ?_, ?_⟩; all_goals (first | (simp only [WKB, seval, true_and]; done) | (simp [WKB, seval, true_and]; done) | simp only [WKB, seval]))
    · rintro ⟨k, hk⟩ K hR hE hT
      have hmx := gfT_max g hk
      rcases Nat.lt_or_ge k f.Shards.length with hlt | hge
      case inr =>
        obtain rfl : k = f.Shards.length := by omega
        change (gfD f).length ≤ _ at hmx
        simp only [show gfT f f.Shards.length = gfD f from rfl]
        (have gx := And.intro (@List.length_map.{0,0}) (And.intro (@List.getElem_map.{0,0}) (And.intro @bytK.eq_1 @List.length_map.{0,0})); have q1 := cf; refine go ?_; (repeat' first | exact Ef.mk | apply Lf.mk | refine fun (K : KT) hK hE hT => ?_ | refine fun (KS : KE) hKS => ?_ | refine fun (D : KD) hD => ?_ | refine fun (hg : (_ : Prop)) => ?_ | fail); all_goals (first | (refine Wr.mk ?_; (try clear gx q1); repeat first | clear hK hE hT K | clear hR hE hT K) | assumption | skip))
        (refine post_a hres (.inl rfl) ?_; simp only [RSB, ENB, seval, tiAll, true_and]; simp only [MAB, seval]; refine ⟨rfl, rfl, ?_, ?_, ?_⟩ <;> (first | rfl | (simp [WKB, Nat.add_comm, true_and]; done) | (simp only [WKB, seval])))
      case inl =>
        have cs := shardBytes_k (gfT f k) f.Shards[k] (g.s k hlt) (by omega)
        rw [← gfT_succ hlt] at cs
        (have gx := And.intro (@List.length_map.{0,0}) (And.intro (@List.getElem_map.{0,0}) (And.intro (@bytK.eq_1) (And.intro (@List.length_map.{0,0}) (And.intro @List.getElem_map.{0,0} @ShardD.k.eq_1)))); have q1 := cs; refine go ?_; (repeat' first | exact Ef.mk | apply Lf.mk | refine fun (K : KT) hK hE hT => ?_ | refine fun (KS : KE) hKS => ?_ | refine fun (D : KD) hD => ?_ | refine fun (hg : (_ : Prop)) => ?_ | fail); all_goals (first | (refine Wr.mk ?_; (try clear gx q1); repeat first | clear hK hE hT K | clear hR hE hT K) | assumption | skip))
        (refine hR.out ⟨k + 1, by omega⟩ _ _ _ (by simp only; omega) ?_; (refine wk_a ?_; simp only [MAB, seval]; refine ⟨rfl, rfl, (by decide), ?_, ?_⟩; all_goals (first | (simp only [WKB, seval, true_and]; done) | (simp [WKB, seval, true_and]; done) | simp only [WKB, seval])))

end Go.Proofs.YtfdhdkljpeohlaaGreatDoor


namespace Go.Proofs.YtfdhdkljpeohlaaGreatDoor
set_option linter.unusedSimpArgs false
set_option linter.unusedVariables false
set_option linter.unusedSimpArgs false
set_option linter.unusedVariables false
set_option linter.defProp false
open Go.RowKit

def itStep (g : GraphD) (p : RunD × List UInt8) (v : Nat) : RunD × List UInt8 := if bitAt p.2 v = true then (runV g p.1 p.2 v, nowV g p.1 p.2 v) else p
def itTo (g : GraphD) (p : RunD × List UInt8) : Nat → RunD × List UInt8
  | 0 => p
  | k + 1 => itStep g (itTo g p k) k
def it0 (g : GraphD) (r : RunD) : RunD × List UInt8 := (⟨r.Job, r.Iter, r.Done, r.Vals, r.EVals, ⟨g.N, fullTo g.N.toNat 0⟩⟩, r.Next.Bits)
def itEnd (g : GraphD) (r : RunD) : RunD := (itTo g (it0 g r) g.N.toNat).1
def riOk (g : GraphD) (r : RunD) : Bool := runOk g r && !r.Done && decide (r.Iter < 1000)
def riR (g : GraphD) (r : RunD) : RunD := if riOk g r then ⟨(itEnd g r).Job, (itEnd g r).Iter + 1, emptyL (itEnd g r).Next.Bits, (itEnd g r).Vals, (itEnd g r).EVals, (itEnd g r).Next⟩ else zeroRun

theorem itTo_yes {g : GraphD} {p : RunD × List UInt8} {k : Nat} (h : bitAt (itTo g p k).2 k = true) : itTo g p (k + 1) = (runV g (itTo g p k).1 (itTo g p k).2 k, nowV g (itTo g p k).1 (itTo g p k).2 k) := if_pos h
theorem itTo_no {g : GraphD} {p : RunD × List UInt8} {k : Nat} (h : bitAt (itTo g p k).2 k = false) : itTo g p (k + 1) = itTo g p k := if_neg (by simp [h])

theorem it0_in {g : GraphD} {r : RunD} (h : RunIn g r) : RunIn g (it0 g r).1 ∧ setOk g.N (it0 g r).2 = true := by
  obtain ⟨⟨g1, g2, _⟩, _⟩ := graphOk_out h.go
  obtain ⟨m, hm⟩ := Int.eq_ofNat_of_zero_le g1
  have hf : setOk g.N (fullTo g.N.toNat 0) = true := by
    rw [hm, Int.toNat_natCast]
    exact fullTo_ok m 0 (by omega) (by omega)
  exact ⟨⟨h.go, h.jo, h.vl, h.el, h.vo, h.eo, hf, rfl⟩, h.so⟩

theorem itTo_in {g : GraphD} {p : RunD × List UInt8} (h : RunIn g p.1 ∧ setOk g.N p.2 = true) : ∀ k : Nat, (k : Int) ≤ g.N → RunIn g (itTo g p k).1 ∧ setOk g.N (itTo g p k).2 = true
  | 0, _ => h
  | k + 1, hk => by
    have ih := itTo_in h k (by omega)
    cases hb : bitAt (itTo g p k).2 k with
    | true => rw [itTo_yes hb]; exact runV_in ih.1 ih.2 (by omega)
    | false => rw [itTo_no hb]; exact ih

theorem itTo_iter (g : GraphD) (p : RunD × List UInt8) : ∀ k, (itTo g p k).1.Iter = p.1.Iter
  | 0 => rfl
  | k + 1 => by
    have ih := itTo_iter g p k
    cases hb : bitAt (itTo g p k).2 k with
    | true => rw [itTo_yes hb]; exact ih
    | false => rw [itTo_no hb]; exact ih

theorem riOk_out {g : GraphD} {r : RunD} (h : riOk g r = true) : runOk g r = true ∧ r.Done = false ∧ r.Iter < 1000 := by
  unfold riOk at h
  simp only [Bool.and_eq_true, Bool.not_eq_true', decide_eq_true_eq] at h
  exact ⟨h.1.1, h.1.2, h.2⟩

theorem ri_small (g : GraphD) (r : RunD) : (riR g r).Vals.length ≤ r.Vals.length ∧ (riR g r).EVals.length ≤ r.EVals.length ∧ (riR g r).Next.Bits.length ≤ r.Next.Bits.length := by
  unfold riR
  cases ho : riOk g r with
  | false => simp [zeroRun]
  | true =>
    obtain ⟨h1, _, _⟩ := riOk_out ho
    obtain ⟨hin, _, _⟩ := runOk_in h1
    obtain ⟨⟨g1, g2, _⟩, _⟩ := graphOk_out hin.go
    have hx := itTo_in (it0_in hin) g.N.toNat (by omega)
    have a1 := hx.1.vl
    have a2 := hin.vl
    have a3 := hx.1.el
    have a4 := hin.el
    have a5 := setOk_same hx.1.so hin.so
    simp only [if_true, itEnd]
    omega
theorem ri_ok {g : GraphD} {r : RunD} (h : riOk g r = true) : runOk g (riR g r) = true ∧ (riR g r).Iter = r.Iter + 1 := by
  obtain ⟨h1, _, h3⟩ := riOk_out h
  obtain ⟨hin, hi, _⟩ := runOk_in h1
  obtain ⟨⟨g1, _, _⟩, _⟩ := graphOk_out hin.go
  have hx := (itTo_in (it0_in hin) g.N.toNat (by omega)).1
  have e := itTo_iter g (it0 g r) g.N.toNat
  unfold riR
  rw [if_pos h]
  have e' : (itEnd g r).Iter = r.Iter := e
  refine ⟨RunIn.ok ⟨hx.go, hx.jo, hx.vl, hx.el, hx.vo, hx.eo, hx.so, hx.sn⟩ ?_ rfl, ?_⟩
  · show 0 ≤ (itEnd g r).Iter + 1 ∧ (itEnd g r).Iter + 1 ≤ 1000
    omega
  · show (itEnd g r).Iter + 1 = _
    omega

end Go.Proofs.YtfdhdkljpeohlaaGreatDoor

