/-
  Contracts: frames and lists encoded. No conditions of its own.
-/
import Derived.Test.YtcbnfkbnbdbfoaaGO
import Derived.Test.YtcbnfkbnbdbfoaaF2
namespace Go.Proofs.Ytcbnfkbnbdbfoaa
set_option linter.unusedSimpArgs false
set_option linter.unusedVariables false
set_option linter.unusedSimpArgs false
set_option linter.unusedVariables false
set_option linter.defProp false
open Go.RowKit

def frO (k : Int) (d : List UInt8) : Bool := decide (1 ≤ k ∧ k ≤ 3 ∧ d.length ≤ 60000)

theorem isFrameKind_k (k : Int) : FnOK Try.prog 149 ⟨0, [], [.c (.v (.int .i64 k))], .c (.v (.bool (decide (1 ≤ k ∧ k ≤ 3)))), [], 0⟩ := by
  refine fnOK_of true mixed Try.func149 rfl (by rfl) (by rfl) ?_
  have hres := congrArg Array.toList Try.results149
  simp only [Try.ntmps149, BGB, seval]
  (have gx := true_and True; refine go ?_; (repeat' (first | exact Ef.mk | refine Lf.mk ?_ ?_ | refine fun (K : KT) hK hE hT => ?_ | refine fun (KS : Eff → Prop) hKS => ?_ | refine fun (D : List Keys → Prop) hD => ?_ | refine fun (hg : (_ : Prop)) => ?_ | fail)); all_goals (first | (refine Wr.mk ?_; (try clear gx); repeat (first | (clear hK hE hT; clear K) | (clear hR hE hT; clear K))) | assumption | skip))
  all_goals (refine post_a hres (.inl rfl) ?_; simp only [RSB, ENB, seval, tiAll, true_and]; simp only [MAB, seval]; refine ⟨rfl, rfl, ?_, ?_, ?_⟩ <;> (first | rfl | (simp [WKB, Nat.add_comm, true_and]; done) | (simp only [WKB, seval])))
  all_goals (refine congrArg (fun b => SV.c (CV.v (Value.bool b))) ?_; symm; first | (rw [decide_eq_false_iff_not]; omega) | (rw [decide_eq_true_eq]; omega) | (rw [decide_eq_decide]; omega) | (rw [Bool.eq_iff_iff]; simp only [decide_eq_true_eq, beq_iff_eq]; omega))

set_option maxHeartbeats 2000000 in
theorem specFrameOk_k (k : Int) (d : List UInt8) (hd : d.length ≤ 1048576) : FnOK Try.prog 146 ⟨1, [(0, some (.ro (d.map bytK)))], [.agg [.v (.int .i64 k), .sl 0 1 0 d.length]], .c (.v (.bool (frO k d))), [], 1⟩ := by
  refine fnOK_of true mixed Try.func146 rfl (by rfl) (by rfl) ?_
  have hres := congrArg Array.toList Try.results146
  simp only [Try.ntmps146, BGB, seval]
  (have gx := And.intro (@List.length_map.{0,0}) (And.intro @List.getElem_map.{0,0} @bytK.eq_1); refine go ?_; (repeat' (first | exact Ef.mk | refine Lf.mk ?_ ?_ | refine fun (K : KT) hK hE hT => ?_ | refine fun (KS : Eff → Prop) hKS => ?_ | refine fun (D : List Keys → Prop) hD => ?_ | refine fun (hg : (_ : Prop)) => ?_ | fail)); all_goals (first | (refine Wr.mk ?_; (try clear gx); repeat (first | (clear hK hE hT; clear K) | (clear hR hE hT; clear K))) | assumption | skip))
  all_goals (refine post_a hres (.inl rfl) ?_; simp only [RSB, ENB, seval, tiAll, frO]; simp only [MAB, seval]; refine ⟨rfl, rfl, ?_, ?_, ?_⟩ <;> (first | rfl | (simp [WKB, Nat.add_comm, frO]; done) | (simp only [WKB, seval])))
  all_goals (refine congrArg (fun b => SV.c (CV.v (Value.bool b))) ?_; symm; first | (rw [decide_eq_false_iff_not]; omega) | (rw [decide_eq_true_eq]; omega) | (rw [decide_eq_decide]; omega) | (rw [Bool.eq_iff_iff]; simp only [decide_eq_true_eq, beq_iff_eq]; omega))

theorem crcN_max (l : List UInt8) : crcN l ≤ 4294967295 := by
  have h := crcRun_lt l 4294967295 (by omega)
  have : crcN l < 4294967296 := xor_lt32 h (by omega)
  omega

def fbR (k : Nat) (d : List UInt8) : List UInt8 := if frO k d then fbL k d else []

set_option maxHeartbeats 4000000 in
theorem specFrameBytes_k (k : Nat) (d : List UInt8) (hk : 1 ≤ k ∧ k ≤ 3) (hd : d.length ≤ 1048576) : FnOK Try.prog 118 ⟨1, [(0, some (.ro (d.map bytK)))], [.agg [.v (.int .i64 (k : Int)), .sl 0 1 0 d.length]],
    .tup [.inl (.sl 1 1 0 (fbR k d).length), .inl (.v (.bool (frO k d)))], [(1, some (.row 5 ((fbR k d).map bytK)))], 2⟩ := by
  have co := specFrameOk_k (k : Int) d hd
  cases ho : frO k d with
  | false =>
    have e : fbR k d = [] := by unfold fbR; rw [ho]; rfl
    rw [ho] at co
    rw [e]
    refine fnOK_of true mixed Try.func118 rfl (by rfl) (by rfl) ?_
    have hres := congrArg Array.toList Try.results118
    simp only [Try.ntmps118, BGB, seval]
    (have gx := And.intro (@List.length_map.{0,0}) (And.intro @List.getElem_map.{0,0} @bytK.eq_1); have q1 := co; refine go ?_; (repeat' (first | exact Ef.mk | refine Lf.mk ?_ ?_ | refine fun (K : KT) hK hE hT => ?_ | refine fun (KS : Eff → Prop) hKS => ?_ | refine fun (D : List Keys → Prop) hD => ?_ | refine fun (hg : (_ : Prop)) => ?_ | fail)); all_goals (first | (refine Wr.mk ?_; (try clear gx); (try clear q1); repeat (first | (clear hK hE hT; clear K) | (clear hR hE hT; clear K))) | assumption | skip))
    (refine post_a hres (.inl rfl) ?_; simp only [RSB, ENB, seval, tiAll, true_and]; simp only [MAB, seval]; refine ⟨rfl, rfl, ?_, ?_, ?_⟩ <;> (first | rfl | (simp [WKB, Nat.add_comm, true_and]; done) | (simp only [WKB, seval])))
  | true =>
    have e : fbR k d = fbL k d := by unfold fbR; rw [ho]; rfl
    rw [ho] at co
    unfold frO at ho
    rw [decide_eq_true_eq] at ho
    have m1 := crcN_max (hdB k d)
    have m2 := crcN_max d
    have l1 := hdB_len k d
    have l2 := h2B_len k d
    have l3 := h3B_len k d
    have b1 : IntKind.u8.wrap (k : Int) = ((UInt8.ofNat k).toNat : Int) := by
      rw [IntWalk.u8_in _ ⟨by omega, by omega⟩, UInt8.toNat_ofNat']
      omega
    have c1 := specPutFix_k [71, UInt8.ofNat k] ((d.length : Nat) : Int) (by simp)
    have c2 := specCrc_k (hdB k d) (by omega)
    have c3 := specPutFix_k (hdB k d) ((crcN (hdB k d) : Nat) : Int) (by omega)
    have c4 := specCrc_k d (by omega)
    have c5 := specPutFix_k (h2B k d) ((crcN d : Nat) : Int) (by omega)
    rw [(pfL_yes (by omega)).1, (pfL_yes (by omega)).2] at c1 c3 c5
    change FnOK _ _ ⟨_, _, _, .tup [.inl (.sl 1 1 0 (hdB k d).length), _], [(1, some (.row _ ((hdB k d).map bytK)))], _⟩ at c1
    change FnOK _ _ ⟨_, _, _, .tup [.inl (.sl 1 1 0 (h2B k d).length), _], [(1, some (.row _ ((h2B k d).map bytK)))], _⟩ at c3
    change FnOK _ _ ⟨_, _, _, .tup [.inl (.sl 1 1 0 (h3B k d).length), _], [(1, some (.row _ ((h3B k d).map bytK)))], _⟩ at c5
    rw [l1] at c1 c2 c3
    rw [l2] at c3 c5
    rw [l3] at c5
    have l4 := fbL_len k d
    rw [e, l4]
    have e2 : (fbL k d).map bytK = (h3B k d).map bytK ++ d.map bytK := by unfold fbL; rw [List.map_append]
    rw [e2]
    have u71 : ((71 : UInt8).toNat : Int) = 71 := rfl
    have t1 : ((hdB k d).map bytK).take 8 = (hdB k d).map bytK := List.take_of_length_le (by simp [l1])
    refine fnOK_of true mixed Try.func118 rfl (by rfl) (by rfl) ?_
    have hres := congrArg Array.toList Try.results118
    simp only [Try.ntmps118, BGB, seval]
    (have gx := And.intro (@List.length_map.{0,0}) (And.intro (@List.getElem_map.{0,0}) (And.intro (@bytK.eq_1) (And.intro (@b1) (And.intro (@u71) (And.intro (@map_take) (And.intro (@t1) (And.intro (@l1) (And.intro @l2 @l3)))))))); have q1 := co; have q2 := c1; have q3 := c2; have q4 := c3; have q5 := c4; have q6 := c5; refine go ?_; (repeat' (first | exact Ef.mk | refine Lf.mk ?_ ?_ | refine fun (K : KT) hK hE hT => ?_ | refine fun (KS : Eff → Prop) hKS => ?_ | refine fun (D : List Keys → Prop) hD => ?_ | refine fun (hg : (_ : Prop)) => ?_ | fail)); all_goals (first | (refine Wr.mk ?_; (try clear gx); (try clear q1 q2 q3 q4 q5 q6); repeat (first | (clear hK hE hT; clear K) | (clear hR hE hT; clear K))) | assumption | skip))
    (refine post_a hres (.inl rfl) ?_; simp only [RSB, ENB, seval, tiAll, true_and]; simp only [MAB, seval]; refine ⟨rfl, rfl, ?_, ?_, ?_⟩ <;> (first | rfl | (simp [WKB, Nat.add_comm, true_and]; done) | (simp only [WKB, seval])))

end Go.Proofs.Ytcbnfkbnbdbfoaa
