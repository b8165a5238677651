/-
  Contracts: frames read by the reference; single frames. No conditions of its own.
-/
import Derived.Test.YtcbnfkbnbdbfoaaGO
import Derived.Test.YtcbnfkbnbdbfoaaF5
namespace Go.Proofs.Ytcbnfkbnbdbfoaa
set_option linter.unusedSimpArgs false
set_option linter.unusedVariables false
set_option linter.unusedSimpArgs false
set_option linter.unusedVariables false
set_option linter.defProp false
set_option maxRecDepth 20000
open Go.RowKit
attribute [local irreducible] lexD

theorem txt_ls (l : List UInt8) : (txt l).toList = l := by
  rw [ByteArray.toList_eq]
  rfl

set_option maxHeartbeats 16000000 in
theorem specFrameRead_k (b : List UInt8) (hb : b.length ≤ 1048576) : FnOK Try.prog 113 ⟨1, [(0, some (.ro (b.map bytK)))], [.c (.sl 0 1 0 b.length), .c (.v (.int .i64 0))],
    .tup [.inr [.v (.int .i64 (frK b)), .sl 1 1 0 (frD b).length], .inl (.v (.int .i64 (frP b))), .inl (.v (.int .i64 (frC b)))], [(1, some (.row 5 ((frD b).map bytK)))], 2⟩ := by
  by_cases h14 : b.length < 14
  · have e : frC b = 2 := by unfold frC; rw [if_pos h14]
    obtain ⟨e1, e2, e3, e4⟩ := fr_none e (by decide)
    rw [e1, e2, e3, e4]
    refine fnOK_of true mixed Try.func113 rfl (by rfl) (by rfl) ?_
    have hres := congrArg Array.toList Try.results113
    simp only [Try.ntmps113, BGB, seval]
    (have gx := And.intro (@List.length_map.{0,0}) (And.intro (@List.getElem_map.{0,0}) (And.intro @bytK.eq_1 @lit0)); refine go ?_; (repeat' (first | exact Ef.mk | refine Lf.mk ?_ ?_ | refine fun (K : KT) hK hE hT => ?_ | refine fun (KS : Eff → Prop) hKS => ?_ | refine fun (D : List Keys → Prop) hD => ?_ | refine fun (hg : (_ : Prop)) => ?_ | fail)); all_goals (first | (refine Wr.mk ?_; (try clear gx); repeat (first | (clear hK hE hT; clear K) | (clear hR hE hT; clear K))) | assumption | skip))
    (refine post_a hres (.inl rfl) ?_; simp only [RSB, ENB, seval, tiAll, true_and]; simp only [MAB, seval]; refine ⟨rfl, rfl, ?_, ?_, ?_⟩ <;> (first | rfl | (simp [WKB, Nat.add_comm, true_and]; done) | (simp only [WKB, seval])))
  · have c1 := specGetFix_k b 2 (by omega) (by omega) (by omega)
    have c2 := specGetFix_k b 8 (by omega) (by omega) (by omega)
    have c3 := specCrc_k (b.take 8) (by rw [List.length_take]; omega)
    rw [show (b.take 8).length = 8 by rw [List.length_take]; omega] at c3
    have g0 : (b[0]'(by omega)).toNat = (b.getD 0 0).toNat := by rw [List.getD_eq_getElem?_getD, List.getElem?_eq_getElem (by omega), Option.getD_some]
    have g1 : (b[1]'(by omega)).toNat = fkN b := by unfold fkN; rw [List.getD_eq_getElem?_getD, List.getElem?_eq_getElem (by omega), Option.getD_some]
    have hk : fkN b < 256 := (b.getD 1 0).toNat_lt
    have hfn : fnN b = gf b 2 6 := rfl
    by_cases h3 : fOk3 b
    case neg =>
      have e : frC b = 3 := by unfold frC; rw [if_neg h14, if_pos h3]
      obtain ⟨e1, e2, e3, e4⟩ := fr_none e (by decide)
      rw [e1, e2, e3, e4]
      refine fnOK_of true mixed Try.func113 rfl (by rfl) (by rfl) ?_
      have hres := congrArg Array.toList Try.results113
      simp only [Try.ntmps113, BGB, seval]
      (have gx := And.intro (@List.length_map.{0,0}) (And.intro (@List.getElem_map.{0,0}) (And.intro (@bytK.eq_1) (And.intro (@lit0) (And.intro (@litI) (And.intro (@g0) (And.intro @g1 @map_take)))))); have q1 := c1; have q2 := c2; have q3 := c3; refine go ?_; (repeat' (first | exact Ef.mk | refine Lf.mk ?_ ?_ | refine fun (K : KT) hK hE hT => ?_ | refine fun (KS : Eff → Prop) hKS => ?_ | refine fun (D : List Keys → Prop) hD => ?_ | refine fun (hg : (_ : Prop)) => ?_ | fail)); all_goals (first | (refine Wr.mk ?_; (try clear gx); (try clear q1 q2 q3); repeat (first | (clear hK hE hT; clear K) | (clear hR hE hT; clear K))) | assumption | skip))
      all_goals first | exact (h3 ⟨by omega, by omega, by omega, by omega⟩).elim | (refine post_a hres (.inl rfl) ?_; simp only [RSB, ENB, seval, tiAll, true_and]; simp only [MAB, seval]; refine ⟨rfl, rfl, ?_, ?_, ?_⟩ <;> (first | rfl | (simp [WKB, Nat.add_comm, true_and]; done) | (simp only [WKB, seval])))
    case pos =>
      skip
      have h3' := h3
      obtain ⟨a1, a2, a3, a4⟩ := h3'
      by_cases h4 : b.length < 20 + fnN b
      · have e : frC b = 4 := by unfold frC; rw [if_neg h14, if_neg (not_not_intro h3), if_pos h4]
        obtain ⟨e1, e2, e3, e4⟩ := fr_none e (by decide)
        rw [e1, e2, e3, e4]
        refine fnOK_of true mixed Try.func113 rfl (by rfl) (by rfl) ?_
        have hres := congrArg Array.toList Try.results113
        simp only [Try.ntmps113, BGB, seval]
        (have gx := And.intro (@List.length_map.{0,0}) (And.intro (@List.getElem_map.{0,0}) (And.intro (@bytK.eq_1) (And.intro (@lit0) (And.intro (@litI) (And.intro (@g0) (And.intro @g1 @map_take)))))); have q1 := c1; have q2 := c2; have q3 := c3; refine go ?_; (repeat' (first | exact Ef.mk | refine Lf.mk ?_ ?_ | refine fun (K : KT) hK hE hT => ?_ | refine fun (KS : Eff → Prop) hKS => ?_ | refine fun (D : List Keys → Prop) hD => ?_ | refine fun (hg : (_ : Prop)) => ?_ | fail)); all_goals (first | (refine Wr.mk ?_; (try clear gx); (try clear q1 q2 q3); repeat (first | (clear hK hE hT; clear K) | (clear hR hE hT; clear K))) | assumption | skip))
        all_goals (refine post_a hres (.inl rfl) ?_; simp only [RSB, ENB, seval, tiAll, true_and]; simp only [MAB, seval]; refine ⟨rfl, rfl, ?_, ?_, ?_⟩ <;> (first | rfl | (simp [WKB, Nat.add_comm, true_and]; done) | (simp only [WKB, seval])))
      · have hl : (fdL b).length = fnN b := by unfold fdL; rw [List.length_take, List.length_drop]; omega
        have c6 := specFrameBytes_k (fkN b) (fdL b) a2 (by omega)
        have law := fr_law (b := b) (by omega) h3 (by omega)
        have ef : frO (fkN b : Int) (fdL b) = true := by unfold frO; rw [decide_eq_true_eq]; omega
        have eb : fbR (fkN b) (fdL b) = fbL (fkN b) (fdL b) := by unfold fbR; rw [ef]; rfl
        rw [eb, ef] at c6
        have hd : (fdL b).map bytK = ((b.map bytK).drop 20).take (fnN b) := by unfold fdL; rw [List.map_take, List.map_drop]
        obtain ⟨m, hm⟩ : ∃ m, m = fnN b := ⟨_, rfl⟩
        obtain ⟨w, hw⟩ : ∃ w, w = fbL (fkN b) (fdL b) := ⟨_, rfl⟩
        have hwl : w.length = 20 + m := by rw [hw, fbL_len, hl, hm]
        rw [← hw] at law c6
        have hm2 : gf b 2 6 = m := hm.symm
        have n20 : (20 : Int) + (m : Int) = ((20 + m : Nat) : Int) := by omega
        have s20 : 20 + m - 20 = m := by omega
        rw [← hm] at hl hd h4 a3 law
        have t1 : ((b.map bytK).drop 20).take m = (fdL b).map bytK := hd.symm
        have t2 : ((fdL b).map bytK).take m = (fdL b).map bytK := List.take_of_length_le (by simp; omega)
        have t3 : (b.map bytK).take (20 + m) = (b.take (20 + m)).map bytK := (List.map_take ..).symm
        have t4 : (w.map bytK).take w.length = w.map bytK := List.take_of_length_le (by simp)
        rw [hl] at c6
        by_cases h5 : gf b 14 6 = crcN (fdL b)
        case neg =>
          have e : frC b = 5 := by unfold frC; rw [if_neg h14, if_neg (not_not_intro h3), if_neg (by rw [← hm]; exact h4), if_pos h5]
          obtain ⟨e1, e2, e3, e4⟩ := fr_none e (by decide)
          rw [e1, e2, e3, e4]
          have tl : (b.take (20 + m)).length = 20 + m := by rw [List.length_take]; omega
          have hne : w ≠ b.take (20 + m) := fun hh => h5 (law.1 hh)
          refine fnOK_of true mixed Try.func113 rfl (by rfl) (by rfl) ?_
          have hres := congrArg Array.toList Try.results113
          simp only [Try.ntmps113, BGB, seval]
          (have gx := And.intro (@List.length_map.{0,0}) (And.intro (@List.getElem_map.{0,0}) (And.intro (@bytK.eq_1) (And.intro (@lit0) (And.intro (@litI) (And.intro (@litN) (And.intro (@n20) (And.intro (@s20) (And.intro (@hm2) (And.intro (@t1) (And.intro (@t2) (And.intro (@t3) (And.intro (@tl) (And.intro (@g0) (And.intro (@g1) (And.intro (@map_take) (And.intro (@hl) (And.intro (@txt_ls) (And.intro (@Option.toArray_some.{0}) (And.intro @Option.toArray_none.{0} @List.toList_toArray.{0}))))))))))))))))))); have q1 := c1; have q2 := c2; have q3 := c3; have q4 := c6; refine go ?_; (repeat' (first | exact Ef.mk | refine Lf.mk ?_ ?_ | refine fun (K : KT) hK hE hT => ?_ | refine fun (KS : Eff → Prop) hKS => ?_ | refine fun (D : List Keys → Prop) hD => ?_ | refine fun (hg : (_ : Prop)) => ?_ | fail)); all_goals (first | (refine Wr.mk ?_; (try clear gx); (try clear q1 q2 q3 q4); repeat (first | (clear hK hE hT; clear K) | (clear hR hE hT; clear K))) | assumption | skip))
          all_goals first | exact (hne (by rw [← txt_ls w, ← txt_ls (b.take (20 + m))]; assumption)).elim | exact (hne (by assumption)).elim | (refine post_a hres (.inl rfl) ?_; simp only [RSB, ENB, seval, tiAll, true_and]; simp only [MAB, seval]; refine ⟨rfl, rfl, ?_, ?_, ?_⟩ <;> (first | rfl | (simp [WKB, Nat.add_comm, true_and]; done) | (simp only [WKB, seval])))
        case pos =>
          have e : frC b = 0 := by unfold frC; rw [if_neg h14, if_neg (not_not_intro h3), if_neg (by rw [← hm]; exact h4), if_neg (not_not_intro h5)]
          obtain ⟨e1, e2, e3⟩ := fr_some e
          rw [e1, e2, e3, e, ← hm]
          have tl : (b.take (20 + m)).length = 20 + m := by rw [List.length_take]; omega
          have heq : w = b.take (20 + m) := law.2 h5
          refine fnOK_of true mixed Try.func113 rfl (by rfl) (by rfl) ?_
          have hres := congrArg Array.toList Try.results113
          simp only [Try.ntmps113, BGB, seval]
          (have gx := And.intro (@List.length_map.{0,0}) (And.intro (@List.getElem_map.{0,0}) (And.intro (@bytK.eq_1) (And.intro (@lit0) (And.intro (@litI) (And.intro (@litN) (And.intro (@n20) (And.intro (@s20) (And.intro (@hm2) (And.intro (@t1) (And.intro (@t2) (And.intro (@t3) (And.intro (@tl) (And.intro (@g0) (And.intro (@g1) (And.intro (@map_take) (And.intro (@hl) (And.intro (@txt_ls) (And.intro (@Option.toArray_some.{0}) (And.intro @Option.toArray_none.{0} @List.toList_toArray.{0}))))))))))))))))))); have q1 := c1; have q2 := c2; have q3 := c3; have q4 := c6; refine go ?_; (repeat' (first | exact Ef.mk | refine Lf.mk ?_ ?_ | refine fun (K : KT) hK hE hT => ?_ | refine fun (KS : Eff → Prop) hKS => ?_ | refine fun (D : List Keys → Prop) hD => ?_ | refine fun (hg : (_ : Prop)) => ?_ | fail)); all_goals (first | (refine Wr.mk ?_; (try clear gx); (try clear q1 q2 q3 q4); repeat (first | (clear hK hE hT; clear K) | (clear hR hE hT; clear K))) | assumption | skip))
          all_goals first | (exfalso; first | (rename_i hg; exact hg (congrArg (fun z => (txt z).toList) heq)) | exact absurd heq (by assumption)) | (refine post_a hres (.inl rfl) ?_; simp only [RSB, ENB, seval, tiAll, n20, hl, hd]; simp only [MAB, seval]; refine ⟨rfl, rfl, ?_, ?_, ?_⟩ <;> (first | rfl | (simp [WKB, Nat.add_comm, n20, hl, hd]; done) | (simp only [WKB, seval])))

/-- A single frame of a kind: what a reader answers. -/
def foB (b : List UInt8) (k : Int) : Bool := decide (frC b = 0 ∧ frP b = (b.length : Int) ∧ frK b = k)
def foD (b : List UInt8) (k : Int) : List UInt8 := if foB b k then frD b else []
theorem frD_len (b : List UInt8) : (frD b).length ≤ 60000 := by
  unfold frD
  split
  · rename_i h
    obtain ⟨_, h3, _⟩ := fr_c0 h
    unfold fdL
    rw [List.length_take]
    have := h3.2.2.1
    omega
  · simp

set_option maxHeartbeats 8000000 in
theorem implFrameOnly_k (b : List UInt8) (k : Int) (hb : b.length ≤ 1048576) : FnOK Try.prog 82 ⟨1, [(0, some (.ro (b.map bytK)))], [.c (.sl 0 1 0 b.length), .c (.v (.int .i64 k))],
    .tup [.inl (.sl 1 1 0 (foD b k).length), .inl (.v (.bool (foB b k)))], [(1, some (.row 5 ((foD b k).map bytK)))], 2⟩ := by
  have c := implFrameRead_k b hb
  by_cases h : frC b = 0 ∧ frP b = (b.length : Int) ∧ frK b = k
  · have e1 : foB b k = true := decide_eq_true h
    have e2 : foD b k = frD b := by unfold foD; rw [e1]; rfl
    obtain ⟨h1, h2, h3⟩ := h
    rw [e1, e2]
    refine fnOK_of true mixed Try.func82 rfl (by rfl) (by rfl) ?_
    have hres := congrArg Array.toList Try.results82
    simp only [Try.ntmps82, BGB, seval]
    (have gx := And.intro (@List.length_map.{0,0}) (And.intro @List.getElem_map.{0,0} @bytK.eq_1); have q1 := c; refine go ?_; (repeat' (first | exact Ef.mk | refine Lf.mk ?_ ?_ | refine fun (K : KT) hK hE hT => ?_ | refine fun (KS : Eff → Prop) hKS => ?_ | refine fun (D : List Keys → Prop) hD => ?_ | refine fun (hg : (_ : Prop)) => ?_ | fail)); all_goals (first | (refine Wr.mk ?_; (try clear gx); (try clear q1); repeat (first | (clear hK hE hT; clear K) | (clear hR hE hT; clear K))) | assumption | skip))
    all_goals (refine post_a hres (.inl rfl) ?_; simp only [RSB, ENB, seval, tiAll, true_and]; simp only [MAB, seval]; refine ⟨rfl, rfl, ?_, ?_, ?_⟩ <;> (first | rfl | (simp [WKB, Nat.add_comm, true_and]; done) | (simp only [WKB, seval])))
  · have e1 : foB b k = false := decide_eq_false h
    have e2 : foD b k = [] := by unfold foD; rw [e1]; rfl
    rw [e1, e2]
    refine fnOK_of true mixed Try.func82 rfl (by rfl) (by rfl) ?_
    have hres := congrArg Array.toList Try.results82
    simp only [Try.ntmps82, BGB, seval]
    (have gx := And.intro (@List.length_map.{0,0}) (And.intro @List.getElem_map.{0,0} @bytK.eq_1); have q1 := c; refine go ?_; (repeat' (first | exact Ef.mk | refine Lf.mk ?_ ?_ | refine fun (K : KT) hK hE hT => ?_ | refine fun (KS : Eff → Prop) hKS => ?_ | refine fun (D : List Keys → Prop) hD => ?_ | refine fun (hg : (_ : Prop)) => ?_ | fail)); all_goals (first | (refine Wr.mk ?_; (try clear gx); (try clear q1); repeat (first | (clear hK hE hT; clear K) | (clear hR hE hT; clear K))) | assumption | skip))
    all_goals first | exact (h ⟨by omega, by omega, by omega⟩).elim | (refine post_a hres (.inl rfl) ?_; simp only [RSB, ENB, seval, tiAll, true_and]; simp only [MAB, seval]; refine ⟨rfl, rfl, ?_, ?_, ?_⟩ <;> (first | rfl | (simp [WKB, Nat.add_comm, true_and]; done) | (simp only [WKB, seval])))

set_option maxHeartbeats 8000000 in
theorem specFrameOnly_k (b : List UInt8) (k : Int) (hb : b.length ≤ 1048576) : FnOK Try.prog 78 ⟨1, [(0, some (.ro (b.map bytK)))], [.c (.sl 0 1 0 b.length), .c (.v (.int .i64 k))],
    .tup [.inl (.sl 1 1 0 (foD b k).length), .inl (.v (.bool (foB b k)))], [(1, some (.row 5 ((foD b k).map bytK)))], 2⟩ := by
  have c := specFrameRead_k b hb
  by_cases h : frC b = 0 ∧ frP b = (b.length : Int) ∧ frK b = k
  · have e1 : foB b k = true := decide_eq_true h
    have e2 : foD b k = frD b := by unfold foD; rw [e1]; rfl
    obtain ⟨h1, h2, h3⟩ := h
    rw [e1, e2]
    refine fnOK_of true mixed Try.func78 rfl (by rfl) (by rfl) ?_
    have hres := congrArg Array.toList Try.results78
    simp only [Try.ntmps78, BGB, seval]
    (have gx := And.intro (@List.length_map.{0,0}) (And.intro @List.getElem_map.{0,0} @bytK.eq_1); have q1 := c; refine go ?_; (repeat' (first | exact Ef.mk | refine Lf.mk ?_ ?_ | refine fun (K : KT) hK hE hT => ?_ | refine fun (KS : Eff → Prop) hKS => ?_ | refine fun (D : List Keys → Prop) hD => ?_ | refine fun (hg : (_ : Prop)) => ?_ | fail)); all_goals (first | (refine Wr.mk ?_; (try clear gx); (try clear q1); repeat (first | (clear hK hE hT; clear K) | (clear hR hE hT; clear K))) | assumption | skip))
    all_goals (refine post_a hres (.inl rfl) ?_; simp only [RSB, ENB, seval, tiAll, true_and]; simp only [MAB, seval]; refine ⟨rfl, rfl, ?_, ?_, ?_⟩ <;> (first | rfl | (simp [WKB, Nat.add_comm, true_and]; done) | (simp only [WKB, seval])))
  · have e1 : foB b k = false := decide_eq_false h
    have e2 : foD b k = [] := by unfold foD; rw [e1]; rfl
    rw [e1, e2]
    refine fnOK_of true mixed Try.func78 rfl (by rfl) (by rfl) ?_
    have hres := congrArg Array.toList Try.results78
    simp only [Try.ntmps78, BGB, seval]
    (have gx := And.intro (@List.length_map.{0,0}) (And.intro @List.getElem_map.{0,0} @bytK.eq_1); have q1 := c; refine go ?_; (repeat' (first | exact Ef.mk | refine Lf.mk ?_ ?_ | refine fun (K : KT) hK hE hT => ?_ | refine fun (KS : Eff → Prop) hKS => ?_ | refine fun (D : List Keys → Prop) hD => ?_ | refine fun (hg : (_ : Prop)) => ?_ | fail)); all_goals (first | (refine Wr.mk ?_; (try clear gx); (try clear q1); repeat (first | (clear hK hE hT; clear K) | (clear hR hE hT; clear K))) | assumption | skip))
    all_goals first | exact (h ⟨by omega, by omega, by omega⟩).elim | (refine post_a hres (.inl rfl) ?_; simp only [RSB, ENB, seval, tiAll, true_and]; simp only [MAB, seval]; refine ⟨rfl, rfl, ?_, ?_, ?_⟩ <;> (first | rfl | (simp [WKB, Nat.add_comm, true_and]; done) | (simp only [WKB, seval])))

end Go.Proofs.Ytcbnfkbnbdbfoaa
