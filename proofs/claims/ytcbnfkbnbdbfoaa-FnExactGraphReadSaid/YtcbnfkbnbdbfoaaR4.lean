/-
  Contracts: the reference's GetVar. No conditions of its own.
-/
import Derived.Test.YtcbnfkbnbdbfoaaGO
import Derived.Test.YtcbnfkbnbdbfoaaR3
namespace Go.Proofs.Ytcbnfkbnbdbfoaa
set_option linter.unusedSimpArgs false
set_option linter.unusedVariables false
set_option linter.unusedSimpArgs false
set_option linter.unusedVariables false
set_option linter.defProp false
open Go.RowKit

theorem digW_of : ∀ {l : List UInt8}, l ≠ [] → (∀ i, i + 1 < l.length → 128 ≤ (l.getD i 0).toNat) → (l.getD (l.length - 1) 0).toNat < 128 → digW l
  | [], h, _, _ => absurd rfl h
  | [x], _, _, h => by simpa [digW] using h
  | x :: y :: l, _, h, h' => by
    refine ⟨by simpa using h 0 (by simp), digW_of (l := y :: l) (by simp) (fun i hi => ?_) ?_⟩
    · have := h (i + 1) (by simp only [List.length_cons] at hi ⊢; omega)
      simpa using this
    · simpa using h'

theorem take_getD {b : List UInt8} {p k i : Nat} (h : p + k < b.length) (hi : i ≤ k) : ((b.drop p).take (k + 1)).getD i 0 = b[p + i] := by
  simp only [List.getD, List.getElem?_take, List.getElem?_drop]
  rw [if_pos (by omega), List.getElem?_eq_getElem (by omega)]
  rfl

theorem take_len {b : List UInt8} {p k : Nat} (h : p + k < b.length) : ((b.drop p).take (k + 1)).length = k + 1 := by
  rw [List.length_take, List.length_drop]; omega

theorem canon_iff {b : List UInt8} {p k : Nat} (hl : p + k < b.length) (hi : hiTo b p k) (hx : b[p + k].toNat < 128) : varB (dig b p (k + 1)) = (b.drop p).take (k + 1) ↔ (k = 0 ∨ b[p + k].toNat ≠ 0) := by
  have hlen := take_len hl
  have hw : digW ((b.drop p).take (k + 1)) := by
    refine digW_of (fun e => by rw [e] at hlen; simp at hlen) (fun i hi' => ?_) ?_
    · rw [hlen] at hi'
      rw [take_getD hl (by omega)]
      have := hi i (by omega)
      rwa [drop_getD (by omega)] at this
    · rw [hlen, Nat.add_sub_cancel, take_getD hl (Nat.le_refl _)]
      exact hx
  unfold dig
  rw [varB_digV hw, hlen]
  have e : ((b.drop p).take (k + 1)).getLast? = some b[p + k] := by
    rw [List.getLast?_eq_getElem?, hlen, Nat.add_sub_cancel, List.getElem?_take, if_pos (by omega), List.getElem?_drop, List.getElem?_eq_getElem hl]
  rw [e]
  have e0 : (some b[p + k] = some 0) ↔ b[p + k].toNat = 0 := ⟨fun h => by rw [Option.some.inj h]; rfl, fun h => by rw [← u8_of h]; rfl⟩
  rw [ne_eq, e0]
  constructor
  · rintro (h | h)
    · exact .inl (by omega)
    · exact .inr h
  · rintro (h | h)
    · exact .inl (by omega)
    · exact .inr h

/-- The value of the last j of k + 1 digits. -/
def tlV (b : List UInt8) (p k j : Nat) : Nat := digV (((b.drop p).take (k + 1)).drop (k + 1 - j))
theorem tlV_zero {b : List UInt8} {p k : Nat} (h : p + k < b.length) : tlV b p k 0 = 0 := by
  unfold tlV
  rw [Nat.sub_zero, List.drop_eq_nil_of_le (by rw [take_len h]; exact Nat.le_refl _)]
  rfl
theorem tlV_end (b : List UInt8) (p k : Nat) : tlV b p k (k + 1) = dig b p (k + 1) := by
  unfold tlV
  rw [Nat.sub_self, List.drop_zero]
  rfl
theorem tlV_succ {b : List UInt8} {p k j : Nat} (h : p + k < b.length) (hj : j ≤ k) : tlV b p k (j + 1) = tlV b p k j * 128 + (b[p + (k - j)]'(by omega)).toNat % 128 := by
  have hlen := take_len h
  have hk : k - j < ((b.drop p).take (k + 1)).length := by omega
  have e : ((b.drop p).take (k + 1))[k - j] = b[p + (k - j)]'(by omega) := by
    rw [List.getElem_take, List.getElem_drop]
  unfold tlV
  rw [show k + 1 - (j + 1) = k - j by omega, List.drop_eq_getElem_cons hk, e, show k - j + 1 = k + 1 - j by omega]
  simp only [digV]
  omega
theorem digV_lt : ∀ l : List UInt8, digV l < 128 ^ l.length
  | [] => by simp [digV]
  | x :: l => by
    have := digV_lt l
    simp only [digV, List.length_cons, Nat.pow_succ]
    omega
theorem tlV_max {b : List UInt8} {p k j : Nat} (hk : k < 7) : tlV b p k j < 562949953421312 := by
  unfold tlV
  refine Nat.lt_of_lt_of_le (digV_lt _) ?_
  have : (((b.drop p).take (k + 1)).drop (k + 1 - j)).length ≤ 7 := by
    rw [List.length_drop, List.length_take]; omega
  exact Nat.pow_le_pow_right (by decide) this

theorem txt_list (l : List UInt8) : (txt l).toList = l := by
  rw [ByteArray.toList_eq]
  rfl

set_option maxHeartbeats 8000000 in
theorem specGetVar_k (b : List UInt8) (p : Nat) (hb : b.length ≤ 1099511627776) (hp : p ≤ 1099511627776) : FnOK Try.prog 114 ⟨1, [(0, some (.ro (b.map bytK)))], [.c (.sl 0 1 0 b.length), .c (.v (.int .i64 (p : Int)))],
    .tup [.inl (.v (.int .i64 (gvN b p))), .inl (.v (.int .i64 (gvP b p))), .inl (.v (.bool (gvK b p)))], [], 1⟩ := by
  rcases Nat.lt_or_ge p b.length with hl | hl
  case inr =>
    obtain ⟨e1, e2, e3⟩ := gv_none (show gvO b p = none by unfold gvO; rw [if_neg (by omega)])
    rw [e1, e2, e3]
    refine fnOK_of true mixed Try.func114 rfl (by rfl) (by rfl) ?_
    have hres := congrArg Array.toList Try.results114
    simp only [Try.ntmps114, BGB, seval]
    (have gx := And.intro (@List.length_map.{0,0}) (And.intro @List.getElem_map.{0,0} @bytK.eq_1); refine go ?_; (repeat' (first | exact Ef.mk | refine Lf.mk ?_ ?_ | refine fun (K : KT) hK hE hT => ?_ | refine fun (KS : Eff → Prop) hKS => ?_ | refine fun (D : List Keys → Prop) hD => ?_ | refine fun (hg : (_ : Prop)) => ?_ | fail)); all_goals (first | (refine Wr.mk ?_; (try clear gx); repeat (first | (clear hK hE hT; clear K) | (clear hR hE hT; clear K))) | assumption | skip))
    all_goals (refine post_a hres (.inl rfl) ?_; simp only [RSB, ENB, seval, tiAll, true_and]; simp only [MAB, seval]; refine ⟨rfl, rfl, ?_, ?_, ?_⟩ <;> (first | rfl | (simp [WKB, Nat.add_comm, true_and]; done) | (simp only [WKB, seval])))
  case inl =>
    refine fnOK_of true mixed Try.func114 rfl (by rfl) (by rfl) ?_
    have hres := congrArg Array.toList Try.results114
    simp only [Try.ntmps114, BGB, seval]
    (have gx := And.intro (@List.length_map.{0,0}) (And.intro @List.getElem_map.{0,0} @bytK.eq_1); refine go ?_; (repeat' (first | exact Ef.mk | refine Lf.mk ?_ ?_ | refine fun (K : KT) hK hE hT => ?_ | refine fun (KS : Eff → Prop) hKS => ?_ | refine fun (D : List Keys → Prop) hD => ?_ | refine fun (hg : (_ : Prop)) => ?_ | fail)); all_goals (first | (refine Wr.mk ?_; (try clear gx); repeat (first | (clear hK hE hT; clear K) | (clear hR hE hT; clear K))) | assumption | skip))
    refine loop_v (X := {k : Nat // (k ≤ 7 ∧ p + k ≤ b.length) ∧ Rnd (hiTo b p k)}) [] (fun x => [(7, .c (.v (.int .i64 ((p + x.1 : Nat) : Int))))]) (fun x => [(0, some (.ro (b.map bytK)))]) 1 (fun x => 7 - x.1) ⟨0, by omega, ⟨hiTo_zero b p⟩⟩ ?_
    simp only [KPB, seval]
    refine ⟨?_, ?_⟩
    · (refine wk_a ?_; simp only [MAB, seval]; refine ⟨rfl, rfl, (by decide), ?_, ?_⟩; all_goals (first | (simp only [WKB, seval, Nat.add_zero, Nat.reduceLT, Nat.zero_lt_succ]; done) | (simp [WKB, seval, Nat.add_zero]; done) | simp only [WKB, seval]))
    · rintro ⟨k, ⟨hk, hpk⟩, hi⟩ K hR hE hT
      by_cases hstop : k = 7 ∨ b.length ≤ p + k
      · obtain ⟨e1, e2, e3⟩ := gv_none (gvO_none hi.out hstop)
        (have gx := And.intro (@List.length_map.{0,0}) (And.intro @List.getElem_map.{0,0} @bytK.eq_1); refine go ?_; (repeat' (first | exact Ef.mk | refine Lf.mk ?_ ?_ | refine fun (K : KT) hK hE hT => ?_ | refine fun (KS : Eff → Prop) hKS => ?_ | refine fun (D : List Keys → Prop) hD => ?_ | refine fun (hg : (_ : Prop)) => ?_ | fail)); all_goals (first | (refine Wr.mk ?_; (try clear gx); repeat (first | (clear hK hE hT; clear K) | (clear hR hE hT; clear K))) | assumption | skip))
        all_goals (refine post_a hres (.inl rfl) ?_; simp only [RSB, ENB, seval, tiAll, e1, e2, e3]; simp only [MAB, seval]; refine ⟨rfl, rfl, ?_, ?_, ?_⟩ <;> (first | rfl | (simp [WKB, Nat.add_comm, e1, e2, e3]; done) | (simp only [WKB, seval])))
      · have hlt : p + k < b.length := by omega
        have hx := b[p + k].toNat_lt
        by_cases hend : b[p + k].toNat < 128
        · have h2 := gvO_end (b := b) (p := p) (k := k) (by omega) (by omega) hlt hi.out hend
          (have gx := And.intro (@List.length_map.{0,0}) (And.intro @List.getElem_map.{0,0} @bytK.eq_1); refine go ?_; (repeat' (first | exact Ef.mk | refine Lf.mk ?_ ?_ | refine fun (K : KT) hK hE hT => ?_ | refine fun (KS : Eff → Prop) hKS => ?_ | refine fun (D : List Keys → Prop) hD => ?_ | refine fun (hg : (_ : Prop)) => ?_ | fail)); all_goals (first | (refine Wr.mk ?_; (try clear gx); repeat (first | (clear hK hE hT; clear K) | (clear hR hE hT; clear K))) | assumption | skip))
          refine loop_v (X := {j : Nat // j ≤ k + 1}) [] (fun x => [(8, .c (.v (.int .i64 ((tlV b p k x.1 : Nat) : Int)))), (9, .c (.v (.int .i64 ((p : Int) + (k : Int) - ((x.1 : Nat) : Int)))))]) (fun x => [(0, some (.ro (b.map bytK)))]) 1 (fun x => k + 1 - x.1) ⟨0, by omega⟩ ?_
          simp only [KPB, seval]
          refine ⟨?_, ?_⟩
          · (refine wk_a ?_; simp only [MAB, seval]; refine ⟨rfl, rfl, (by decide), ?_, ?_⟩; all_goals (first | (simp only [WKB, seval, tlV_zero hlt, Nat.reduceLT, Nat.zero_lt_succ]; done) | (simp [WKB, seval, tlV_zero hlt]; done) | simp only [WKB, seval]))
          · rintro ⟨j, hj⟩ K hR hE hT
            have m1 := tlV_max (b := b) (p := p) (k := k) (j := j) (by omega)
            rcases Nat.lt_or_ge k j with hjk | hjk
            · obtain rfl : j = k + 1 := by omega
              have te := tlV_end b p k
              have hci := canon_iff hlt hi.out hend
              by_cases hmax : 281474976710655 < dig b p (k + 1)
              · rw [if_pos (.inr hmax)] at h2
                obtain ⟨e1, e2, e3⟩ := gv_none h2
                have cp := specPutVar_k [] ((dig b p (k + 1) : Nat) : Int) (by simp)
                rw [(pvL_no (l := []) (n := ((dig b p (k + 1) : Nat) : Int)) (by omega)).1, (pvL_no (l := []) (n := ((dig b p (k + 1) : Nat) : Int)) (by omega)).2] at cp
                (have gx := And.intro (@List.length_map.{0,0}) (And.intro (@List.getElem_map.{0,0}) (And.intro @bytK.eq_1 @te)); have q1 := cp; refine go ?_; (repeat' (first | exact Ef.mk | refine Lf.mk ?_ ?_ | refine fun (K : KT) hK hE hT => ?_ | refine fun (KS : Eff → Prop) hKS => ?_ | refine fun (D : List Keys → Prop) hD => ?_ | refine fun (hg : (_ : Prop)) => ?_ | fail)); all_goals (first | (refine Wr.mk ?_; (try clear gx); (try clear q1); repeat (first | (clear hK hE hT; clear K) | (clear hR hE hT; clear K))) | assumption | skip))
                all_goals (refine post_a hres (.inl rfl) ?_; simp only [RSB, ENB, seval, tiAll, e1, e2, e3]; simp only [MAB, seval]; refine ⟨rfl, rfl, ?_, ?_, ?_⟩ <;> (first | rfl | (simp [WKB, Nat.add_comm, e1, e2, e3]; done) | (simp only [WKB, seval])))
              · have cp := specPutVar_k [] ((dig b p (k + 1) : Nat) : Int) (by simp)
                rw [(pvL_yes (l := []) (m := dig b p (k + 1)) (by omega)).1, (pvL_yes (l := []) (m := dig b p (k + 1)) (by omega)).2, List.nil_append] at cp
                (have gx := And.intro (@List.length_map.{0,0}) (And.intro (@List.getElem_map.{0,0}) (And.intro @bytK.eq_1 @te)); have q1 := cp; refine go ?_; (repeat' (first | exact Ef.mk | refine Lf.mk ?_ ?_ | refine fun (K : KT) hK hE hT => ?_ | refine fun (KS : Eff → Prop) hKS => ?_ | refine fun (D : List Keys → Prop) hD => ?_ | refine fun (hg : (_ : Prop)) => ?_ | fail)); all_goals (first | (refine Wr.mk ?_; (try clear gx); (try clear q1); repeat (first | (clear hK hE hT; clear K) | (clear hR hE hT; clear K))) | assumption | skip))
                refine ⟨varB (dig b p (k + 1)), by rw [List.take_of_length_le (by simp)], rfl, ?_⟩
                (have gx := And.intro (@List.length_map.{0,0}) (And.intro (@List.getElem_map.{0,0}) (And.intro (@bytK.eq_1) (And.intro (@te) (And.intro (@Option.toArray_some.{0}) (And.intro @Option.toArray_none.{0} @List.toList_toArray.{0}))))); refine go ?_; (repeat' (first | exact Ef.mk | refine Lf.mk ?_ ?_ | refine fun (K : KT) hK hE hT => ?_ | refine fun (KS : Eff → Prop) hKS => ?_ | refine fun (D : List Keys → Prop) hD => ?_ | refine fun (hg : (_ : Prop)) => ?_ | fail)); all_goals (first | (refine Wr.mk ?_; (try clear gx); repeat (first | (clear hK hE hT; clear K) | (clear hR hE hT; clear K))) | assumption | skip))
                refine ⟨p, ⟨.i64, rfl⟩, p + k + 1, ⟨.i64, by simp⟩, by omega, by omega, ?_⟩
                rw [show p + k + 1 - p = k + 1 by omega]
                (have gx := And.intro (@List.length_map.{0,0}) (And.intro (@List.getElem_map.{0,0}) (And.intro (@bytK.eq_1) (And.intro (@te) (And.intro (@Option.toArray_some.{0}) (And.intro @Option.toArray_none.{0} @List.toList_toArray.{0}))))); refine go ?_; (repeat' (first | exact Ef.mk | refine Lf.mk ?_ ?_ | refine fun (K : KT) hK hE hT => ?_ | refine fun (KS : Eff → Prop) hKS => ?_ | refine fun (D : List Keys → Prop) hD => ?_ | refine fun (hg : (_ : Prop)) => ?_ | fail)); all_goals (first | (refine Wr.mk ?_; (try clear gx); repeat (first | (clear hK hE hT; clear K) | (clear hR hE hT; clear K))) | assumption | skip))
                refine ⟨(b.drop p).take (k + 1), by rw [← List.map_drop, ← List.map_take], take_len hlt, ?_⟩
                (have gx := And.intro (@List.length_map.{0,0}) (And.intro (@List.getElem_map.{0,0}) (And.intro @bytK.eq_1 @te)); refine go ?_; (repeat' (first | exact Ef.mk | refine Lf.mk ?_ ?_ | refine fun (K : KT) hK hE hT => ?_ | refine fun (KS : Eff → Prop) hKS => ?_ | refine fun (D : List Keys → Prop) hD => ?_ | refine fun (hg : (_ : Prop)) => ?_ | fail)); all_goals (first | (refine Wr.mk ?_; (try clear gx); repeat (first | (clear hK hE hT; clear K) | (clear hR hE hT; clear K))) | assumption | skip))
                · have hne : ¬ (k = 0 ∨ b[p + k].toNat ≠ 0) := fun h => hg (by rw [txt_list, txt_list]; exact hci.2 h)
                  rw [if_pos (.inl (by omega))] at h2
                  obtain ⟨e1, e2, e3⟩ := gv_none h2
                  (refine post_a hres (.inl rfl) ?_; simp only [RSB, ENB, seval, tiAll, e1, e2, e3]; simp only [MAB, seval]; refine ⟨rfl, rfl, ?_, ?_, ?_⟩ <;> (first | rfl | (simp [WKB, Nat.add_comm, e1, e2, e3]; done) | (simp only [WKB, seval])))
                · have hne : k = 0 ∨ b[p + k].toNat ≠ 0 := hci.1 (by rw [txt_list, txt_list] at hg; exact hg)
                  rw [if_neg (by omega)] at h2
                  obtain ⟨e1, e2, e3⟩ := gv_some h2
                  have e2' : gvP b p = ((p + k : Nat) : Int) + 1 := by rw [e2]; push_cast; omega
                  (refine post_a hres (.inl rfl) ?_; simp only [RSB, ENB, seval, tiAll, e1, e2', e3, te]; simp only [MAB, seval]; refine ⟨rfl, rfl, ?_, ?_, ?_⟩ <;> (first | rfl | (simp [WKB, Nat.add_comm, e1, e2', e3, te]; done) | (simp only [WKB, seval])))
            · have q0 : ((p : Int) + (k : Int) - (j : Int)).toNat = p + (k - j) := by omega
              have e := tlV_succ hlt hjk
              have e' : ((tlV b p k (j + 1) : Nat) : Int) = (tlV b p k j : Int) * 128 + ((b[p + (k - j)]'(by omega)).toNat : Int) % 128 := by rw [e]; push_cast; rfl
              have e3 : (p : Int) + (k : Int) - (j : Int) - 1 = (p : Int) + (k : Int) - ((j + 1 : Nat) : Int) := by omega
              (have gx := And.intro (@List.length_map.{0,0}) (And.intro (@List.getElem_map.{0,0}) (And.intro @bytK.eq_1 @q0)); refine go ?_; (repeat' (first | exact Ef.mk | refine Lf.mk ?_ ?_ | refine fun (K : KT) hK hE hT => ?_ | refine fun (KS : Eff → Prop) hKS => ?_ | refine fun (D : List Keys → Prop) hD => ?_ | refine fun (hg : (_ : Prop)) => ?_ | fail)); all_goals (first | (refine Wr.mk ?_; (try clear gx); repeat (first | (clear hK hE hT; clear K) | (clear hR hE hT; clear K))) | assumption | skip))
              (refine hR.out ⟨j + 1, by omega⟩ _ _ _ (by simp only; omega) ?_; (refine wk_a ?_; simp only [MAB, seval]; refine ⟨rfl, rfl, (by decide), ?_, ?_⟩; all_goals (first | (simp only [WKB, seval, e', e3, Nat.reduceLT, Nat.zero_lt_succ]; done) | (simp [WKB, seval, e', e3]; done) | simp only [WKB, seval])))
        · (have gx := And.intro (@List.length_map.{0,0}) (And.intro @List.getElem_map.{0,0} @bytK.eq_1); refine go ?_; (repeat' (first | exact Ef.mk | refine Lf.mk ?_ ?_ | refine fun (K : KT) hK hE hT => ?_ | refine fun (KS : Eff → Prop) hKS => ?_ | refine fun (D : List Keys → Prop) hD => ?_ | refine fun (hg : (_ : Prop)) => ?_ | fail)); all_goals (first | (refine Wr.mk ?_; (try clear gx); repeat (first | (clear hK hE hT; clear K) | (clear hR hE hT; clear K))) | assumption | skip))
          have e4 : ((p + k : Nat) : Int) + 1 = ((p + (k + 1) : Nat) : Int) := by push_cast; omega
          (refine hR.out ⟨k + 1, by omega, ⟨hiTo_succ hi.out hlt (by omega)⟩⟩ _ _ _ (by simp only; omega) ?_; (refine wk_a ?_; simp only [MAB, seval]; refine ⟨rfl, rfl, (by decide), ?_, ?_⟩; all_goals (first | (simp only [WKB, seval, e4, Nat.reduceLT, Nat.zero_lt_succ]; done) | (simp [WKB, seval, e4]; done) | simp only [WKB, seval])))

end Go.Proofs.Ytcbnfkbnbdbfoaa
