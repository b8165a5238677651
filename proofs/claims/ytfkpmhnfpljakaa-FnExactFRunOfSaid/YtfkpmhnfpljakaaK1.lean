/-
  Contracts of the functions on sets, by the engine: the test of a bit, SetOk, Has. No conditions of its own.
-/
import Derived.Test.YtfkpmhnfpljakaaGO
import Derived.Test.YtfkpmhnfpljakaaH2d
import Derived.Test.YtfkpmhnfpljakaaSetM
namespace Go.Proofs.Ytfkpmhnfpljakaa
set_option linter.unusedSimpArgs false
set_option linter.unusedVariables false
set_option linter.unusedSimpArgs false
set_option linter.unusedVariables false
set_option linter.defProp false
open Go.RowKit

theorem bit_shr (l : List UInt8) (v : Nat) (hv : v / 8 < l.length) : (bits BinOp.and IntKind.u8 ((l[v / 8].toNat : Int).fdiv (2 ^ min ((v : Int) % 8).toNat IntKind.u8.bits)) 1 == 1) = bitAt l v := by
  have h1 : ((v : Int) % 8).toNat = v % 8 := by omega
  have h2 : min (v % 8) IntKind.u8.bits = v % 8 := Nat.min_eq_left (by have : IntKind.u8.bits = 8 := rfl; omega)
  rw [h1, h2, Int.fdiv_eq_ediv_of_nonneg _ (Int.pow_nonneg (by decide)), bit_val]
  simp [bitAt, hv]

theorem implhas_k (n : Int) (l : List UInt8) (v : Nat) (hv : v / 8 < l.length) (hv' : v ≤ 1099511627776) :
    FnOK Try.prog 166 ⟨1, [(0, some (.ro (l.map bytK)))], [.agg [.v (.int .i64 n), .sl 0 1 0 l.length], .c (.v (.int .i64 (v : Int)))], .c (.v (.bool (bitAt l v))), [], 1⟩ := by
  have q2 : ((v : Int) / 8).toNat = v / 8 := by omega
  refine fnOK_of true mixed Try.func166 rfl (by rfl) (by rfl) ?_
  have hres := congrArg Array.toList Try.results166
  simp only [Try.ntmps166, BGB, seval]
  (have gx := And.intro (@List.length_map.{0,0}) (And.intro (@List.getElem_map.{0,0}) (And.intro @bytK.eq_1 @q2)); refine go ?_; (repeat' (first | exact Ef.mk | refine Lf.mk ?_ ?_ | refine fun (K : KT) hK hE hT => ?_ | refine fun (KS : Eff → Prop) hKS => ?_ | refine fun (D : List Keys → Prop) hD => ?_ | refine fun (hg : (_ : Prop)) => ?_ | fail)); all_goals (first | (refine Wr.mk ?_; (try clear gx); repeat (first | (clear hK hE hT; clear K) | (clear hR hE hT; clear K))) | assumption | skip))
  (refine post_a hres (.inl rfl) ?_; simp only [RSB, ENB, seval, tiAll, bit_shr l v hv]; simp only [MAB, seval]; refine ⟨rfl, rfl, ?_, ?_, ?_⟩ <;> (first | rfl | (simp [WKB, Nat.add_comm, bit_shr l v hv]; done) | (simp only [WKB, seval])))

theorem setOk_no (n : Int) (l : List UInt8) (h : ¬ (0 ≤ n ∧ n ≤ 150 ∧ l.length = (n.toNat + 7) / 8)) : setOk n l = false := by
  rw [Bool.eq_false_iff]
  intro h'
  unfold setOk at h'
  simp only [decide_eq_true_eq] at h'
  exact h ⟨h'.1, h'.2.1, h'.2.2.1⟩

theorem setOk_hit (m k : Nat) (l : List UInt8) (h1 : m ≤ k) (h2 : k < 8 * l.length) (hb : bitAt l k = true) : setOk (m : Int) l = false := by
  rw [Bool.eq_false_iff]
  intro h'
  unfold setOk at h'
  simp only [decide_eq_true_eq] at h'
  have := h'.2.2.2 k h2 (by simpa using h1)
  rw [this] at hb; cases hb

theorem setOk_end (m k : Nat) (l : List UInt8) (hm : m ≤ 150) (hl : l.length = (m + 7) / 8) (h2 : 8 * l.length ≤ k) (h : ∀ j, m ≤ j → j < k → bitAt l j = false) : setOk (m : Int) l = true := by
  unfold setOk
  simp only [decide_eq_true_eq]
  exact ⟨by omega, by omega, by simpa using hl, fun v hv hmv => h v (by simpa using hmv) (by omega)⟩

theorem setOk_len {n : Int} {l : List UInt8} (h : setOk n l = true) : 0 ≤ n ∧ n ≤ 150 ∧ l.length = (n.toNat + 7) / 8 ∧ l.length ≤ 19 := by
  unfold setOk at h
  simp only [decide_eq_true_eq] at h
  refine ⟨h.1, h.2.1, h.2.2.1, ?_⟩
  have := h.1
  have := h.2.1
  have := h.2.2.1
  omega


set_option maxHeartbeats 2000000 in
theorem implSetOk_k (n : Int) (l : List UInt8) (hl : l.length ≤ 1048576) :
    FnOK Try.prog 134 ⟨1, [(0, some (.ro (l.map bytK)))], [.agg [.v (.int .i64 n), .sl 0 1 0 l.length]], .c (.v (.bool (setOk n l))), [], 1⟩ := by
  refine fnOK_of true mixed Try.func134 rfl (by rfl) (by rfl) ?_
  have hres := congrArg Array.toList Try.results134
  simp only [Try.ntmps134, BGB, seval]
  (have gx := And.intro (@List.length_map.{0,0}) (And.intro @List.getElem_map.{0,0} @bytK.eq_1); refine go ?_; (repeat' (first | exact Ef.mk | refine Lf.mk ?_ ?_ | refine fun (K : KT) hK hE hT => ?_ | refine fun (KS : Eff → Prop) hKS => ?_ | refine fun (D : List Keys → Prop) hD => ?_ | refine fun (hg : (_ : Prop)) => ?_ | fail)); all_goals (first | (refine Wr.mk ?_; (try clear gx); repeat (first | (clear hK hE hT; clear K) | (clear hR hE hT; clear K))) | assumption | skip))
  · (refine post_a hres (.inl rfl) ?_; simp only [RSB, ENB, seval, tiAll, setOk_no n l (by omega)]; simp only [MAB, seval]; refine ⟨rfl, rfl, ?_, ?_, ?_⟩ <;> (first | rfl | (simp [WKB, Nat.add_comm, setOk_no n l (by omega)]; done) | (simp only [WKB, seval])))
  · obtain ⟨m, rfl⟩ := Int.eq_ofNat_of_zero_le (show 0 ≤ n by assumption)
    have hm : m ≤ 150 := by omega
    have hlm : l.length = (m + 7) / 8 := by omega
    refine loop_v (X := {k : Nat // (m ≤ k ∧ k ≤ 8 * l.length) ∧ Rnd (∀ j, m ≤ j → j < k → bitAt l j = false)}) [] (fun x => [(3, .c (.v (.int .i64 ((x.1 : Nat) : Int))))]) (fun x => [(0, some (.ro (l.map bytK))), (1, some (.box 56 [.v (.int .i64 (m : Int)), .sl 0 1 0 l.length]))]) 2 (fun x => 8 * l.length - x.1) ⟨m, ⟨Nat.le_refl _, by omega⟩, ⟨fun j h1 h2 => by omega⟩⟩ ?_
    simp only [KPB, seval]
    refine ⟨?_, ?_⟩
    · (refine wk_a ?_; simp only [MAB, seval]; refine ⟨rfl, rfl, (by decide), ?_, ?_⟩; all_goals (first | (simp only [WKB, seval, true_and, Nat.reduceLT, Nat.zero_lt_succ]; done) | (simp [WKB, seval, true_and]; done) | simp only [WKB, seval]))
    · rintro ⟨k, ⟨hk1, hk2⟩, hk⟩ K hR hE hT
      skip
      (have gx := And.intro (@List.length_map.{0,0}) (And.intro @List.getElem_map.{0,0} @bytK.eq_1); have q1 := implhas_k (m : Int) l k; refine go ?_; (repeat' (first | exact Ef.mk | refine Lf.mk ?_ ?_ | refine fun (K : KT) hK hE hT => ?_ | refine fun (KS : Eff → Prop) hKS => ?_ | refine fun (D : List Keys → Prop) hD => ?_ | refine fun (hg : (_ : Prop)) => ?_ | fail)); all_goals (first | (refine Wr.mk ?_; (try clear gx); (try clear q1); repeat (first | (clear hK hE hT; clear K) | (clear hR hE hT; clear K))) | assumption | skip))
      · have hb : bitAt l k = true := by assumption
        (refine post_a hres (.inl rfl) ?_; simp only [RSB, ENB, seval, tiAll, setOk_hit m k l hk1 (by omega) hb]; simp only [MAB, seval]; refine ⟨rfl, rfl, ?_, ?_, ?_⟩ <;> (first | rfl | (simp [WKB, Nat.add_comm, setOk_hit m k l hk1 (by omega) hb]; done) | (simp only [WKB, seval])))
      · have hb : bitAt l k = false := by assumption
        have hn : ∀ j, m ≤ j → j < k + 1 → bitAt l j = false := fun j h1 h2 => by
          by_cases hj : j = k
          · subst hj; exact hb
          · exact hk.out j h1 (by omega)
        (refine hR.out ⟨k + 1, ⟨by omega, by omega⟩, ⟨hn⟩⟩ _ _ _ (by simp only; omega) ?_; (refine wk_a ?_; simp only [MAB, seval]; refine ⟨rfl, rfl, (by decide), ?_, ?_⟩; all_goals (first | (simp only [WKB, seval, true_and, Nat.reduceLT, Nat.zero_lt_succ]; done) | (simp [WKB, seval, true_and]; done) | simp only [WKB, seval])))
      · (refine post_a hres (.inl rfl) ?_; simp only [RSB, ENB, seval, tiAll, setOk_end m k l hm hlm (by omega) hk.out]; simp only [MAB, seval]; refine ⟨rfl, rfl, ?_, ?_, ?_⟩ <;> (first | rfl | (simp [WKB, Nat.add_comm, setOk_end m k l hm hlm (by omega) hk.out]; done) | (simp only [WKB, seval])))
  · (refine post_a hres (.inl rfl) ?_; simp only [RSB, ENB, seval, tiAll, setOk_no n l (by omega)]; simp only [MAB, seval]; refine ⟨rfl, rfl, ?_, ?_, ?_⟩ <;> (first | rfl | (simp [WKB, Nat.add_comm, setOk_no n l (by omega)]; done) | (simp only [WKB, seval])))
  · (refine post_a hres (.inl rfl) ?_; simp only [RSB, ENB, seval, tiAll, setOk_no n l (by omega)]; simp only [MAB, seval]; refine ⟨rfl, rfl, ?_, ?_, ?_⟩ <;> (first | rfl | (simp [WKB, Nat.add_comm, setOk_no n l (by omega)]; done) | (simp only [WKB, seval])))

theorem l09Bit_w (v : Nat) (hv : v ≤ 1099511627776) : FnOK Try.prog 163 ⟨0, [], [.c (.v (.int .i64 (v : Int)))], .c (.v (.int .i64 (bitW v))), [], 0⟩ := l09Bit_k v hv

set_option maxHeartbeats 2000000 in
theorem specSetOk_k (n : Int) (l : List UInt8) (hl : l.length ≤ 1048576) :
    FnOK Try.prog 130 ⟨1, [(0, some (.ro (l.map bytK)))], [.agg [.v (.int .i64 n), .sl 0 1 0 l.length]], .c (.v (.bool (setOk n l))), [], 1⟩ := by
  refine fnOK_of true mixed Try.func130 rfl (by rfl) (by rfl) ?_
  have hres := congrArg Array.toList Try.results130
  simp only [Try.ntmps130, BGB, seval]
  (have gx := And.intro (@List.length_map.{0,0}) (And.intro @List.getElem_map.{0,0} @bytK.eq_1); refine go ?_; (repeat' (first | exact Ef.mk | refine Lf.mk ?_ ?_ | refine fun (K : KT) hK hE hT => ?_ | refine fun (KS : Eff → Prop) hKS => ?_ | refine fun (D : List Keys → Prop) hD => ?_ | refine fun (hg : (_ : Prop)) => ?_ | fail)); all_goals (first | (refine Wr.mk ?_; (try clear gx); repeat (first | (clear hK hE hT; clear K) | (clear hR hE hT; clear K))) | assumption | skip))
  · (refine post_a hres (.inl rfl) ?_; simp only [RSB, ENB, seval, tiAll, setOk_no n l (by omega)]; simp only [MAB, seval]; refine ⟨rfl, rfl, ?_, ?_, ?_⟩ <;> (first | rfl | (simp [WKB, Nat.add_comm, setOk_no n l (by omega)]; done) | (simp only [WKB, seval])))
  · obtain ⟨m, rfl⟩ := Int.eq_ofNat_of_zero_le (show 0 ≤ n by assumption)
    have hm : m ≤ 150 := by omega
    have hlm : l.length = (m + 7) / 8 := by omega
    refine loop_v (X := {k : Nat // (m ≤ k ∧ k ≤ 8 * l.length) ∧ Rnd (∀ j, m ≤ j → j < k → bitAt l j = false)}) [] (fun x => [(3, .c (.v (.int .i64 ((x.1 : Nat) : Int))))]) (fun x => [(0, some (.ro (l.map bytK))), (1, some (.box 56 [.v (.int .i64 (m : Int)), .sl 0 1 0 l.length]))]) 2 (fun x => 8 * l.length - x.1) ⟨m, ⟨Nat.le_refl _, by omega⟩, ⟨fun j h1 h2 => by omega⟩⟩ ?_
    simp only [KPB, seval]
    refine ⟨?_, ?_⟩
    · (refine wk_a ?_; simp only [MAB, seval]; refine ⟨rfl, rfl, (by decide), ?_, ?_⟩; all_goals (first | (simp only [WKB, seval, true_and, Nat.reduceLT, Nat.zero_lt_succ]; done) | (simp [WKB, seval, true_and]; done) | simp only [WKB, seval]))
    · rintro ⟨k, ⟨hk1, hk2⟩, hk⟩ K hR hE hT
      have q2 : ((k : Int) / 8).toNat = k / 8 := by omega
      obtain ⟨hw1, hw2⟩ := bitW_le k
      have q0 : ∀ h : k / 8 < l.length, 0 ≤ (l[k / 8].toNat : Int) / bitW k := fun h => Int.ediv_nonneg (by omega) (by omega)
      (have gx := And.intro (@List.length_map.{0,0}) (And.intro (@List.getElem_map.{0,0}) (And.intro @bytK.eq_1 @q2)); have q1 := l09Bit_w k; have gs := q0; refine go ?_; (repeat' (first | exact Ef.mk | refine Lf.mk ?_ ?_ | refine fun (K : KT) hK hE hT => ?_ | refine fun (KS : Eff → Prop) hKS => ?_ | refine fun (D : List Keys → Prop) hD => ?_ | refine fun (hg : (_ : Prop)) => ?_ | fail)); all_goals (first | (refine Wr.mk ?_; (try clear gx); (try clear q1 gs); repeat (first | (clear hK hE hT; clear K) | (clear hR hE hT; clear K))) | assumption | skip))
      · have hb : bitAt l k = true := by rw [← bit_quo l k (by omega), beq_iff_eq]; assumption
        (refine post_a hres (.inl rfl) ?_; simp only [RSB, ENB, seval, tiAll, setOk_hit m k l hk1 (by omega) hb]; simp only [MAB, seval]; refine ⟨rfl, rfl, ?_, ?_, ?_⟩ <;> (first | rfl | (simp [WKB, Nat.add_comm, setOk_hit m k l hk1 (by omega) hb]; done) | (simp only [WKB, seval])))
      · have hb : bitAt l k = false := by rw [← bit_quo l k (by omega), beq_eq_false_iff_ne]; assumption
        have hn : ∀ j, m ≤ j → j < k + 1 → bitAt l j = false := fun j h1 h2 => by
          by_cases hj : j = k
          · subst hj; exact hb
          · exact hk.out j h1 (by omega)
        (refine hR.out ⟨k + 1, ⟨by omega, by omega⟩, ⟨hn⟩⟩ _ _ _ (by simp only; omega) ?_; (refine wk_a ?_; simp only [MAB, seval]; refine ⟨rfl, rfl, (by decide), ?_, ?_⟩; all_goals (first | (simp only [WKB, seval, true_and, Nat.reduceLT, Nat.zero_lt_succ]; done) | (simp [WKB, seval, true_and]; done) | simp only [WKB, seval])))
      · (refine post_a hres (.inl rfl) ?_; simp only [RSB, ENB, seval, tiAll, setOk_end m k l hm hlm (by omega) hk.out]; simp only [MAB, seval]; refine ⟨rfl, rfl, ?_, ?_, ?_⟩ <;> (first | rfl | (simp [WKB, Nat.add_comm, setOk_end m k l hm hlm (by omega) hk.out]; done) | (simp only [WKB, seval])))
  · (refine post_a hres (.inl rfl) ?_; simp only [RSB, ENB, seval, tiAll, setOk_no n l (by omega)]; simp only [MAB, seval]; refine ⟨rfl, rfl, ?_, ?_, ?_⟩ <;> (first | rfl | (simp [WKB, Nat.add_comm, setOk_no n l (by omega)]; done) | (simp only [WKB, seval])))
  · (refine post_a hres (.inl rfl) ?_; simp only [RSB, ENB, seval, tiAll, setOk_no n l (by omega)]; simp only [MAB, seval]; refine ⟨rfl, rfl, ?_, ?_, ?_⟩ <;> (first | rfl | (simp [WKB, Nat.add_comm, setOk_no n l (by omega)]; done) | (simp only [WKB, seval])))

/-- Is the vertex a member? -/
def hasL (n : Int) (l : List UInt8) (v : Int) : Bool := setOk n l && decide (0 ≤ v ∧ v < n) && bitAt l v.toNat

set_option maxHeartbeats 2000000 in
theorem specHas_k (n : Int) (l : List UInt8) (hl : l.length ≤ 1048576) (v : Int) :
    FnOK Try.prog 164 ⟨1, [(0, some (.ro (l.map bytK)))], [.agg [.v (.int .i64 n), .sl 0 1 0 l.length], .c (.v (.int .i64 v))], .c (.v (.bool (hasL n l v))), [], 1⟩ := by
  cases ho : setOk n l with
  | false =>
    have hs := specSetOk_k n l hl
    rw [ho] at hs
    refine fnOK_of true mixed Try.func164 rfl (by rfl) (by rfl) ?_
    have hres := congrArg Array.toList Try.results164
    simp only [Try.ntmps164, BGB, seval]
    (have gx := And.intro (@List.length_map.{0,0}) (And.intro @List.getElem_map.{0,0} @bytK.eq_1); have q1 := hs; refine go ?_; (repeat' (first | exact Ef.mk | refine Lf.mk ?_ ?_ | refine fun (K : KT) hK hE hT => ?_ | refine fun (KS : Eff → Prop) hKS => ?_ | refine fun (D : List Keys → Prop) hD => ?_ | refine fun (hg : (_ : Prop)) => ?_ | fail)); all_goals (first | (refine Wr.mk ?_; (try clear gx); (try clear q1); repeat (first | (clear hK hE hT; clear K) | (clear hR hE hT; clear K))) | assumption | skip))
    (refine post_a hres (.inl rfl) ?_; simp only [RSB, ENB, seval, tiAll, hasL, ho, Bool.false_and]; simp only [MAB, seval]; refine ⟨rfl, rfl, ?_, ?_, ?_⟩ <;> (first | rfl | (simp [WKB, Nat.add_comm, hasL, ho, Bool.false_and]; done) | (simp only [WKB, seval])))
  | true =>
    obtain ⟨h1, h2, h3, h4⟩ := setOk_len ho
    have hs := specSetOk_k n l hl
    rw [ho] at hs
    by_cases hv : 0 ≤ v ∧ v < n
    · obtain ⟨k, rfl⟩ := Int.eq_ofNat_of_zero_le hv.1
      have hk : k / 8 < l.length := by omega
      have e : hasL n l (k : Int) = bitAt l k := by unfold hasL; simp [ho, hv.2]
      have q2 : ((k : Int) / 8).toNat = k / 8 := by omega
      obtain ⟨hw1, hw2⟩ := bitW_le k
      have q0 : ∀ h : k / 8 < l.length, 0 ≤ (l[k / 8].toNat : Int) / bitW k := fun h => Int.ediv_nonneg (by omega) (by omega)
      have q3 := bit_quo l k hk
      refine fnOK_of true mixed Try.func164 rfl (by rfl) (by rfl) ?_
      have hres := congrArg Array.toList Try.results164
      simp only [Try.ntmps164, BGB, seval]
      (have gx := And.intro (@List.length_map.{0,0}) (And.intro (@List.getElem_map.{0,0}) (And.intro (@bytK.eq_1) (And.intro @q2 @q3))); have q1 := hs; have q2 := l09Bit_w k; have gs := q0; refine go ?_; (repeat' (first | exact Ef.mk | refine Lf.mk ?_ ?_ | refine fun (K : KT) hK hE hT => ?_ | refine fun (KS : Eff → Prop) hKS => ?_ | refine fun (D : List Keys → Prop) hD => ?_ | refine fun (hg : (_ : Prop)) => ?_ | fail)); all_goals (first | (refine Wr.mk ?_; (try clear gx); (try clear q1 q2 gs); repeat (first | (clear hK hE hT; clear K) | (clear hR hE hT; clear K))) | assumption | skip))
      (refine post_a hres (.inl rfl) ?_; simp only [RSB, ENB, seval, tiAll, e]; simp only [MAB, seval]; refine ⟨rfl, rfl, ?_, ?_, ?_⟩ <;> (first | rfl | (simp [WKB, Nat.add_comm, e]; done) | (simp only [WKB, seval])))
    · have e : hasL n l v = false := by unfold hasL; simp [ho]; intro a b; exact absurd ⟨a, b⟩ hv
      refine fnOK_of true mixed Try.func164 rfl (by rfl) (by rfl) ?_
      have hres := congrArg Array.toList Try.results164
      simp only [Try.ntmps164, BGB, seval]
      (have gx := And.intro (@List.length_map.{0,0}) (And.intro @List.getElem_map.{0,0} @bytK.eq_1); have q1 := hs; refine go ?_; (repeat' (first | exact Ef.mk | refine Lf.mk ?_ ?_ | refine fun (K : KT) hK hE hT => ?_ | refine fun (KS : Eff → Prop) hKS => ?_ | refine fun (D : List Keys → Prop) hD => ?_ | refine fun (hg : (_ : Prop)) => ?_ | fail)); all_goals (first | (refine Wr.mk ?_; (try clear gx); (try clear q1); repeat (first | (clear hK hE hT; clear K) | (clear hR hE hT; clear K))) | assumption | skip))
      all_goals (refine post_a hres (.inl rfl) ?_; simp only [RSB, ENB, seval, tiAll, e]; simp only [MAB, seval]; refine ⟨rfl, rfl, ?_, ?_, ?_⟩ <;> (first | rfl | (simp [WKB, Nat.add_comm, e]; done) | (simp only [WKB, seval])))

end Go.Proofs.Ytfkpmhnfpljakaa
