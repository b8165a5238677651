/-
  Names and operations on files asked for: impl, spec. No conditions of its own.
-/
import Derived.Test.YtfnhchcgieeedaaGO
import Derived.Test.YtfnhchcgieeedaaDH4
namespace Go.Proofs.Ytfnhchcgieeedaa
set_option linter.unusedSimpArgs false
set_option linter.unusedVariables false
set_option linter.unusedSimpArgs false
set_option linter.unusedVariables false
set_option linter.defProp false
set_option maxRecDepth 20000
open Go.RowKit

def okC (c : UInt8) : Bool := !((decide (c.toNat < 97) || decide (122 < c.toNat)) && (decide (c.toNat < 48) || decide (57 < c.toNat)) && !decide (c.toNat = 46))
def nameO (s : List UInt8) : Bool := decide (1 ≤ s.length) && decide (s.length ≤ 12) && s.all okC
def opO (o : FsOpD) : Bool :=
  nameO o.Name && if o.Kind = 1 ∨ o.Kind = 4 then decide (o.To = []) && decide (o.Data.length = 0) else if o.Kind = 2 then decide (o.To = []) && decide (1 ≤ o.Data.length) && decide (o.Data.length ≤ 200000)
    else if o.Kind = 3 then nameO o.To && decide (o.Data.length = 0) else false

theorem okC_no {c : UInt8} : okC c = false ↔ (c.toNat < 97 ∨ 122 < c.toNat) ∧ (c.toNat < 48 ∨ 57 < c.toNat) ∧ c.toNat ≠ 46 := by
  unfold okC
  simp only [Bool.not_eq_false', Bool.and_eq_true, Bool.or_eq_true, decide_eq_true_eq, Bool.not_eq_true', decide_eq_false_iff_not]
  constructor
  · rintro ⟨⟨a, b⟩, c⟩; exact ⟨a, b, c⟩
  · rintro ⟨a, b, c⟩; exact ⟨⟨a, b⟩, c⟩
theorem okC_yes {c : UInt8} : okC c = true ↔ ¬ ((c.toNat < 97 ∨ 122 < c.toNat) ∧ (c.toNat < 48 ∨ 57 < c.toNat) ∧ c.toNat ≠ 46) := by
  rw [← okC_no]; simp
theorem txt_data (l : List UInt8) : (txt l).data.toList = l := by simp [txt]

theorem all_no {s : List UInt8} {k : Nat} (h : k < s.length) (hc : okC s[k] = false) : s.all okC = false := by
  cases e : s.all okC with
  | false => rfl
  | true => rw [List.all_eq_true] at e; rw [e _ (List.getElem_mem h)] at hc; cases hc
theorem all_yes {s : List UInt8} (h : ∀ i, i < s.length → okC (s.getD i 0) = true) : s.all okC = true := by
  rw [List.all_eq_true]
  intro x hx
  obtain ⟨i, hi, rfl⟩ := List.mem_iff_getElem.1 hx
  have := h i hi
  rwa [List.getD_eq_getElem?_getD, List.getElem?_eq_getElem hi, Option.getD_some] at this

set_option maxHeartbeats 4000000 in
theorem implNameOk_k (s : List UInt8) (hs : s.length ≤ 1048576) : FnOK Try.prog 88 ⟨0, [], [.c (.v (.string (txt s)))], .c (.v (.bool (nameO s))), [], 0⟩ := by
  by_cases h0 : 1 ≤ s.length ∧ s.length ≤ 12
  case neg =>
    have e : nameO s = false := by
      unfold nameO
      rcases Nat.lt_or_ge s.length 1 with h1 | h1
      · rw [decide_eq_false (by omega)]; rfl
      · rw [decide_eq_true (by omega), decide_eq_false (show ¬ s.length ≤ 12 by omega)]; rfl
    rw [e]
    refine fnOK_of true mixed Try.func88 rfl (by rfl) (by rfl) ?_
    have hres := congrArg Array.toList Try.results88
    simp only [Try.ntmps88, BGB, seval]
    (have gx := @txt_len; refine go ?_; (repeat' first | exact Ef.mk | apply Lf.mk | refine fun (K : KT) hK hE hT => ?_ | refine fun (KS : KE) hKS => ?_ | refine fun (D : KD) hD => ?_ | refine fun (hg : (_ : Prop)) => ?_ | fail); all_goals (first | (refine Wr.mk ?_; (try clear gx); repeat first | clear hK hE hT K | clear hR hE hT K) | assumption | skip))
    all_goals (refine post_a hres (.inl rfl) ?_; simp only [RSB, ENB, seval, tiAll, true_and]; simp only [MAB, seval]; refine ⟨rfl, rfl, ?_, ?_, ?_⟩ <;> (first | rfl | (simp [WKB, Nat.add_comm, true_and]; done) | (simp only [WKB, seval])))
  case pos =>
    have e : nameO s = s.all okC := by unfold nameO; rw [decide_eq_true h0.1, decide_eq_true h0.2]; rfl
    rw [e]
    refine fnOK_of true mixed Try.func88 rfl (by rfl) (by rfl) ?_
    have hres := congrArg Array.toList Try.results88
    simp only [Try.ntmps88, BGB, seval]
    (have gx := @txt_len; refine go ?_; (repeat' first | exact Ef.mk | apply Lf.mk | refine fun (K : KT) hK hE hT => ?_ | refine fun (KS : KE) hKS => ?_ | refine fun (D : KD) hD => ?_ | refine fun (hg : (_ : Prop)) => ?_ | fail); all_goals (first | (refine Wr.mk ?_; (try clear gx); repeat first | clear hK hE hT K | clear hR hE hT K) | assumption | skip))
    refine loop_v (X := {k : Nat // k ≤ s.length ∧ Rnd (∀ i, i < k → okC (s.getD i 0) = true)}) [] (fun x => [(3, .c (.v (.int .i64 ((x.1 : Nat) : Int))))]) (fun x => []) 0 (fun x => s.length - x.1) ⟨0, by omega, ⟨fun i hi => by omega⟩⟩ ?_
    simp only [KPB, seval]
    refine ⟨?_, ?_⟩
    · (refine wk_a ?_; simp only [MAB, seval]; refine ⟨rfl, rfl, (by decide), ?_, ?_⟩; all_goals (first | (simp only [WKB, seval, true_and]; done) | (simp [WKB, seval, true_and]; done) | simp only [WKB, seval]))
    · rintro ⟨k, hk, hi⟩ K hR hE hT
      rcases Nat.lt_or_ge k s.length with hlt | hge
      case inr =>
        obtain rfl : k = s.length := by omega
        have e2 := all_yes hi.out
        (have gx := @txt_len; refine go ?_; (repeat' first | exact Ef.mk | apply Lf.mk | refine fun (K : KT) hK hE hT => ?_ | refine fun (KS : KE) hKS => ?_ | refine fun (D : KD) hD => ?_ | refine fun (hg : (_ : Prop)) => ?_ | fail); all_goals (first | (refine Wr.mk ?_; (try clear gx); repeat first | clear hK hE hT K | clear hR hE hT K) | assumption | skip))
        (refine post_a hres (.inl rfl) ?_; simp only [RSB, ENB, seval, tiAll, e2]; simp only [MAB, seval]; refine ⟨rfl, rfl, ?_, ?_, ?_⟩ <;> (first | rfl | (simp [WKB, Nat.add_comm, e2]; done) | (simp only [WKB, seval])))
      case inl =>
        obtain ⟨c, hc⟩ : ∃ c, c = s[k] := ⟨_, rfl⟩
        have hgc : s.getD k 0 = c := by rw [List.getD_eq_getElem?_getD, List.getElem?_eq_getElem hlt, Option.getD_some, hc]
        have hcl : c.toNat < 256 := c.toNat_lt
        (have gx := And.intro (@txt_len) (And.intro (@txt_data) (And.intro @hgc @Int.toNat_natCast)); refine go ?_; (repeat' first | exact Ef.mk | apply Lf.mk | refine fun (K : KT) hK hE hT => ?_ | refine fun (KS : KE) hKS => ?_ | refine fun (D : KD) hD => ?_ | refine fun (hg : (_ : Prop)) => ?_ | fail); all_goals (first | (refine Wr.mk ?_; (try clear gx); repeat first | clear hK hE hT K | clear hR hE hT K) | assumption | skip))
        all_goals first
          | (have e2 : s.all okC = false := all_no hlt (by rw [← hc, okC_no]; omega)
             (refine post_a hres (.inl rfl) ?_; simp only [RSB, ENB, seval, tiAll, e2]; simp only [MAB, seval]; refine ⟨rfl, rfl, ?_, ?_, ?_⟩ <;> (first | rfl | (simp [WKB, Nat.add_comm, e2]; done) | (simp only [WKB, seval]))))
          | (refine hR.out ⟨k + 1, by omega, ⟨fun i h => ?_⟩⟩ _ _ _ (by simp only; omega) ?_
             · by_cases hik : i = k
               · subst hik
                 rw [hgc, okC_yes]; omega
               · exact hi.out i (by omega)
             · (refine wk_a ?_; simp only [MAB, seval]; refine ⟨rfl, rfl, (by decide), ?_, ?_⟩; all_goals (first | (simp only [WKB, seval, true_and]; done) | (simp [WKB, seval, true_and]; done) | simp only [WKB, seval])))

set_option maxHeartbeats 4000000 in
theorem specNameOk_k (s : List UInt8) (hs : s.length ≤ 1048576) : FnOK Try.prog 106 ⟨0, [], [.c (.v (.string (txt s)))], .c (.v (.bool (nameO s))), [], 0⟩ := by
  refine fnOK_of true mixed Try.func106 rfl (by rfl) (by rfl) ?_
  have hres := congrArg Array.toList Try.results106
  simp only [Try.ntmps106, BGB, seval]
  (have gx := @txt_len; refine go ?_; (repeat' first | exact Ef.mk | apply Lf.mk | refine fun (K : KT) hK hE hT => ?_ | refine fun (KS : KE) hKS => ?_ | refine fun (D : KD) hD => ?_ | refine fun (hg : (_ : Prop)) => ?_ | fail); all_goals (first | (refine Wr.mk ?_; (try clear gx); repeat first | clear hK hE hT K | clear hR hE hT K) | assumption | skip))
  refine loop_v (X := {k : Nat // k ≤ s.length ∧ Rnd (∀ i, i < k → okC (s.getD i 0) = true)}) [] (fun x => [(3, .c (.v (.int .i64 ((x.1 : Nat) : Int))))]) (fun x => []) 0 (fun x => s.length - x.1) ⟨0, by omega, ⟨fun i hi => by omega⟩⟩ ?_
  simp only [KPB, seval]
  refine ⟨?_, ?_⟩
  · (refine wk_a ?_; simp only [MAB, seval]; refine ⟨rfl, rfl, (by decide), ?_, ?_⟩; all_goals (first | (simp only [WKB, seval, true_and]; done) | (simp [WKB, seval, true_and]; done) | simp only [WKB, seval]))
  · rintro ⟨k, hk, hi⟩ K hR hE hT
    rcases Nat.lt_or_ge k s.length with hlt | hge
    case inr =>
      obtain rfl : k = s.length := by omega
      have e2 := all_yes hi.out
      have e : nameO s = (decide (1 ≤ s.length) && decide (s.length ≤ 12)) := by unfold nameO; rw [e2, Bool.and_true]
      (have gx := @txt_len; refine go ?_; (repeat' first | exact Ef.mk | apply Lf.mk | refine fun (K : KT) hK hE hT => ?_ | refine fun (KS : KE) hKS => ?_ | refine fun (D : KD) hD => ?_ | refine fun (hg : (_ : Prop)) => ?_ | fail); all_goals (first | (refine Wr.mk ?_; (try clear gx); repeat first | clear hK hE hT K | clear hR hE hT K) | assumption | skip))
      all_goals (refine post_a hres (.inl rfl) ?_; simp only [RSB, ENB, seval, tiAll, true_and]; simp only [MAB, seval]; refine ⟨rfl, rfl, ?_, ?_, ?_⟩ <;> (first | rfl | (simp [WKB, Nat.add_comm, true_and]; done) | (simp only [WKB, seval])))
      all_goals (refine congrArg (fun b => SV.c (CV.v (Value.bool b))) ?_; symm; rw [e]; first | (rw [Bool.and_eq_false_iff, decide_eq_false_iff_not, decide_eq_false_iff_not]; omega) | (rw [Bool.and_eq_true, decide_eq_true_eq, decide_eq_true_eq]; omega) | (rw [Bool.eq_iff_iff]; simp only [Bool.and_eq_true, decide_eq_true_eq]; omega))
    case inl =>
      obtain ⟨c, hc⟩ : ∃ c, c = s[k] := ⟨_, rfl⟩
      have hgc : s.getD k 0 = c := by rw [List.getD_eq_getElem?_getD, List.getElem?_eq_getElem hlt, Option.getD_some, hc]
      have hcl : c.toNat < 256 := c.toNat_lt
      (have gx := And.intro (@txt_len) (And.intro (@txt_data) (And.intro @hgc @Int.toNat_natCast)); refine go ?_; (repeat' first | exact Ef.mk | apply Lf.mk | refine fun (K : KT) hK hE hT => ?_ | refine fun (KS : KE) hKS => ?_ | refine fun (D : KD) hD => ?_ | refine fun (hg : (_ : Prop)) => ?_ | fail); all_goals (first | (refine Wr.mk ?_; (try clear gx); repeat first | clear hK hE hT K | clear hR hE hT K) | assumption | skip))
      all_goals first
        | (have e2 : s.all okC = false := all_no hlt (by rw [← hc, okC_no]; omega)
           have e : nameO s = false := by unfold nameO; rw [e2, Bool.and_false]
           (refine post_a hres (.inl rfl) ?_; simp only [RSB, ENB, seval, tiAll, e]; simp only [MAB, seval]; refine ⟨rfl, rfl, ?_, ?_, ?_⟩ <;> (first | rfl | (simp [WKB, Nat.add_comm, e]; done) | (simp only [WKB, seval]))))
        | (refine hR.out ⟨k + 1, by omega, ⟨fun i h => ?_⟩⟩ _ _ _ (by simp only; omega) ?_
           · by_cases hik : i = k
             · subst hik
               rw [hgc, okC_yes]; omega
             · exact hi.out i (by omega)
           · (refine wk_a ?_; simp only [MAB, seval]; refine ⟨rfl, rfl, (by decide), ?_, ?_⟩; all_goals (first | (simp only [WKB, seval, true_and]; done) | (simp [WKB, seval, true_and]; done) | simp only [WKB, seval])))

theorem opO_c {o : FsOpD} (h : o.Kind = 1 ∨ o.Kind = 4) : opO o = (nameO o.Name && (decide (o.To = []) && decide (o.Data.length = 0))) := by unfold opO; rw [if_pos h]
theorem opO_a {o : FsOpD} (h : o.Kind = 2) : opO o = (nameO o.Name && (decide (o.To = []) && decide (1 ≤ o.Data.length) && decide (o.Data.length ≤ 200000))) := by unfold opO; rw [if_neg (by omega), if_pos h]
theorem opO_r {o : FsOpD} (h : o.Kind = 3) : opO o = (nameO o.Name && (nameO o.To && decide (o.Data.length = 0))) := by unfold opO; rw [if_neg (by omega), if_neg (by omega), if_pos h]
theorem opO_n {o : FsOpD} (h : o.Kind ≠ 1 ∧ o.Kind ≠ 2 ∧ o.Kind ≠ 3 ∧ o.Kind ≠ 4) : opO o = false := by unfold opO; rw [if_neg (by omega), if_neg (by omega), if_neg (by omega), Bool.and_false]

set_option maxHeartbeats 8000000 in
theorem implFsOpOk_k (o : FsOpD) (hn : o.Name.length ≤ 1048576) (ht : o.To.length ≤ 1048576) (hd : o.Data.length ≤ 1048576) : FnOK Try.prog 82 ⟨1, [(0, some (.ro ((o.Data).map bytK)))], [.agg [.v (.int .i64 o.Kind), .v (.string (txt o.Name)), .v (.string (txt o.To)), .sl 0 1 0 (o.Data).length]], .c (.v (.bool (opO o))), [], 1⟩ := by
  have c1 := implNameOk_k o.Name hn
  have c2 := implNameOk_k o.To ht
  have c0 : ({ data := #[] } : ByteArray) = txt [] := rfl
  obtain ⟨t1, ht1⟩ : ∃ t1, t1 = nameO o.Name := ⟨_, rfl⟩
  obtain ⟨t2, ht2⟩ : ∃ t2, t2 = nameO o.To := ⟨_, rfl⟩
  rw [← ht1] at c1
  rw [← ht2] at c2
  refine fnOK_of true mixed Try.func82 rfl (by rfl) (by rfl) ?_
  have hres := congrArg Array.toList Try.results82
  simp only [Try.ntmps82, BGB, seval]
  (have gx := And.intro @c0 @txt_list; have q1 := c1; have q2 := c2; refine go ?_; (repeat' first | exact Ef.mk | apply Lf.mk | refine fun (K : KT) hK hE hT => ?_ | refine fun (KS : KE) hKS => ?_ | refine fun (D : KD) hD => ?_ | refine fun (hg : (_ : Prop)) => ?_ | fail); all_goals (first | (refine Wr.mk ?_; (try clear gx q1 q2); repeat first | clear hK hE hT K | clear hR hE hT K) | assumption | skip))
  all_goals (refine post_a hres (.inl rfl) ?_; simp only [RSB, ENB, seval, tiAll, true_and]; simp only [MAB, seval]; refine ⟨rfl, rfl, ?_, ?_, ?_⟩ <;> (first | rfl | (simp [WKB, Nat.add_comm, true_and]; done) | (simp only [WKB, seval])))
  all_goals (refine congrArg (fun b => SV.c (CV.v (Value.bool b))) ?_; symm; unfold opO; rw [← ht1, ← ht2, Bool.eq_iff_iff]; simp_all [-List.length_eq_zero_iff] <;> omega)

set_option maxHeartbeats 8000000 in
theorem specFsOpOk_k (o : FsOpD) (hn : o.Name.length ≤ 1048576) (ht : o.To.length ≤ 1048576) (hd : o.Data.length ≤ 1048576) : FnOK Try.prog 85 ⟨1, [(0, some (.ro ((o.Data).map bytK)))], [.agg [.v (.int .i64 o.Kind), .v (.string (txt o.Name)), .v (.string (txt o.To)), .sl 0 1 0 (o.Data).length]], .c (.v (.bool (opO o))), [], 1⟩ := by
  have c1 := specNameOk_k o.Name hn
  have c2 := specNameOk_k o.To ht
  have c0 : ({ data := #[] } : ByteArray) = txt [] := rfl
  obtain ⟨t1, ht1⟩ : ∃ t1, t1 = nameO o.Name := ⟨_, rfl⟩
  obtain ⟨t2, ht2⟩ : ∃ t2, t2 = nameO o.To := ⟨_, rfl⟩
  rw [← ht1] at c1
  rw [← ht2] at c2
  refine fnOK_of true mixed Try.func85 rfl (by rfl) (by rfl) ?_
  have hres := congrArg Array.toList Try.results85
  simp only [Try.ntmps85, BGB, seval]
  (have gx := And.intro @c0 @txt_list; have q1 := c1; have q2 := c2; refine go ?_; (repeat' first | exact Ef.mk | apply Lf.mk | refine fun (K : KT) hK hE hT => ?_ | refine fun (KS : KE) hKS => ?_ | refine fun (D : KD) hD => ?_ | refine fun (hg : (_ : Prop)) => ?_ | fail); all_goals (first | (refine Wr.mk ?_; (try clear gx q1 q2); repeat first | clear hK hE hT K | clear hR hE hT K) | assumption | skip))
  all_goals (refine post_a hres (.inl rfl) ?_; simp only [RSB, ENB, seval, tiAll, true_and]; simp only [MAB, seval]; refine ⟨rfl, rfl, ?_, ?_, ?_⟩ <;> (first | rfl | (simp [WKB, Nat.add_comm, true_and]; done) | (simp only [WKB, seval])))
  all_goals (refine congrArg (fun b => SV.c (CV.v (Value.bool b))) ?_; symm; first | exact opO_n (by omega) | (unfold opO; rw [← ht1, ← ht2, Bool.eq_iff_iff]; simp_all [-List.length_eq_zero_iff] <;> omega))

end Go.Proofs.Ytfnhchcgieeedaa
