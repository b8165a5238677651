/-
  Contracts of the law's helpers for files. No conditions of its own.
-/
import Derived.Test.YtfnhchcgieeedaaGO
import Derived.Test.YtfnhchcgieeedaaDK1
import Derived.Test.YtfnhchcgieeedaaMG
namespace Go.Proofs.Ytfnhchcgieeedaa
set_option linter.unusedSimpArgs false
set_option linter.unusedVariables false
set_option linter.unusedSimpArgs false
set_option linter.unusedVariables false
set_option linter.defProp false
set_option maxRecDepth 20000
open Go.RowKit

theorem txt_list (l : List UInt8) : (txt l).toList = l := by rw [ByteArray.toList_eq]; simp [txt]
theorem txt_len (l : List UInt8) : (txt l).size = l.length := by simp [txt, ByteArray.size]
theorem txt_cat (a b : List UInt8) : txt a ++ txt b = txt (a ++ b) := by
  apply ByteArray.ext
  simp [txt]
theorem txt_inj {a b : List UInt8} (h : txt a = txt b) : a = b := by
  have := congrArg ByteArray.toList h
  rwa [txt_list, txt_list] at this

instance : DecidableEq FileD := fun a b => if h : a.Name = b.Name ∧ a.Data = b.Data then .isTrue (by cases a; cases b; obtain ⟨rfl, rfl⟩ := h; rfl) else .isFalse fun e => h (by rw [e]; exact ⟨rfl, rfl⟩)

/-- A file's cells; T: the type of its bytes. -/
def FileD.k (T : Nat) (x : FileD) : List DC := [.v (.string (txt x.Name)), .sl T 1 (x.Data.map bytK)]

/-- The digits of a number ahead of others. -/
def dgs (n : Nat) (acc : List UInt8) : List UInt8 := if h : n = 0 then acc else dgs (n / 10) (UInt8.ofNat (48 + n % 10) :: acc)
termination_by n
decreasing_by omega
/-- The text that marks the number k. -/
def mtx (k : Nat) : List UInt8 := if k = 0 then [109, 48] else 109 :: dgs k []
theorem dgs_zero (acc : List UInt8) : dgs 0 acc = acc := by rw [dgs]; rfl
theorem dgs_pos {n : Nat} (h : 0 < n) (acc : List UInt8) : dgs n acc = dgs (n / 10) (UInt8.ofNat (48 + n % 10) :: acc) := by rw [dgs, dif_neg (by omega)]
theorem mrk_byte (n : Nat) : IntKind.u8.wrap (48 + (n : Int) % 10) = ((UInt8.ofNat (48 + n % 10)).toNat : Int) := by
  rw [IntWalk.u8_in _ ⟨by omega, by omega⟩, UInt8.toNat_ofNat']
  omega

set_option maxHeartbeats 4000000 in
theorem markText_k (k : Nat) (h : k ≤ 1099511627) : FnOK Try.prog 65 ⟨0, [], [.c (.v (.int .i64 (k : Int)))], .c (.v (.string (txt (mtx k)))), [], 0⟩ := by
  have c0 : ({ data := #[] } : ByteArray) = txt [] := rfl
  have cm : ({ data := #[109] } : ByteArray) = txt [109] := rfl
  have cz : ({ data := #[109, 48] } : ByteArray) = txt [109, 48] := rfl
  rcases Nat.eq_zero_or_pos k with h0 | h0
  · subst h0
    refine fnOK_of true mixed Try.func65 rfl (by rfl) (by rfl) ?_
    have hres := congrArg Array.toList Try.results65
    simp only [Try.ntmps65, BGB, seval]
    (have gx := And.intro @c0 @cz; refine go ?_; (repeat' first | exact Ef.mk | apply Lf.mk | refine fun (K : KT) hK hE hT => ?_ | refine fun (KS : KE) hKS => ?_ | refine fun (D : KD) hD => ?_ | refine fun (hg : (_ : Prop)) => ?_ | fail); all_goals (first | (refine Wr.mk ?_; (try clear gx); repeat first | clear hK hE hT K | clear hR hE hT K) | assumption | skip))
    (refine post_a hres (.inl rfl) ?_; simp only [RSB, ENB, seval, tiAll, mtx, cz, if_true]; simp only [MAB, seval]; refine ⟨rfl, rfl, ?_, ?_, ?_⟩ <;> (first | rfl | (simp [WKB, Nat.add_comm, mtx, cz, if_true]; done) | (simp only [WKB, seval])))
  · skip
    refine fnOK_of true mixed Try.func65 rfl (by rfl) (by rfl) ?_
    have hres := congrArg Array.toList Try.results65
    simp only [Try.ntmps65, BGB, seval]
    (have gx := @c0; refine go ?_; (repeat' first | exact Ef.mk | apply Lf.mk | refine fun (K : KT) hK hE hT => ?_ | refine fun (KS : KE) hKS => ?_ | refine fun (D : KD) hD => ?_ | refine fun (hg : (_ : Prop)) => ?_ | fail); all_goals (first | (refine Wr.mk ?_; (try clear gx); repeat first | clear hK hE hT K | clear hR hE hT K) | assumption | skip))
    refine loop_v (X := {p : Nat × List UInt8 // p.1 + p.2.length ≤ k ∧ Rnd (dgs p.1 p.2 = dgs k [])}) [] (fun x => [(0, .c (.v (.int .i64 ((x.1.1 : Nat) : Int)))), (3, .c (.v (.string (txt x.1.2))))]) (fun x => []) 0 (fun x => x.1.1) ⟨(k, []), by simp, ⟨rfl⟩⟩ ?_
    simp only [KPB, seval]
    refine ⟨?_, ?_⟩
    · (refine wk_a ?_; simp only [MAB, seval]; refine ⟨rfl, rfl, (by decide), ?_, ?_⟩; all_goals (first | (simp only [WKB, seval, c0]; done) | (simp [WKB, seval, c0]; done) | simp only [WKB, seval]))
    · rintro ⟨⟨n, l⟩, hn, hd⟩ K hR hE hT
      dsimp only at hn hd
      rcases Nat.eq_zero_or_pos n with hz | hz
      · subst hz
        have e : mtx k = 109 :: l := by unfold mtx; rw [if_neg (by omega), ← hd.out, dgs_zero]
        have ec : ∀ l : List UInt8, [109] ++ l = 109 :: l := fun l => rfl
        (have gx := And.intro (@cm) (And.intro (@txt_cat) (And.intro @txt_len @ec)); refine go ?_; (repeat' first | exact Ef.mk | apply Lf.mk | refine fun (K : KT) hK hE hT => ?_ | refine fun (KS : KE) hKS => ?_ | refine fun (D : KD) hD => ?_ | refine fun (hg : (_ : Prop)) => ?_ | fail); all_goals (first | (refine Wr.mk ?_; (try clear gx); repeat first | clear hK hE hT K | clear hR hE hT K) | assumption | skip))
        (refine post_a hres (.inl rfl) ?_; simp only [RSB, ENB, seval, tiAll, e]; simp only [MAB, seval]; refine ⟨rfl, rfl, ?_, ?_, ?_⟩ <;> (first | rfl | (simp [WKB, Nat.add_comm, e]; done) | (simp only [WKB, seval])))
      · have hb := mrk_byte n
        have ec : ∀ l : List UInt8, [UInt8.ofNat (48 + n % 10)] ++ l = UInt8.ofNat (48 + n % 10) :: l := fun l => rfl
        have e1 : ([UInt8.ofNat (48 + n % 10)]).length = 1 := rfl
        (have gx := And.intro (@List.length_map.{0,0}) (And.intro (@List.getElem_map.{0,0}) (And.intro (@bytK.eq_1) (And.intro (@hb) (And.intro @txt_cat @txt_len)))); refine go ?_; (repeat' first | exact Ef.mk | apply Lf.mk | refine fun (K : KT) hK hE hT => ?_ | refine fun (KS : KE) hKS => ?_ | refine fun (D : KD) hD => ?_ | refine fun (hg : (_ : Prop)) => ?_ | fail); all_goals (first | (refine Wr.mk ?_; (try clear gx); repeat first | clear hK hE hT K | clear hR hE hT K) | assumption | skip))
        refine ⟨[UInt8.ofNat (48 + n % 10)], by simp [rowB, hb, bytK], rfl, ?_⟩
        refine hKS _ _ _ _ ?_
        clear hKS; clear KS; simp only [EVB, seval]
        (have gx := And.intro (@List.length_map.{0,0}) (And.intro (@List.getElem_map.{0,0}) (And.intro (@bytK.eq_1) (And.intro (@hb) (And.intro (@txt_cat) (And.intro (@txt_len) (And.intro @ec @e1)))))); refine go ?_; (repeat' first | exact Ef.mk | apply Lf.mk | refine fun (K : KT) hK hE hT => ?_ | refine fun (KS : KE) hKS => ?_ | refine fun (D : KD) hD => ?_ | refine fun (hg : (_ : Prop)) => ?_ | fail); all_goals (first | (refine Wr.mk ?_; (try clear gx); repeat first | clear hK hE hT K | clear hR hE hT K) | assumption | skip))
        have e2 : (n : Int) / 10 = ((n / 10 : Nat) : Int) := by omega
        (refine hR.out ⟨(n / 10, UInt8.ofNat (48 + n % 10) :: l), by simp only [List.length_cons]; omega, ⟨by rw [← dgs_pos hz]; exact hd.out⟩⟩ _ _ _ (by simp only; omega) ?_; (refine wk_a ?_; simp only [MAB, seval]; refine ⟨rfl, rfl, (by decide), ?_, ?_⟩; all_goals (first | (simp only [WKB, seval, e2]; done) | (simp [WKB, seval, e2]; done) | simp only [WKB, seval])))

end Go.Proofs.Ytfnhchcgieeedaa
