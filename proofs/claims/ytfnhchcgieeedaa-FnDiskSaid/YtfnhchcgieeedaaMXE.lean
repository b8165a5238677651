/-
  The engine, texts DD4 DD5 DD6 DD7 DD8 LV39 in one. No conditions of its own.
-/
import Derived.Test.YtfnhchcgieeedaaGO
import Derived.Test.YtfnhchcgieeedaaD1
import Derived.Test.YtfnhchcgieeedaaMXD
import Derived.Test.YtfnhchcgieeedaaMXC
namespace Go.Proofs.Ytfnhchcgieeedaa
set_option linter.unusedSimpArgs false
set_option linter.unusedVariables false
set_option linter.unusedSimpArgs false
set_option linter.unusedVariables false
set_option linter.defProp false
set_option maxRecDepth 20000
open Go.RowKit

def stK (s : List UInt8) : List DC := [.v (.string (txt s))]
theorem flat_st {l : List (List UInt8)} : ∀ e ∈ l.map stK, ∀ c ∈ e, DC.flat c := fun e he c hc => by
  obtain ⟨s, _, rfl⟩ := List.mem_map.1 he
  simp only [stK, List.mem_singleton] at hc
  subst hc
  exact ⟨_, rfl, rfl⟩

set_option maxHeartbeats 2000000 in
theorem l01Of_k (b : List UInt8) (c : Cu) (l : List (List UInt8)) (k : Nat) (hb : b.length ≤ 1048576) (hc : c.i ≤ 1048576) (h1 : l.length ≤ 256) (hk : k < l.length) (e : bwV b c l.length = (k : Int)) : FnOK Try.prog 134 ⟨3, [(0, some (.ro (b.map bytK))), (1, some (.box 110 [.sl 0 1 0 b.length, .v (.int .i64 (c.i : Int)), .v (.int .i64 c.h)])), (2, some (.ro (l.map stK)))], [.c (.ptr 1 0 0), .c (.sl 2 1 0 l.length)], .c (.v (.string (txt l[k]))), [(1, some (.box 110 [.sl 0 1 0 b.length, .v (.int .i64 ((bwC b c l.length).i : Int)), .v (.int .i64 (bwC b c l.length).h)]))], 3⟩ := by
  have kb := l01Below_k b c l.length hb hc (by omega)
  rw [e] at kb
  refine fnOK_of true mixed Try.func134 rfl (by rfl) (by rfl) ?_
  have hres := congrArg Array.toList Try.results134
  simp only [Try.ntmps134, BGB, seval]
  (have gx := And.intro (@List.length_map.{0,0}) (And.intro @List.getElem_map.{0,0} @stK.eq_1); have q1 := kb; refine go ?_; (repeat' first | exact Ef.mk | apply Lf.mk | refine fun (K : KT) hK hE hT => ?_ | refine fun (KS : KE) hKS => ?_ | refine fun (D : KD) hD => ?_ | refine fun (hg : (_ : Prop)) => ?_ | fail); all_goals (first | (refine Wr.mk ?_; (try clear gx q1); repeat first | clear hK hE hT K | clear hR hE hT K) | assumption | skip))
  (refine post_a hres (.inl rfl) ?_; simp only [RSB, ENB, seval, tiAll, true_and]; simp only [MAB, seval]; refine ⟨rfl, rfl, ?_, ?_, ?_⟩ <;> (first | rfl | (simp [WKB, Nat.add_comm, true_and]; done) | (simp only [WKB, seval])))

def nms : List (List UInt8) := [[108, 111, 103], [108, 111, 103, 46, 110, 101, 119], [103, 46, 49], [118, 46, 49], [118, 46, 50], [97]]
def nmV (b : List UInt8) (c : Cu) : List UInt8 := nms.getD (bwV b c 6).toNat []
theorem nm_ok (b : List UInt8) (c : Cu) : nameO (nmV b c) = true := by
  have h := bwV_rng b c (n := 6) (by decide)
  unfold nmV
  obtain ⟨k, hk⟩ := Int.eq_ofNat_of_zero_le h.1
  rw [hk]
  have : k < 6 := by omega
  rcases (by omega : k = 0 ∨ k = 1 ∨ k = 2 ∨ k = 3 ∨ k = 4 ∨ k = 5) with rfl | rfl | rfl | rfl | rfl | rfl <;> decide

set_option maxHeartbeats 2000000 in
theorem l02Name_k (b : List UInt8) (c : Cu) (hb : b.length ≤ 1048576) (hc : c.i ≤ 1048576) : FnOK Try.prog 119 ⟨2, [(0, some (.ro (b.map bytK))), (1, some (.box 110 [.sl 0 1 0 b.length, .v (.int .i64 (c.i : Int)), .v (.int .i64 c.h)]))], [.c (.ptr 1 0 0)], .c (.v (.string (txt (nmV b c)))), [(1, some (.box 110 [.sl 0 1 0 b.length, .v (.int .i64 ((bwC b c 6).i : Int)), .v (.int .i64 (bwC b c 6).h)]))], 2⟩ := by
  have h := bwV_rng b c (n := 6) (by decide)
  obtain ⟨k, hk⟩ := Int.eq_ofNat_of_zero_le h.1
  have hk6 : k < nms.length := by show k < 6; omega
  have ko := l01Of_k b c nms k hb hc (by decide) hk6 hk
  have e : nmV b c = nms[k] := by unfold nmV; rw [hk]; simp [List.getD, hk6]
  rw [e]
  have lc : ((nms.length : Nat) : Int) = 6 := rfl
  have ln : nms.length = 6 := rfl
  have en : nms.map stK = [[.v (.string (txt [108, 111, 103]))], [.v (.string (txt [108, 111, 103, 46, 110, 101, 119]))], [.v (.string (txt [103, 46, 49]))], [.v (.string (txt [118, 46, 49]))], [.v (.string (txt [118, 46, 50]))], [.v (.string (txt [97]))]] := rfl
  obtain ⟨s, hs⟩ : ∃ s, s = nms[k] := ⟨_, rfl⟩
  rw [← hs] at ko ⊢
  rw [lc, ln, en] at ko
  have c1 : ({ data := #[108, 111, 103] } : ByteArray) = txt [108, 111, 103] := rfl
  have c2 : ({ data := #[108, 111, 103, 46, 110, 101, 119] } : ByteArray) = txt [108, 111, 103, 46, 110, 101, 119] := rfl
  have c3 : ({ data := #[103, 46, 49] } : ByteArray) = txt [103, 46, 49] := rfl
  have c4 : ({ data := #[118, 46, 49] } : ByteArray) = txt [118, 46, 49] := rfl
  have c5 : ({ data := #[118, 46, 50] } : ByteArray) = txt [118, 46, 50] := rfl
  have c6 : ({ data := #[97] } : ByteArray) = txt [97] := rfl
  refine fnOK_of true mixed Try.func119 rfl (by rfl) (by rfl) ?_
  have hres := congrArg Array.toList Try.results119
  simp only [Try.ntmps119, BGB, seval]
  (have gx := And.intro (@c1) (And.intro (@c2) (And.intro (@c3) (And.intro (@c4) (And.intro @c5 @c6)))); have q1 := ko; refine go ?_; (repeat' first | exact Ef.mk | apply Lf.mk | refine fun (K : KT) hK hE hT => ?_ | refine fun (KS : KE) hKS => ?_ | refine fun (D : KD) hD => ?_ | refine fun (hg : (_ : Prop)) => ?_ | fail); all_goals (first | (refine Wr.mk ?_; (try clear gx q1); repeat first | clear hK hE hT K | clear hR hE hT K) | assumption | skip))
  (refine post_a hres (.inl rfl) ?_; simp only [RSB, ENB, seval, tiAll, true_and]; simp only [MAB, seval]; refine ⟨rfl, rfl, ?_, ?_, ?_⟩ <;> (first | rfl | (simp [WKB, Nat.add_comm, true_and]; done) | (simp only [WKB, seval])))

/-- The cursor behind k bytes, and the bytes. -/
def bsC (b : List UInt8) (c : Cu) : Nat → Cu
  | 0 => c
  | k + 1 => byC b (bsC b c k)
def bsV (b : List UInt8) (c : Cu) : Nat → List UInt8
  | 0 => []
  | k + 1 => bsV b c k ++ [UInt8.ofNat (byV b (bsC b c k)).toNat]
theorem bsC_le {b : List UInt8} {c : Cu} (hb : b.length ≤ 1048576) (h : c.i ≤ 1048576) : ∀ k, (bsC b c k).i ≤ 1048576
  | 0 => h
  | k + 1 => byC_le hb (bsC_le hb h k)
theorem bsV_len (b : List UInt8) (c : Cu) : ∀ k, (bsV b c k).length = k
  | 0 => rfl
  | k + 1 => by simp [bsV, bsV_len b c k]
theorem byV_u8 (b : List UInt8) (c : Cu) : ((UInt8.ofNat (byV b c).toNat).toNat : Int) = byV b c := by
  have := byV_rng b c
  rw [UInt8.toNat_ofNat']
  omega

set_option maxHeartbeats 4000000 in
theorem l01Bytes_k (b : List UInt8) (c : Cu) (m : Int) (N : Nat) (hb : b.length ≤ 1048576) (hc : c.i ≤ 1048576) (hm : 0 ≤ m) (hm2 : m ≤ 200) (hN : bwV b c (m + 1) = (N : Int)) : FnOK Try.prog 121 ⟨2, [(0, some (.ro (b.map bytK))), (1, some (.box 110 [.sl 0 1 0 b.length, .v (.int .i64 (c.i : Int)), .v (.int .i64 c.h)]))], [.c (.ptr 1 0 0), .c (.v (.int .i64 m))], .c (.sl 2 1 0 N), [(1, some (.box 110 [.sl 0 1 0 b.length, .v (.int .i64 ((bsC b (bwC b c (m + 1)) N).i : Int)), .v (.int .i64 (bsC b (bwC b c (m + 1)) N).h)])), (2, some (.row 5 ((bsV b (bwC b c (m + 1)) N).map bytK)))], 3⟩ := by
  have kb := l01Below_k b c (m + 1) hb hc (by omega)
  have hr := bwV_rng b c (n := m + 1) (by omega)
  have hc1 := bwC_le hb hc (m + 1)
  rw [hN] at kb hr
  obtain ⟨c1, h1⟩ : ∃ c1, c1 = bwC b c (m + 1) := ⟨_, rfl⟩
  rw [← h1] at kb hc1 ⊢
  refine fnOK_of true mixed Try.func121 rfl (by rfl) (by rfl) ?_
  have hres := congrArg Array.toList Try.results121
  simp only [Try.ntmps121, BGB, seval]
  (have gx := @List.length_map.{0,0}; have q1 := kb; refine go ?_; (repeat' first | exact Ef.mk | apply Lf.mk | refine fun (K : KT) hK hE hT => ?_ | refine fun (KS : KE) hKS => ?_ | refine fun (D : KD) hD => ?_ | refine fun (hg : (_ : Prop)) => ?_ | fail); all_goals (first | (refine Wr.mk ?_; (try clear gx q1); repeat first | clear hK hE hT K | clear hR hE hT K) | assumption | skip))
  refine loop_v (X := {k : Nat // k ≤ N}) [12] (fun x => [(7, .c (.v (.int .i64 ((x.1 : Nat) : Int)))), (6, .c (.sl 2 1 0 x.1))]) (fun x => [(0, some (.ro (b.map bytK))), (1, some (.box 110 [.sl 0 1 0 b.length, .v (.int .i64 ((bsC b c1 x.1).i : Int)), .v (.int .i64 (bsC b c1 x.1).h)])), (2, some (.row 5 ((bsV b c1 x.1).map bytK)))]) 3 (fun x => N - x.1) ⟨0, by omega⟩ ?_
  simp only [KPB, seval]
  refine ⟨?_, ?_⟩
  · (refine wk_a ?_; simp only [MAB, seval]; refine ⟨rfl, rfl, (by decide), ?_, ?_⟩; all_goals (first | (simp only [WKB, seval, bsV, bsC]; done) | (simp [WKB, seval, bsV, bsC]; done) | simp only [WKB, seval]))
  · rintro ⟨k, hk⟩ K hR hE hT
    have hl := bsV_len b c1 k
    rcases Nat.lt_or_ge k N with hlt | hge
    case inr =>
      obtain rfl : k = N := by omega
      (have gx := @List.length_map.{0,0}; refine go ?_; (repeat' first | exact Ef.mk | apply Lf.mk | refine fun (K : KT) hK hE hT => ?_ | refine fun (KS : KE) hKS => ?_ | refine fun (D : KD) hD => ?_ | refine fun (hg : (_ : Prop)) => ?_ | fail); all_goals (first | (refine Wr.mk ?_; (try clear gx); repeat first | clear hK hE hT K | clear hR hE hT K) | assumption | skip))
      (refine post_a hres (.inl rfl) ?_; simp only [RSB, ENB, seval, tiAll, true_and]; simp only [MAB, seval]; refine ⟨rfl, rfl, ?_, ?_, ?_⟩ <;> (first | rfl | (simp [WKB, Nat.add_comm, true_and]; done) | (simp only [WKB, seval])))
    case inl =>
      have ky := l01Byte_k b (bsC b c1 k) hb (bsC_le hb hc1 k)
      have hy := byV_rng b (bsC b c1 k)
      have e8 : IntKind.u8.wrap (byV b (bsC b c1 k)) = byV b (bsC b c1 k) := IntWalk.u8_in _ ⟨hy.1, hy.2⟩
      have ev : (bsV b c1 (k + 1)).map bytK = (bsV b c1 k).map bytK ++ [[.v (.int .u8 (byV b (bsC b c1 k)))]] := by
        show (bsV b c1 k ++ [_]).map bytK = _
        rw [List.map_append]
        simp only [List.map_cons, List.map_nil, bytK, byV_u8]
      have ec : bsC b c1 (k + 1) = byC b (bsC b c1 k) := rfl
      (have gx := And.intro (@List.length_map.{0,0}) (And.intro @hl @e8); have q1 := ky; refine go ?_; (repeat' first | exact Ef.mk | apply Lf.mk | refine fun (K : KT) hK hE hT => ?_ | refine fun (KS : KE) hKS => ?_ | refine fun (D : KD) hD => ?_ | refine fun (hg : (_ : Prop)) => ?_ | fail); all_goals (first | (refine Wr.mk ?_; (try clear gx q1); repeat first | clear hK hE hT K | clear hR hE hT K) | assumption | skip))
      (refine hR.out ⟨k + 1, by omega⟩ _ _ _ (by simp only; omega) ?_; (refine wk_a ?_; simp only [MAB, seval]; refine ⟨rfl, rfl, (by decide), ?_, ?_⟩; all_goals (first | (simp only [WKB, seval, ev, ec]; done) | (simp [WKB, seval, ev, ec]; done) | simp only [WKB, seval])))

end Go.Proofs.Ytfnhchcgieeedaa

namespace Go.Proofs.Ytfnhchcgieeedaa
set_option linter.unusedSimpArgs false
set_option linter.unusedVariables false
set_option linter.defProp false
set_option maxRecDepth 20000
open Go.RowKit

def opKd (b : List UInt8) (c : Cu) : Int := if bwV b (bwC b (bwC b c 4) 6) 3 = 0 then 2 else 1 + bwV b c 4
def opC3 (b : List UInt8) (c : Cu) : Cu := bwC b (bwC b (bwC b c 4) 6) 3
def opN (b : List UInt8) (c : Cu) : Nat := (bwV b (opC3 b c) 8).toNat
def opV (b : List UInt8) (c : Cu) : FsOpD :=
  if opKd b c = 2 then ⟨2, nmV b (bwC b c 4), [], bsV b (bwC b (opC3 b c) 8) (opN b c) ++ [120]⟩
  else if opKd b c = 3 then ⟨3, nmV b (bwC b c 4), nmV b (opC3 b c), []⟩
  else ⟨opKd b c, nmV b (bwC b c 4), [], []⟩
def opC (b : List UInt8) (c : Cu) : Cu :=
  if opKd b c = 2 then bsC b (bwC b (opC3 b c) 8) (opN b c) else if opKd b c = 3 then bwC b (opC3 b c) 6 else opC3 b c
theorem opKd_rng (b : List UInt8) (c : Cu) : 1 ≤ opKd b c ∧ opKd b c ≤ 4 := by
  have := bwV_rng b c (n := 4) (by decide)
  unfold opKd
  split <;> omega
theorem opN_le (b : List UInt8) (c : Cu) : opN b c ≤ 7 ∧ bwV b (opC3 b c) 8 = (opN b c : Int) := by
  have := bwV_rng b (opC3 b c) (n := 8) (by decide)
  unfold opN
  omega
theorem opC3_le {b : List UInt8} {c : Cu} (hb : b.length ≤ 1048576) (h : c.i ≤ 1048576) : (opC3 b c).i ≤ 1048576 := bwC_le hb (bwC_le hb (bwC_le hb h _) _) _
theorem opC_le {b : List UInt8} {c : Cu} (hb : b.length ≤ 1048576) (h : c.i ≤ 1048576) : (opC b c).i ≤ 1048576 := by
  unfold opC
  split
  · exact bsC_le hb (bwC_le hb (opC3_le hb h) _) _
  · split
    · exact bwC_le hb (opC3_le hb h) _
    · exact opC3_le hb h
theorem opV_ok (b : List UInt8) (c : Cu) : opO (opV b c) = true := by
  have h1 := nm_ok b (bwC b c 4)
  have h2 := nm_ok b (opC3 b c)
  have h3 := opN_le b c
  have h4 := opKd_rng b c
  unfold opV
  split
  · rw [opO_a rfl]
    simp only [List.length_append, List.length_singleton, bsV_len, h1]
    simp; omega
  · split
    · rw [opO_r rfl]; simp [h1, h2]
    · rw [opO_c (by simp only; omega)]; simp [h1]
theorem name_len {s : List UInt8} (h : nameO s = true) : s.length ≤ 12 := by
  unfold nameO at h
  simp only [Bool.and_eq_true, decide_eq_true_eq] at h
  exact h.1.2
theorem opO_len {o : FsOpD} (h : opO o = true) : o.Name.length ≤ 12 ∧ o.To.length ≤ 12 ∧ o.Data.length ≤ 200000 := by
  refine ⟨?_, ?_, opO_data h⟩
  · have hk := opO_kind h
    rcases (by omega : o.Kind = 1 ∨ o.Kind = 2 ∨ o.Kind = 3 ∨ o.Kind = 4) with h1 | h1 | h1 | h1
    · rw [opO_c (.inl h1)] at h; simp only [Bool.and_eq_true] at h; exact name_len h.1
    · rw [opO_a h1] at h; simp only [Bool.and_eq_true] at h; exact name_len h.1
    · rw [opO_r h1] at h; simp only [Bool.and_eq_true] at h; exact name_len h.1
    · rw [opO_c (.inr h1)] at h; simp only [Bool.and_eq_true] at h; exact name_len h.1
  · have hk := opO_kind h
    rcases (by omega : o.Kind = 1 ∨ o.Kind = 2 ∨ o.Kind = 3 ∨ o.Kind = 4) with h1 | h1 | h1 | h1
    · rw [opO_c (.inl h1)] at h; simp only [Bool.and_eq_true, decide_eq_true_eq] at h; rw [h.2.1]; simp
    · rw [opO_a h1] at h; simp only [Bool.and_eq_true, decide_eq_true_eq] at h; rw [h.2.1.1]; simp
    · rw [opO_r h1] at h; simp only [Bool.and_eq_true] at h; exact name_len h.2.1
    · rw [opO_c (.inr h1)] at h; simp only [Bool.and_eq_true, decide_eq_true_eq] at h; rw [h.2.1]; simp
/-- A valid disk is small. -/
theorem diskP_sz {d : DiskD} (h : diskP d) : szD d := by
  obtain ⟨h1, h2, h3, h4⟩ := h
  unfold hdD at h1
  have hb := h4.1
  refine ⟨by omega, by omega, fun f hf => ?_, fun o ho => ?_⟩
  · have q1 := name_len (h2 f hf)
    have q2 := byF_ge hf
    omega
  · obtain ⟨j, hj, rfl⟩ := List.mem_iff_getElem.1 ho
    have := opO_len (h4.2 j hj hj).1
    omega

set_option maxHeartbeats 8000000 in
theorem l02Op_k (b : List UInt8) (c : Cu) (hb : b.length ≤ 1048576) (hc : c.i ≤ 1048576) : FnOK Try.prog 81 ⟨2, [(0, some (.ro (b.map bytK))), (1, some (.box 110 [.sl 0 1 0 b.length, .v (.int .i64 (c.i : Int)), .v (.int .i64 c.h)]))], [.c (.ptr 1 0 0)], .agg [.v (.int .i64 (opV b c).Kind), .v (.string (txt (opV b c).Name)), .v (.string (txt (opV b c).To)), .sl 2 1 0 ((opV b c).Data).length], [(1, some (.box 110 [.sl 0 1 0 b.length, .v (.int .i64 ((opC b c).i : Int)), .v (.int .i64 (opC b c).h)])), (2, some (.row 5 ((opV b c).Data.map bytK)))], 3⟩ := by
  have c0 : ({ data := #[] } : ByteArray) = txt [] := rfl
  have hc1 := bwC_le hb hc 4
  have hc2 := bwC_le hb hc1 6
  have hc3 := opC3_le hb hc
  have k1 := l01Below_k b c 4 hb hc (by decide)
  have r1 := bwV_rng b c (n := 4) (by decide)
  have k2 := l02Name_k b (bwC b c 4) hb hc1
  have k3 := l01Below_k b (bwC b (bwC b c 4) 6) 3 hb hc2 (by decide)
  have r3 := bwV_rng b (bwC b (bwC b c 4) 6) (n := 3) (by decide)
  obtain ⟨n1, n2⟩ := opN_le b c
  have k4 := l01Bytes_k b (opC3 b c) 7 (opN b c) hb hc3 (by decide) (by decide) n2
  have l4 := bsV_len b (bwC b (opC3 b c) 8) (opN b c)
  have k5 := l02Name_k b (opC3 b c) hb hc3
  have ek : opKd b c = if bwV b (bwC b (bwC b c 4) 6) 3 = 0 then 2 else 1 + bwV b c 4 := rfl
  have e3 : bwC b (bwC b (bwC b c 4) 6) 3 = opC3 b c := rfl
  have ev : opV b c = if opKd b c = 2 then ⟨2, nmV b (bwC b c 4), [], bsV b (bwC b (opC3 b c) 8) (opN b c) ++ [120]⟩ else if opKd b c = 3 then ⟨3, nmV b (bwC b c 4), nmV b (opC3 b c), []⟩ else ⟨opKd b c, nmV b (bwC b c 4), [], []⟩ := rfl
  have ec : opC b c = if opKd b c = 2 then bsC b (bwC b (opC3 b c) 8) (opN b c) else if opKd b c = 3 then bwC b (opC3 b c) 6 else opC3 b c := rfl
  rw [e3] at k3
  have e78 : (7 : Int) + 1 = 8 := by decide
  rw [e78] at k4
  obtain ⟨D, hD⟩ : ∃ D, D = bsV b (bwC b (opC3 b c) 8) (opN b c) := ⟨_, rfl⟩
  rw [← hD] at k4 l4 ev
  obtain ⟨C4, hC4⟩ : ∃ C4, C4 = bsC b (bwC b (opC3 b c) 8) (opN b c) := ⟨_, rfl⟩
  rw [← hC4] at k4 ec
  obtain ⟨N, hN⟩ : ∃ N, N = opN b c := ⟨_, rfl⟩
  rw [← hN] at k4 l4 n1
  have eD : (D ++ [120]).map bytK = D.map bytK ++ [[.v (.int .u8 120)]] := by rw [List.map_append]; rfl
  have lD : (D ++ [(120 : UInt8)]).length = N + 1 := by simp [l4]
  obtain ⟨v1, hv1⟩ : ∃ v, v = bwV b c 4 := ⟨_, rfl⟩
  rw [← hv1] at k1 r1 ek
  obtain ⟨v3, hv3⟩ : ∃ v, v = bwV b (bwC b (bwC b c 4) 6) 3 := ⟨_, rfl⟩
  rw [← hv3] at k3 r3 ek
  obtain ⟨kd, hkd⟩ : ∃ kd, kd = opKd b c := ⟨_, rfl⟩
  rw [← hkd] at ek ev ec
  have k2 := k2
  by_cases h2 : kd = 2
  · rw [if_pos h2] at ev ec
    rw [ev, ec]
    dsimp only
    by_cases hz : v3 = 0
    · rw [hz] at k3
      refine fnOK_of true mixed Try.func81 rfl (by rfl) (by rfl) ?_
      have hres := congrArg Array.toList Try.results81
      simp only [Try.ntmps81, BGB, seval]
      (have gx := And.intro (@c0) (And.intro @List.length_map.{0,0} @l4); have q1 := k1; have q2 := k2; have q3 := k3; have q4 := k4; have q5 := k5; refine go ?_; (repeat' first | exact Ef.mk | apply Lf.mk | refine fun (K : KT) hK hE hT => ?_ | refine fun (KS : KE) hKS => ?_ | refine fun (D : KD) hD => ?_ | refine fun (hg : (_ : Prop)) => ?_ | fail); all_goals (first | (refine Wr.mk ?_; (try clear gx q1 q2 q3 q4 q5); repeat first | clear hK hE hT K | clear hR hE hT K) | assumption | skip))
      all_goals (refine post_a hres (.inl rfl) ?_; simp only [RSB, ENB, seval, tiAll, eD, lD]; simp only [MAB, seval]; refine ⟨rfl, rfl, ?_, ?_, ?_⟩ <;> (first | rfl | (simp [WKB, Nat.add_comm, eD, lD]; done) | (simp only [WKB, seval])))
    · rw [if_neg hz] at ek
      obtain rfl : v1 = 1 := by omega
      refine fnOK_of true mixed Try.func81 rfl (by rfl) (by rfl) ?_
      have hres := congrArg Array.toList Try.results81
      simp only [Try.ntmps81, BGB, seval]
      (have gx := And.intro (@c0) (And.intro @List.length_map.{0,0} @l4); have q1 := k1; have q2 := k2; have q3 := k3; have q4 := k4; have q5 := k5; refine go ?_; (repeat' first | exact Ef.mk | apply Lf.mk | refine fun (K : KT) hK hE hT => ?_ | refine fun (KS : KE) hKS => ?_ | refine fun (D : KD) hD => ?_ | refine fun (hg : (_ : Prop)) => ?_ | fail); all_goals (first | (refine Wr.mk ?_; (try clear gx q1 q2 q3 q4 q5); repeat first | clear hK hE hT K | clear hR hE hT K) | assumption | skip))
      all_goals (refine post_a hres (.inl rfl) ?_; simp only [RSB, ENB, seval, tiAll, eD, lD]; simp only [MAB, seval]; refine ⟨rfl, rfl, ?_, ?_, ?_⟩ <;> (first | rfl | (simp [WKB, Nat.add_comm, eD, lD]; done) | (simp only [WKB, seval])))
  · rw [if_neg h2] at ev ec
    have hz : v3 ≠ 0 := fun h => h2 (by rw [ek, if_pos h])
    rw [if_neg hz] at ek
    by_cases h3 : kd = 3
    · rw [if_pos h3] at ev ec
      rw [ev, ec]
      dsimp only
      obtain rfl : v1 = 2 := by omega
      refine fnOK_of true mixed Try.func81 rfl (by rfl) (by rfl) ?_
      have hres := congrArg Array.toList Try.results81
      simp only [Try.ntmps81, BGB, seval]
      (have gx := And.intro @c0 @List.length_map.{0,0}; have q1 := k1; have q2 := k2; have q3 := k3; have q4 := k4; have q5 := k5; refine go ?_; (repeat' first | exact Ef.mk | apply Lf.mk | refine fun (K : KT) hK hE hT => ?_ | refine fun (KS : KE) hKS => ?_ | refine fun (D : KD) hD => ?_ | refine fun (hg : (_ : Prop)) => ?_ | fail); all_goals (first | (refine Wr.mk ?_; (try clear gx q1 q2 q3 q4 q5); repeat first | clear hK hE hT K | clear hR hE hT K) | assumption | skip))
      all_goals (refine post_a hres (.inl rfl) ?_; simp only [RSB, ENB, seval, tiAll, List.map_nil]; simp only [MAB, seval]; refine ⟨rfl, rfl, ?_, ?_, ?_⟩ <;> (first | rfl | (simp [WKB, Nat.add_comm, List.map_nil]; done) | (simp only [WKB, seval])))
    · rw [if_neg h3] at ev ec
      rw [ev, ec]
      dsimp only
      rw [ek]
      refine fnOK_of true mixed Try.func81 rfl (by rfl) (by rfl) ?_
      have hres := congrArg Array.toList Try.results81
      simp only [Try.ntmps81, BGB, seval]
      (have gx := And.intro @c0 @List.length_map.{0,0}; have q1 := k1; have q2 := k2; have q3 := k3; have q4 := k4; have q5 := k5; refine go ?_; (repeat' first | exact Ef.mk | apply Lf.mk | refine fun (K : KT) hK hE hT => ?_ | refine fun (KS : KE) hKS => ?_ | refine fun (D : KD) hD => ?_ | refine fun (hg : (_ : Prop)) => ?_ | fail); all_goals (first | (refine Wr.mk ?_; (try clear gx q1 q2 q3 q4 q5); repeat first | clear hK hE hT K | clear hR hE hT K) | assumption | skip))
      all_goals (refine post_a hres (.inl rfl) ?_; simp only [RSB, ENB, seval, tiAll, List.map_nil]; simp only [MAB, seval]; refine ⟨rfl, rfl, ?_, ?_, ?_⟩ <;> (first | rfl | (simp [WKB, Nat.add_comm, List.map_nil]; done) | (simp only [WKB, seval])))

set_option maxHeartbeats 2000000 in
theorem specDiskNew_k (r : Int) (h : 0 ≤ r ∧ r ≤ 200000) : FnOK Try.prog 118 ⟨0, [], [.c (.v (.int .i64 r))], .tup [.inr [.v (.int .i64 r), .v (.int .i64 (-1)), .nil, .nil], .inl (.v (.bool true))], [], 0⟩ := by
  refine fnOK_of true mixed Try.func118 rfl (by rfl) (by rfl) ?_
  have hres := congrArg Array.toList Try.results118
  simp only [Try.ntmps118, BGB, seval]
  (have gx := true_and True; refine go ?_; (repeat' first | exact Ef.mk | apply Lf.mk | refine fun (K : KT) hK hE hT => ?_ | refine fun (KS : KE) hKS => ?_ | refine fun (D : KD) hD => ?_ | refine fun (hg : (_ : Prop)) => ?_ | fail); all_goals (first | (refine Wr.mk ?_; (try clear gx); repeat first | clear hK hE hT K | clear hR hE hT K) | assumption | skip))
  (refine post_a hres (.inl rfl) ?_; simp only [RSB, ENB, seval, tiAll, true_and]; simp only [MAB, seval]; refine ⟨rfl, rfl, ?_, ?_, ?_⟩ <;> (first | rfl | (simp [WKB, Nat.add_comm, true_and]; done) | (simp only [WKB, seval])))

end Go.Proofs.Ytfnhchcgieeedaa

namespace Go.Proofs.Ytfnhchcgieeedaa
set_option linter.unusedSimpArgs false
set_option linter.unusedVariables false
set_option linter.defProp false
set_option maxRecDepth 20000
open Go.RowKit

def opsC (b : List UInt8) (c : Cu) : Nat → Cu
  | 0 => c
  | k + 1 => opC b (opsC b c k)
def opsV (b : List UInt8) (c : Cu) : Nat → List FsOpD
  | 0 => []
  | k + 1 => opsV b c k ++ [opV b (opsC b c k)]
theorem opsC_le {b : List UInt8} {c : Cu} (hb : b.length ≤ 1048576) (h : c.i ≤ 1048576) : ∀ k, (opsC b c k).i ≤ 1048576
  | 0 => h
  | k + 1 => opC_le hb (opsC_le hb h k)
theorem opsV_len (b : List UInt8) (c : Cu) : ∀ k, (opsV b c k).length = k
  | 0 => rfl
  | k + 1 => by simp [opsV, opsV_len b c k]
theorem opsV_ok (b : List UInt8) (c : Cu) : ∀ k, ∀ o ∈ opsV b c k, opO o = true
  | 0, o, h => by cases h
  | k + 1, o, h => by
    rcases List.mem_append.1 h with h | h
    · exact opsV_ok b c k o h
    · rw [List.mem_singleton] at h; rw [h]; exact opV_ok _ _

def offC (b : List UInt8) (n : Int) : Cu := ⟨0, IntKind.i64.wrap ((newC b).h + n)⟩
def mkOps (b : List UInt8) : List FsOpD := opsV b (bwC b (offC b 17) 9) (bwV b (offC b 17) 9).toNat

set_option maxHeartbeats 4000000 in
theorem MakeOps_k (b : List UInt8) (hb : b.length ≤ 1048576) : FnOK Try.prog 32 ⟨1, [(0, some (.ro (b.map bytK)))], [.c (.sl 0 1 0 b.length)], .c (.sl 1 4 0 (mkOps b).length), [(1, some (.nst 66 ((mkOps b).map (FsOpD.k 5)) none))], 2⟩ := by
  have k0 := l01New_k b hb
  have h0 : (offC b 17).i ≤ 1048576 := Nat.zero_le _
  have k1 := l01Below_k b (offC b 17) 9 hb h0 (by decide)
  have r1 := bwV_rng b (offC b 17) (n := 9) (by decide)
  have h1 := bwC_le hb h0 9
  obtain ⟨N, hN⟩ := Int.eq_ofNat_of_zero_le r1.1
  have em : mkOps b = opsV b (bwC b (offC b 17) 9) N := by unfold mkOps; rw [hN]; rfl
  rw [hN] at k1 r1
  rw [em, opsV_len]
  obtain ⟨c, hc⟩ : ∃ c, c = bwC b (offC b 17) 9 := ⟨_, rfl⟩
  rw [← hc] at k1 h1 ⊢
  have eh : IntKind.i64.wrap ((newC b).h + 17) = (offC b 17).h := rfl
  have ei : (((newC b).i : Nat) : Int) = (((offC b 17).i : Nat) : Int) := rfl
  refine fnOK_of false mixed Try.func32 rfl (by rfl) (by rfl) ?_
  have hres := congrArg Array.toList Try.results32
  simp only [Try.ntmps32, BGB, seval]
  (have gx := And.intro @eh @ei; have q1 := k0; have q2 := k1; refine go ?_; (repeat' first | exact Ef.mk | apply Lf.mk | refine fun (K : KT) hK hE hT => ?_ | refine fun (KS : KE) hKS => ?_ | refine fun (D : KD) hD => ?_ | refine fun (hg : (_ : Prop)) => ?_ | fail); all_goals (first | (refine Wr.mk ?_; (try clear gx q1 q2); repeat first | clear hK hE hT K | clear hR hE hT K) | assumption | skip))
  refine loop_v (X := {k : Nat // k ≤ N}) [16] (fun x => [(5, .c (.v (.int .i64 ((N : Int) - ((x.1 : Nat) : Int))))), (4, .c (.sl 2 4 0 x.1))]) (fun x => [(0, some (.ro (b.map bytK))), (1, some (.box 110 [.sl 0 1 0 b.length, .v (.int .i64 ((opsC b c x.1).i : Int)), .v (.int .i64 (opsC b c x.1).h)])), (2, some (.nst 66 ((opsV b c x.1).map (FsOpD.k 5)) none))]) 3 (fun x => N - x.1) ⟨0, by omega⟩ ?_
  simp only [KPB, seval]
  refine ⟨?_, ?_⟩
  · (refine wk_a ?_; simp only [MAB, seval]; refine ⟨rfl, rfl, (by decide), ?_, ?_⟩; all_goals (first | (simp only [WKB, seval, opsV, opsC, List.map_nil, Int.sub_zero]; done) | (simp [WKB, seval, opsV, opsC, List.map_nil, Int.sub_zero]; done) | simp only [WKB, seval]))
  · rintro ⟨k, hk⟩ K hR hE hT
    have hl := opsV_len b c k
    rcases Nat.lt_or_ge k N with hlt | hge
    case inr =>
      obtain rfl : k = N := by omega
      (have gx := @List.length_map.{0,0}; refine go ?_; (repeat' first | exact Ef.mk | apply Lf.mk | refine fun (K : KT) hK hE hT => ?_ | refine fun (KS : KE) hKS => ?_ | refine fun (D : KD) hD => ?_ | refine fun (hg : (_ : Prop)) => ?_ | fail); all_goals (first | (refine Wr.mk ?_; (try clear gx); repeat first | clear hK hE hT K | clear hR hE hT K) | assumption | skip))
      (refine post_a hres (.inl rfl) ?_; simp only [RSB, ENB, seval, tiAll, true_and]; simp only [MAB, seval]; refine ⟨rfl, rfl, ?_, ?_, ?_⟩ <;> (first | rfl | (simp [WKB, Nat.add_comm, true_and]; done) | (simp only [WKB, seval])))
    case inl =>
      have ko := l02Op_k b (opsC b c k) hb (opsC_le hb h1 k)
      have e2 : (opsV b c (k + 1)).map (FsOpD.k 5) = (opsV b c k).map (FsOpD.k 5) ++ [FsOpD.k 5 (opV b (opsC b c k))] := by
        show (opsV b c k ++ [_]).map _ = _
        rw [List.map_append]; rfl
      have ec : opsC b c (k + 1) = opC b (opsC b c k) := rfl
      have e3 : IntKind.i64.wrap ((N : Int) - (k : Int) - 1) = (N : Int) - ((k + 1 : Nat) : Int) := by rw [IntWalk.i64_in _ (by omega)]; omega
      obtain ⟨o, ho⟩ : ∃ o, o = opV b (opsC b c k) := ⟨_, rfl⟩
      rw [← ho] at ko e2
      (have gx := And.intro (@List.length_map.{0,0}) (And.intro @hl @e3); have q1 := ko; refine go ?_; (repeat' first | exact Ef.mk | apply Lf.mk | refine fun (K : KT) hK hE hT => ?_ | refine fun (KS : KE) hKS => ?_ | refine fun (D : KD) hD => ?_ | refine fun (hg : (_ : Prop)) => ?_ | fail); all_goals (first | (refine Wr.mk ?_; (try clear gx q1); repeat first | clear hK hE hT K | clear hR hE hT K) | assumption | skip))
      (refine hR.out ⟨k + 1, by omega⟩ _ _ _ (by simp only; omega) ?_; (refine wk_a ?_; simp only [MAB, seval]; refine ⟨rfl, rfl, (by decide), ?_, ?_⟩; all_goals (first | (simp only [WKB, seval, e2, ec, FsOpD.k]; done) | (simp [WKB, seval, e2, ec, FsOpD.k]; done) | simp only [WKB, seval])))

def cts : List Int := [0, 1, 5, 13, 14, 20, 30, 60, 9999]
def cutN (b : List UInt8) : Int := bwV b (offC b 4321) 8
def cutK (b : List UInt8) : Int := cts.getD (bwV b (bwC b (offC b 4321) 8) 9).toNat 0
set_option maxHeartbeats 4000000 in
theorem MakeCut_k (b : List UInt8) (hb : b.length ≤ 1048576) : FnOK Try.prog 36 ⟨1, [(0, some (.ro (b.map bytK)))], [.c (.sl 0 1 0 b.length)], .tup [.inl (.v (.int .i64 (cutN b))), .inl (.v (.int .i64 (cutK b)))], [], 1⟩ := by
  have k0 := l01New_k b hb
  have h0 : (offC b 4321).i ≤ 1048576 := Nat.zero_le _
  have k1 := l01Below_k b (offC b 4321) 8 hb h0 (by decide)
  have h1 := bwC_le hb h0 8
  have k2 := l01Below_k b (bwC b (offC b 4321) 8) 9 hb h1 (by decide)
  have r2 := bwV_rng b (bwC b (offC b 4321) 8) (n := 9) (by decide)
  obtain ⟨N, hN⟩ := Int.eq_ofNat_of_zero_le r2.1
  have hN9 : N < cts.length := by show N < 9; omega
  have em : cutK b = cts[N] := by unfold cutK; rw [hN]; simp [List.getD, hN9]
  rw [em]
  rw [hN] at k2
  have ecn : bwV b (offC b 4321) 8 = cutN b := rfl
  rw [ecn] at k1
  have tb : [[DC.v (.int .i64 0)], [.v (.int .i64 1)], [.v (.int .i64 5)], [.v (.int .i64 13)], [.v (.int .i64 14)], [.v (.int .i64 20)], [.v (.int .i64 30)], [.v (.int .i64 60)], [.v (.int .i64 9999)]] = cts.map intK := rfl
  have lc : cts.length = 9 := rfl
  have eh : IntKind.i64.wrap ((newC b).h + 4321) = (offC b 4321).h := rfl
  have ei : (((newC b).i : Nat) : Int) = (((offC b 4321).i : Nat) : Int) := rfl
  refine fnOK_of false mixed Try.func36 rfl (by rfl) (by rfl) ?_
  have hres := congrArg Array.toList Try.results36
  simp only [Try.ntmps36, BGB, seval]
  (have gx := And.intro (@eh) (And.intro (@ei) (And.intro (@tb) (And.intro (@List.getElem_map.{0,0}) (And.intro (@List.length_map.{0,0}) (And.intro @intK.eq_1 @lc))))); have q1 := k0; have q2 := k1; have q3 := k2; refine go ?_; (repeat' first | exact Ef.mk | apply Lf.mk | refine fun (K : KT) hK hE hT => ?_ | refine fun (KS : KE) hKS => ?_ | refine fun (D : KD) hD => ?_ | refine fun (hg : (_ : Prop)) => ?_ | fail); all_goals (first | (refine Wr.mk ?_; (try clear gx q1 q2 q3); repeat first | clear hK hE hT K | clear hR hE hT K) | assumption | skip))
  (refine post_a hres (.inl rfl) ?_; simp only [RSB, ENB, seval, tiAll, true_and]; simp only [MAB, seval]; refine ⟨rfl, rfl, ?_, ?_, ?_⟩ <;> (first | rfl | (simp [WKB, Nat.add_comm, true_and]; done) | (simp only [WKB, seval])))

end Go.Proofs.Ytfnhchcgieeedaa

namespace Go.Proofs.Ytfnhchcgieeedaa
set_option linter.unusedSimpArgs false
set_option linter.unusedVariables false
set_option linter.defProp false
set_option maxRecDepth 20000
open Go.RowKit

def rms : List Int := [0, 9, 30, 60, 200, 200000]
def crO (b : List UInt8) (c : Cu) : FsOpD := ⟨1, nmV b c, [], []⟩
theorem crO_ok (b : List UInt8) (c : Cu) : opO (crO b c) = true := by
  unfold crO
  rw [opO_c (.inl rfl)]
  simp [nm_ok]
/-- Two files put on a new disk. -/
noncomputable def sq1 (b : List UInt8) (d : DiskD) (c : Cu) : Nat → DiskD × Cu
  | 0 => (d, c)
  | k + 1 => ((doR (sq1 b d c k).1 (crO b (sq1 b d c k).2)).1, bwC b (sq1 b d c k).2 6)
/-- Operations played. -/
noncomputable def sq2 (b : List UInt8) (d : DiskD) (c : Cu) : Nat → DiskD × Cu
  | 0 => (d, c)
  | k + 1 => if bwV b (sq2 b d c k).2 5 = 0 then (syR (sq2 b d c k).1, bwC b (sq2 b d c k).2 5) else ((doR (sq2 b d c k).1 (opV b (bwC b (sq2 b d c k).2 5))).1, opC b (bwC b (sq2 b d c k).2 5))
def gdS (s : DiskD × Cu) : Prop := diskP s.1 ∧ s.2.i ≤ 1048576
theorem sq1_gd {b : List UInt8} (hb : b.length ≤ 1048576) {d : DiskD} {c : Cu} (h : gdS (d, c)) : ∀ k, gdS (sq1 b d c k)
  | 0 => h
  | k + 1 => ⟨doR_ok _ _, bwC_le hb (sq1_gd hb h k).2 6⟩
theorem sq2_gd {b : List UInt8} (hb : b.length ≤ 1048576) {d : DiskD} {c : Cu} (h : gdS (d, c)) : ∀ k, gdS (sq2 b d c k)
  | 0 => h
  | k + 1 => by
    have ih := sq2_gd hb h k
    show gdS (if bwV b (sq2 b d c k).2 5 = 0 then (syR (sq2 b d c k).1, bwC b (sq2 b d c k).2 5) else ((doR (sq2 b d c k).1 (opV b (bwC b (sq2 b d c k).2 5))).1, opC b (bwC b (sq2 b d c k).2 5)))
    split
    · exact ⟨syR_ok _, bwC_le hb ih.2 5⟩
    · exact ⟨doR_ok _ _, opC_le hb (bwC_le hb ih.2 5)⟩
noncomputable def dA (b : List UInt8) (c : Cu) : DiskD × Cu := sq1 b ⟨rms.getD (bwV b c 6).toNat 0, -1, [], []⟩ (bwC b c 6) 2
noncomputable def dN (b : List UInt8) (c : Cu) : Nat := (bwV b (dA b c).2 17).toNat
noncomputable def dB (b : List UInt8) (c : Cu) : DiskD × Cu := sq2 b (dA b c).1 (bwC b (dA b c).2 17) (dN b c)
noncomputable def dC (b : List UInt8) (c : Cu) : DiskD × Cu :=
  if bwV b (dB b c).2 6 = 0 then (⟨(dB b c).1.Room, bwV b (bwC b (dB b c).2 6) 4, (dB b c).1.Files, (dB b c).1.Wait⟩, bwC b (bwC b (dB b c).2 6) 4) else ((dB b c).1, bwC b (dB b c).2 6)
theorem newD_ok {r : Int} (h : 0 ≤ r ∧ r ≤ 200000) : diskP ⟨r, -1, [], []⟩ := by
  refine ⟨⟨h, (by omega : (-1 : Int) ≤ -1 ∧ (-1 : Int) ≤ 2000), Nat.zero_le _, Nat.zero_le _⟩, fun f hf => ?_, List.Pairwise.nil, ok_nil r [] ?_⟩
  · cases hf
  · show ((0 : Nat) : Int) ≤ r; omega
theorem rms_rng (b : List UInt8) (c : Cu) : ∃ (k : Nat) (h : k < rms.length), bwV b c 6 = (k : Int) ∧ rms.getD (bwV b c 6).toNat 0 = rms[k] ∧ 0 ≤ rms[k] ∧ rms[k] ≤ 200000 := by
  have h := bwV_rng b c (n := 6) (by decide)
  obtain ⟨k, hk⟩ := Int.eq_ofNat_of_zero_le h.1
  have hk6 : k < 6 := by omega
  have hin : ∀ x ∈ rms, (0 : Int) ≤ x ∧ x ≤ 200000 := by decide
  refine ⟨k, hk6, hk, ?_, hin _ (List.getElem_mem _)⟩
  rw [hk]
  show (rms[k]?).getD 0 = _
  rw [List.getElem?_eq_getElem (show k < rms.length from hk6)]
  rfl
theorem dA_gd {b : List UInt8} {c : Cu} (hb : b.length ≤ 1048576) (hc : c.i ≤ 1048576) : gdS (dA b c) := by
  obtain ⟨k, hk, h1, h2, h3, h4⟩ := rms_rng b c
  unfold dA
  rw [h2]
  exact sq1_gd hb (d := ⟨rms[k], -1, [], []⟩) (c := bwC b c 6) ⟨newD_ok ⟨h3, h4⟩, bwC_le hb hc 6⟩ 2
theorem dB_gd {b : List UInt8} {c : Cu} (hb : b.length ≤ 1048576) (hc : c.i ≤ 1048576) : gdS (dB b c) := by
  have h := dA_gd hb hc
  unfold dB
  exact sq2_gd hb (d := (dA b c).1) (c := bwC b (dA b c).2 17) ⟨h.1, bwC_le hb h.2 17⟩ _
theorem dC_gd {b : List UInt8} {c : Cu} (hb : b.length ≤ 1048576) (hc : c.i ≤ 1048576) : gdS (dC b c) := by
  have h := dB_gd hb hc
  have h4 := bwV_rng b (bwC b (dB b c).2 6) (n := 4) (by decide)
  unfold dC
  split
  · exact ⟨fuse_ok h.1 (by omega), bwC_le hb (bwC_le hb h.2 6) 4⟩
  · exact ⟨h.1, bwC_le hb h.2 6⟩

theorem specDiskSync_x (d : DiskD) (hz : szD d) : FnOK Try.prog 29 ⟨2, [(0, some (.mix 95 ((d.Files).map (FileD.k 5)))), (1, some (.nst 66 ((d.Wait).map (FsOpD.k 5)) none))], [.agg [.v (.int .i64 d.Room), .v (.int .i64 d.Fuse), .sl 0 2 0 (d.Files).length, .sl 1 4 0 (d.Wait).length]], .tup [.inr [.v (.int .i64 (syR d).Room), .v (.int .i64 (syR d).Fuse), .sl 2 2 0 ((syR d).Files).length, .sl 3 4 0 ((syR d).Wait).length], .inl (.v (.int .i64 (syC d)))], [(0, none), (1, none), (2, some (.mix 95 (((syR d).Files).map (FileD.k 5)))), (3, some (.nst 66 (((syR d).Wait).map (FsOpD.k 5)) none))], 4⟩ :=
  FnOK.giveN (i := 0) (FnOK.giveN (i := 1) (specDiskSync_k d hz) (by simp [wfs, cvOff]) rfl (by decide) (.inr (.inl ⟨_, rfl⟩)) (by simp) fun g b hb => plainN_two hb) (by simp [wfs, cvOff]) rfl (by decide) (.inr (.inr ⟨_, rfl⟩)) (by simp) fun g b hb => by
    rcases List.mem_cons.1 hb with hb | hb
    · cases hb
    · exact plainN_two hb

set_option maxHeartbeats 16000000 in
theorem l02Draw_k (b : List UInt8) (c : Cu) (hb : b.length ≤ 1048576) (hc : c.i ≤ 1048576) : FnOK Try.prog 79 ⟨2, [(0, some (.ro (b.map bytK))), (1, some (.box 110 [.sl 0 1 0 b.length, .v (.int .i64 (c.i : Int)), .v (.int .i64 c.h)]))], [.c (.ptr 1 0 0), .c (.v (.int .i64 16))], .agg [.v (.int .i64 (dC b c).1.Room), .v (.int .i64 (dC b c).1.Fuse), .sl 2 2 0 ((dC b c).1.Files).length, .sl 3 4 0 ((dC b c).1.Wait).length], [(1, some (.box 110 [.sl 0 1 0 b.length, .v (.int .i64 ((dC b c).2.i : Int)), .v (.int .i64 (dC b c).2.h)])), (2, some (.mix 95 (((dC b c).1.Files).map (FileD.k 5)))), (3, some (.nst 66 (((dC b c).1.Wait).map (FsOpD.k 5)) none))], 4⟩ := by
  have c0 : ({ data := #[] } : ByteArray) = txt [] := rfl
  obtain ⟨R, hR, r1, r2, r3, r4⟩ := rms_rng b c
  obtain ⟨r, hr⟩ : ∃ r, r = rms[R] := ⟨_, rfl⟩
  have hr2 : ∀ h : R < rms.length, rms[R]'h = r := fun _ => hr.symm
  rw [← hr] at r2 r3 r4
  have hA := dA_gd hb hc
  have hB := dB_gd hb hc
  have k1 := l01Below_k b c 6 hb hc (by decide)
  rw [r1] at k1
  have kn := specDiskNew_k r ⟨r3, r4⟩
  have eA : dA b c = sq1 b ⟨r, -1, [], []⟩ (bwC b c 6) 2 := by unfold dA; rw [r2]
  have eB : dB b c = sq2 b (dA b c).1 (bwC b (dA b c).2 17) (dN b c) := rfl
  have eC : dC b c = if bwV b (dB b c).2 6 = 0 then (⟨(dB b c).1.Room, bwV b (bwC b (dB b c).2 6) 4, (dB b c).1.Files, (dB b c).1.Wait⟩, bwC b (bwC b (dB b c).2 6) 4) else ((dB b c).1, bwC b (dB b c).2 6) := rfl
  have k2 := l01Below_k b (dA b c).2 17 hb hA.2 (by decide)
  have r17 := bwV_rng b (dA b c).2 (n := 17) (by decide)
  have hN : bwV b (dA b c).2 17 = (dN b c : Int) := by unfold dN; omega
  rw [hN] at k2 r17
  have g0 : gdS (⟨r, -1, [], []⟩, bwC b c 6) := ⟨newD_ok ⟨r3, r4⟩, bwC_le hb hc 6⟩
  have g1 := fun k => sq1_gd (d := ⟨r, -1, [], []⟩) (c := bwC b c 6) hb g0 k
  have g2 := fun k => sq2_gd (b := b) hb (d := (dA b c).1) (c := bwC b (dA b c).2 17) ⟨hA.1, bwC_le hb hA.2 17⟩ k
  have tb : [[DC.v (.int .i64 0)], [.v (.int .i64 9)], [.v (.int .i64 30)], [.v (.int .i64 60)], [.v (.int .i64 200)], [.v (.int .i64 200000)]] = rms.map intK := rfl
  have lc : rms.length = 6 := rfl
  obtain ⟨N, hNN⟩ : ∃ N, N = dN b c := ⟨_, rfl⟩
  rw [← hNN] at k2 r17 eB
  refine fnOK_of true mixed Try.func79 rfl (by rfl) (by rfl) ?_
  have hres := congrArg Array.toList Try.results79
  simp only [Try.ntmps79, BGB, seval]
  (have gx := And.intro (@tb) (And.intro (@lc) (And.intro (@List.getElem_map.{0,0}) (And.intro (@List.length_map.{0,0}) (And.intro @intK.eq_1 @hr2)))); have q1 := k1; have q2 := kn; refine go ?_; (repeat' first | exact Ef.mk | apply Lf.mk | refine fun (K : KT) hK hE hT => ?_ | refine fun (KS : KE) hKS => ?_ | refine fun (D : KD) hD => ?_ | refine fun (hg : (_ : Prop)) => ?_ | fail); all_goals (first | (refine Wr.mk ?_; (try clear gx q1 q2); repeat first | clear hK hE hT K | clear hR hE hT K) | assumption | skip))
  refine loop_v (X := {k : Nat // k ≤ 2}) [10] (fun x => [(7, .c (.v (.int .i64 ((x.1 : Nat) : Int))))]) (fun x => [(0, some (.ro (b.map bytK))), (1, some (.box 110 [.sl 0 1 0 b.length, .v (.int .i64 ((sq1 b ⟨r, -1, [], []⟩ (bwC b c 6) x.1).2.i : Int)), .v (.int .i64 (sq1 b ⟨r, -1, [], []⟩ (bwC b c 6) x.1).2.h)])), (2, some (.box 50 [.v (.int .i64 0), .v (.int .i64 0), .nil, .nil])), (5, some (.nst 95 ((sq1 b ⟨r, -1, [], []⟩ (bwC b c 6) x.1).1.Files.map (FileD.k 5)) none)), (6, some (.nst 66 ((sq1 b ⟨r, -1, [], []⟩ (bwC b c 6) x.1).1.Wait.map (FsOpD.k 5)) none)), (4, some (.box 50 [.v (.int .i64 (sq1 b ⟨r, -1, [], []⟩ (bwC b c 6) x.1).1.Room), .v (.int .i64 (sq1 b ⟨r, -1, [], []⟩ (bwC b c 6) x.1).1.Fuse), .sl 5 2 0 ((sq1 b ⟨r, -1, [], []⟩ (bwC b c 6) x.1).1.Files).length, .sl 6 4 0 ((sq1 b ⟨r, -1, [], []⟩ (bwC b c 6) x.1).1.Wait).length]))]) 7 (fun x => 2 - x.1) ⟨0, by omega⟩ ?_
  simp only [KPB, seval]
  refine ⟨?_, ?_⟩
  · (refine wk_a ?_; simp only [MAB, seval]; refine ⟨rfl, rfl, (by decide), ?_, ?_⟩; all_goals (first | (simp only [WKB, seval, sq1, List.map_nil]; done) | (simp [WKB, seval, sq1, List.map_nil]; done) | simp only [WKB, seval]))
  · rintro ⟨k, hk⟩ K hR hE hT
    rcases Nat.lt_or_ge k 2 with hlt | hge
    case inl =>
      have gk := g1 k
      have es : sq1 b ⟨r, -1, [], []⟩ (bwC b c 6) (k + 1) = ((doR (sq1 b ⟨r, -1, [], []⟩ (bwC b c 6) k).1 (crO b (sq1 b ⟨r, -1, [], []⟩ (bwC b c 6) k).2)).1, bwC b (sq1 b ⟨r, -1, [], []⟩ (bwC b c 6) k).2 6) := rfl
      obtain ⟨s, hs⟩ : ∃ s, s = sq1 b ⟨r, -1, [], []⟩ (bwC b c 6) k := ⟨_, rfl⟩
      rw [← hs] at gk es
      simp only [← hs]
      obtain ⟨d, cu⟩ := s
      dsimp only at es ⊢
      obtain ⟨gd1, gd2⟩ : diskP d ∧ cu.i ≤ 1048576 := gk
      have kn := l02Name_k b cu hb gd2
      have kd := specDiskDo_k d (crO b cu) (diskP_sz gd1) (by have := (opO_len (crO_ok b cu)).1; omega) (by have := (opO_len (crO_ok b cu)).2.1; omega) (by have := (opO_len (crO_ok b cu)).2.2; omega)
      have e1 : (crO b cu).Kind = 1 := rfl
      have e2 : (crO b cu).Name = nmV b cu := rfl
      have e3 : (crO b cu).To = [] := rfl
      have e4 : (crO b cu).Data = [] := rfl
      rw [e1, e2, e3, e4] at kd
      obtain ⟨r, hr⟩ : ∃ r, r = doR d (crO b cu) := ⟨_, rfl⟩
      rw [← hr] at kd es
      simp only [List.map_nil, List.length_nil] at kd
      (have gx := And.intro @c0 @List.length_map.{0,0}; have q1 := kn; have q2 := kd; refine go ?_; (repeat' first | exact Ef.mk | apply Lf.mk | refine fun (K : KT) hK hE hT => ?_ | refine fun (KS : KE) hKS => ?_ | refine fun (D : KD) hD => ?_ | refine fun (hg : (_ : Prop)) => ?_ | fail); all_goals (first | (refine Wr.mk ?_; (try clear gx q1 q2); repeat first | clear hK hE hT K | clear hR hE hT K) | assumption | skip))
      (refine hR.out ⟨k + 1, by omega⟩ _ _ _ (by simp only; omega) ?_; (refine wk_a ?_; simp only [MAB, seval]; refine ⟨rfl, rfl, (by decide), ?_, ?_⟩; all_goals (first | (simp only [WKB, seval, es]; done) | (simp [WKB, seval, es]; done) | simp only [WKB, seval])))
    case inr =>
      obtain rfl : k = 2 := by omega
      clear hR
      simp only [← eA]
      obtain ⟨A, hAA⟩ : ∃ A, A = dA b c := ⟨_, rfl⟩
      rw [← hAA] at k2 hN hA eB
      simp only [← hAA] at g2 ⊢
      obtain ⟨d, cu⟩ := A
      dsimp only at k2 hN eB g2 ⊢
      obtain ⟨c4, hc4⟩ : ∃ c4, c4 = bwC b cu 17 := ⟨_, rfl⟩
      rw [← hc4] at k2 eB
      simp only [← hc4] at g2
      (have gx := @List.length_map.{0,0}; have q1 := k2; refine go ?_; (repeat' first | exact Ef.mk | apply Lf.mk | refine fun (K : KT) hK hE hT => ?_ | refine fun (KS : KE) hKS => ?_ | refine fun (D : KD) hD => ?_ | refine fun (hg : (_ : Prop)) => ?_ | fail); all_goals (first | (refine Wr.mk ?_; (try clear gx q1); repeat first | clear hK hE hT K | clear hR hE hT K) | assumption | skip))
      refine loop_v (X := {k : Nat // k ≤ N}) [] (fun x => [(8, .c (.v (.int .i64 ((N : Int) - ((x.1 : Nat) : Int)))))]) (fun x => [(0, some (.ro (b.map bytK))), (1, some (.box 110 [.sl 0 1 0 b.length, .v (.int .i64 ((sq2 b d c4 x.1).2.i : Int)), .v (.int .i64 (sq2 b d c4 x.1).2.h)])), (2, some (.box 50 [.v (.int .i64 0), .v (.int .i64 0), .nil, .nil])), (5, some (.mix 95 ((sq2 b d c4 x.1).1.Files.map (FileD.k 5)))), (6, some (.nst 66 ((sq2 b d c4 x.1).1.Wait.map (FsOpD.k 5)) none)), (4, some (.box 50 [.v (.int .i64 (sq2 b d c4 x.1).1.Room), .v (.int .i64 (sq2 b d c4 x.1).1.Fuse), .sl 5 2 0 ((sq2 b d c4 x.1).1.Files).length, .sl 6 4 0 ((sq2 b d c4 x.1).1.Wait).length]))]) 7 (fun x => N - x.1) ⟨0, by omega⟩ ?_
      simp only [KPB, seval]
      refine ⟨?_, ?_⟩
      · refine Wk.trans (wk_nm (g := 5) rfl) ?_
        simp only [EVB, seval]
        (refine wk_a ?_; simp only [MAB, seval]; refine ⟨rfl, rfl, (by decide), ?_, ?_⟩; all_goals (first | (simp only [WKB, seval, sq2, Int.sub_zero]; done) | (simp [WKB, seval, sq2, Int.sub_zero]; done) | simp only [WKB, seval]))
      · rintro ⟨k, hk⟩ K hR hE hT
        rcases Nat.lt_or_ge k N with hlt | hge
        case inl =>
          have gk := g2 k
          have es : sq2 b d c4 (k + 1) = if bwV b (sq2 b d c4 k).2 5 = 0 then (syR (sq2 b d c4 k).1, bwC b (sq2 b d c4 k).2 5) else ((doR (sq2 b d c4 k).1 (opV b (bwC b (sq2 b d c4 k).2 5))).1, opC b (bwC b (sq2 b d c4 k).2 5)) := rfl
          obtain ⟨s, hs⟩ : ∃ s, s = sq2 b d c4 k := ⟨_, rfl⟩
          rw [← hs] at gk es
          simp only [← hs]
          obtain ⟨e, ce⟩ := s
          dsimp only at es ⊢
          obtain ⟨ge1, ge2⟩ : diskP e ∧ ce.i ≤ 1048576 := gk
          have k5 := l01Below_k b ce 5 hb ge2 (by decide)
          have ge3 := bwC_le hb ge2 5
          have e3 : (N : Int) - (k : Int) - 1 = (N : Int) - ((k + 1 : Nat) : Int) := by omega
          obtain ⟨v, hv⟩ : ∃ v, v = bwV b ce 5 := ⟨_, rfl⟩
          rw [← hv] at k5 es
          by_cases hz : v = 0
          · rw [if_pos hz] at es
            rw [hz] at k5
            have ky := specDiskSync_x e (diskP_sz ge1)
            obtain ⟨q, hq⟩ : ∃ q, q = syR e := ⟨_, rfl⟩
            rw [← hq] at ky es
            (have gx := And.intro @List.length_map.{0,0} @e3; have q1 := k5; have q2 := ky; refine go ?_; (repeat' first | exact Ef.mk | apply Lf.mk | refine fun (K : KT) hK hE hT => ?_ | refine fun (KS : KE) hKS => ?_ | refine fun (D : KD) hD => ?_ | refine fun (hg : (_ : Prop)) => ?_ | fail); all_goals (first | (refine Wr.mk ?_; (try clear gx q1 q2); repeat first | clear hK hE hT K | clear hR hE hT K) | assumption | skip))
            (refine hR.out ⟨k + 1, by omega⟩ _ _ _ (by simp only; omega) ?_; (refine wk_a ?_; simp only [MAB, seval]; refine ⟨rfl, rfl, (by decide), ?_, ?_⟩; all_goals (first | (simp only [WKB, seval, es]; done) | (simp [WKB, seval, es]; done) | simp only [WKB, seval])))
          · rw [if_neg hz] at es
            have ko := l02Op_k b (bwC b ce 5) hb ge3
            have hl := opO_len (opV_ok b (bwC b ce 5))
            have kd := specDiskDo_k e (opV b (bwC b ce 5)) (diskP_sz ge1) (by omega) (by omega) (by omega)
            obtain ⟨o, ho⟩ : ∃ o, o = opV b (bwC b ce 5) := ⟨_, rfl⟩
            rw [← ho] at ko kd es
            obtain ⟨q, hq⟩ : ∃ q, q = doR e o := ⟨_, rfl⟩
            rw [← hq] at kd es
            (have gx := And.intro @List.length_map.{0,0} @e3; have q1 := k5; have q2 := ko; have q3 := kd; refine go ?_; (repeat' first | exact Ef.mk | apply Lf.mk | refine fun (K : KT) hK hE hT => ?_ | refine fun (KS : KE) hKS => ?_ | refine fun (D : KD) hD => ?_ | refine fun (hg : (_ : Prop)) => ?_ | fail); all_goals (first | (refine Wr.mk ?_; (try clear gx q1 q2 q3); repeat first | clear hK hE hT K | clear hR hE hT K) | assumption | skip))
            refine hR.out ⟨k + 1, by omega⟩ _ _ _ (by simp only; omega) ?_
            refine Wk.trans (wk_nm (g := 8) rfl) ?_
            simp only [EVB, seval]
            (refine wk_a ?_; simp only [MAB, seval]; refine ⟨rfl, rfl, (by decide), ?_, ?_⟩; all_goals (first | (simp only [WKB, seval, es]; done) | (simp [WKB, seval, es]; done) | simp only [WKB, seval]))
        case inr =>
          obtain rfl : k = N := by omega
          clear hR
          simp only [← eB]
          obtain ⟨B, hBB⟩ : ∃ B, B = dB b c := ⟨_, rfl⟩
          rw [← hBB] at hB eC
          simp only [← hBB]
          obtain ⟨e, ce⟩ := B
          dsimp only at eC ⊢
          obtain ⟨ge1, ge2⟩ : diskP e ∧ ce.i ≤ 1048576 := hB
          have k6 := l01Below_k b ce 6 hb ge2 (by decide)
          have k4 := l01Below_k b (bwC b ce 6) 4 hb (bwC_le hb ge2 6) (by decide)
          obtain ⟨v, hv⟩ : ∃ v, v = bwV b ce 6 := ⟨_, rfl⟩
          rw [← hv] at k6 eC
          by_cases hz : v = 0
          · rw [if_pos hz] at eC
            rw [hz] at k6
            (have gx := @List.length_map.{0,0}; have q1 := k6; have q2 := k4; refine go ?_; (repeat' first | exact Ef.mk | apply Lf.mk | refine fun (K : KT) hK hE hT => ?_ | refine fun (KS : KE) hKS => ?_ | refine fun (D : KD) hD => ?_ | refine fun (hg : (_ : Prop)) => ?_ | fail); all_goals (first | (refine Wr.mk ?_; (try clear gx q1 q2); repeat first | clear hK hE hT K | clear hR hE hT K) | assumption | skip))
            (refine post_a hres (.inl rfl) ?_; simp only [RSB, ENB, seval, tiAll, eC]; simp only [MAB, seval]; refine ⟨rfl, rfl, ?_, ?_, ?_⟩ <;> (first | rfl | (simp [WKB, Nat.add_comm, eC]; done) | (simp only [WKB, seval])))
          · rw [if_neg hz] at eC
            (have gx := @List.length_map.{0,0}; have q1 := k6; have q2 := k4; refine go ?_; (repeat' first | exact Ef.mk | apply Lf.mk | refine fun (K : KT) hK hE hT => ?_ | refine fun (KS : KE) hKS => ?_ | refine fun (D : KD) hD => ?_ | refine fun (hg : (_ : Prop)) => ?_ | fail); all_goals (first | (refine Wr.mk ?_; (try clear gx q1 q2); repeat first | clear hK hE hT K | clear hR hE hT K) | assumption | skip))
            (refine post_a hres (.inl rfl) ?_; simp only [RSB, ENB, seval, tiAll, eC]; simp only [MAB, seval]; refine ⟨rfl, rfl, ?_, ?_, ?_⟩ <;> (first | rfl | (simp [WKB, Nat.add_comm, eC]; done) | (simp only [WKB, seval])))

noncomputable def mkDk (b : List UInt8) : DiskD := (dC b (newC b)).1
theorem mkDk_ok {b : List UInt8} (hb : b.length ≤ 1048576) : diskP (mkDk b) := (dC_gd hb (newC_le b)).1
set_option maxHeartbeats 2000000 in
theorem MakeDisk_k (b : List UInt8) (hb : b.length ≤ 1048576) : FnOK Try.prog 31 ⟨1, [(0, some (.ro (b.map bytK)))], [.c (.sl 0 1 0 b.length)], .agg [.v (.int .i64 (mkDk b).Room), .v (.int .i64 (mkDk b).Fuse), .sl 1 2 0 ((mkDk b).Files).length, .sl 2 4 0 ((mkDk b).Wait).length], [(1, some (.mix 95 (((mkDk b).Files).map (FileD.k 5)))), (2, some (.nst 66 (((mkDk b).Wait).map (FsOpD.k 5)) none))], 3⟩ := by
  have k0 := l01New_k b hb
  have kd := l02Draw_k b (newC b) hb (newC_le b)
  have e : (dC b (newC b)).1 = mkDk b := rfl
  rw [e] at kd
  refine fnOK_of true mixed Try.func31 rfl (by rfl) (by rfl) ?_
  have hres := congrArg Array.toList Try.results31
  simp only [Try.ntmps31, BGB, seval]
  (have gx := @List.length_map.{0,0}; have q1 := k0; have q2 := kd; refine go ?_; (repeat' first | exact Ef.mk | apply Lf.mk | refine fun (K : KT) hK hE hT => ?_ | refine fun (KS : KE) hKS => ?_ | refine fun (D : KD) hD => ?_ | refine fun (hg : (_ : Prop)) => ?_ | fail); all_goals (first | (refine Wr.mk ?_; (try clear gx q1 q2); repeat first | clear hK hE hT K | clear hR hE hT K) | assumption | skip))
  (refine post_a hres (.inl rfl) ?_; simp only [RSB, ENB, seval, tiAll, true_and]; simp only [MAB, seval]; refine ⟨rfl, rfl, ?_, ?_, ?_⟩ <;> (first | rfl | (simp [WKB, Nat.add_comm, true_and]; done) | (simp only [WKB, seval])))

end Go.Proofs.Ytfnhchcgieeedaa

namespace Go.Proofs.Ytfnhchcgieeedaa
set_option linter.unusedSimpArgs false
set_option linter.unusedVariables false
set_option linter.defProp false
set_option maxRecDepth 20000
open Go.RowKit

set_option maxHeartbeats 4000000 in
theorem sameFiles_k (l : List FileD) (h : l.length ≤ 1048576) (hd : ∀ f ∈ l, f.Data.length ≤ 1048576) : FnOK Try.prog 37 ⟨2, [(0, some (.ro (l.map (FileD.k 5)))), (1, some (.ro (l.map (FileD.k 5))))], [.c (.sl 0 2 0 l.length), .c (.sl 1 2 0 l.length)], .c (.v (.bool true)), [], 2⟩ := by
  refine fnOK_of true mixed Try.func37 rfl (by rfl) (by rfl) ?_
  have hres := congrArg Array.toList Try.results37
  simp only [Try.ntmps37, BGB, seval]
  (have gx := @List.length_map.{0,0}; refine go ?_; (repeat' first | exact Ef.mk | apply Lf.mk | refine fun (K : KT) hK hE hT => ?_ | refine fun (KS : KE) hKS => ?_ | refine fun (D : KD) hD => ?_ | refine fun (hg : (_ : Prop)) => ?_ | fail); all_goals (first | (refine Wr.mk ?_; (try clear gx); repeat first | clear hK hE hT K | clear hR hE hT K) | assumption | skip))
  refine loop_v (X := {k : Nat // k ≤ l.length}) [] (fun x => [(13, .c (.v (.int .i64 ((x.1 : Nat) : Int))))]) (fun x => [(0, some (.ro (l.map (FileD.k 5)))), (1, some (.ro (l.map (FileD.k 5))))]) 2 (fun x => l.length - x.1) ⟨0, by omega⟩ ?_
  simp only [KPB, seval]
  refine ⟨?_, ?_⟩
  · (refine wk_a ?_; simp only [MAB, seval]; refine ⟨rfl, rfl, (by decide), ?_, ?_⟩; all_goals (first | (simp only [WKB, seval, true_and]; done) | (simp [WKB, seval, true_and]; done) | simp only [WKB, seval]))
  · rintro ⟨k, hk⟩ K hR hE hT
    rcases Nat.lt_or_ge k l.length with hlt | hge
    case inr =>
      obtain rfl : k = l.length := by omega
      (have gx := @List.length_map.{0,0}; refine go ?_; (repeat' first | exact Ef.mk | apply Lf.mk | refine fun (K : KT) hK hE hT => ?_ | refine fun (KS : KE) hKS => ?_ | refine fun (D : KD) hD => ?_ | refine fun (hg : (_ : Prop)) => ?_ | fail); all_goals (first | (refine Wr.mk ?_; (try clear gx); repeat first | clear hK hE hT K | clear hR hE hT K) | assumption | skip))
      (refine post_a hres (.inl rfl) ?_; simp only [RSB, ENB, seval, tiAll, true_and]; simp only [MAB, seval]; refine ⟨rfl, rfl, ?_, ?_, ?_⟩ <;> (first | rfl | (simp [WKB, Nat.add_comm, true_and]; done) | (simp only [WKB, seval])))
    case inl =>
      have hdk := hd _ (List.getElem_mem hlt)
      obtain ⟨f, hf⟩ : ∃ f, f = l[k] := ⟨_, rfl⟩
      rw [← hf] at hdk
      have e1 : (f.Name == f.Name) = true := by simp
      have e2 : (f.Data == f.Data) = true := by simp
      have tF : List.take f.Data.length (List.map bytK f.Data) = List.map bytK f.Data := List.take_of_length_le (by rw [List.length_map]; exact Nat.le_refl _)
      (have gx := And.intro (@List.length_map.{0,0}) (And.intro (@List.getElem_map.{0,0}) (And.intro ((hf).symm) (And.intro (@FileD.k.eq_1) (And.intro (@txt_list) (And.intro (@e1) (And.intro @e2 @tF)))))); refine go ?_; (repeat' first | exact Ef.mk | apply Lf.mk | refine fun (K : KT) hK hE hT => ?_ | refine fun (KS : KE) hKS => ?_ | refine fun (D : KD) hD => ?_ | refine fun (hg : (_ : Prop)) => ?_ | fail); all_goals (first | (refine Wr.mk ?_; (try clear gx); repeat first | clear hK hE hT K | clear hR hE hT K) | assumption | skip))
      (refine hR.out ⟨k + 1, by omega⟩ _ _ _ (by simp only; omega) ?_; (refine wk_a ?_; simp only [MAB, seval]; refine ⟨rfl, rfl, (by decide), ?_, ?_⟩; all_goals (first | (simp only [WKB, seval, true_and]; done) | (simp [WKB, seval, true_and]; done) | simp only [WKB, seval])))

end Go.Proofs.Ytfnhchcgieeedaa

namespace Go.Proofs.Ytfnhchcgieeedaa
set_option linter.unusedSimpArgs false
set_option linter.unusedVariables false
set_option linter.defProp false
set_option maxRecDepth 20000
open Go.RowKit

/-- The disk behind the first k operations. -/
noncomputable def plD (d : DiskD) (l : List FsOpD) (k : Nat) : DiskD := (l.take k).foldl (fun d o => (doR d o).1) d
theorem plD_zero (d : DiskD) (l : List FsOpD) : plD d l 0 = d := by simp [plD]
theorem plD_succ {d : DiskD} {l : List FsOpD} {k : Nat} (h : k < l.length) : plD d l (k + 1) = (doR (plD d l k) l[k]).1 := by
  unfold plD
  rw [List.take_succ_eq_append_getElem h, List.foldl_append]
  rfl
theorem plD_ok {d : DiskD} (h : diskP d) {l : List FsOpD} : ∀ {k : Nat}, k ≤ l.length → diskP (plD d l k)
  | 0, _ => by rw [plD_zero]; exact h
  | k + 1, hk => by rw [plD_succ (by omega)]; exact doR_ok _ _
theorem crF_all {d : DiskD} (h : diskP d) : crF d 99 0 = seenF d := by
  have h1 := h.1
  unfold hdD at h1
  have e : clF 99 d.Wait.length = d.Wait.length := by unfold clF; omega
  rw [crF_end (by omega), e]
  rfl
theorem mkOps_facts (b : List UInt8) : (mkOps b).length ≤ 8 ∧ ∀ o ∈ mkOps b, opO o = true := by
  have r1 := bwV_rng b (offC b 17) (n := 9) (by decide)
  unfold mkOps
  rw [opsV_len]
  exact ⟨by omega, opsV_ok _ _ _⟩

set_option maxHeartbeats 64000000 in
theorem FnDisk_k (b : List UInt8) (rb : b.length ≤ maxLen ∧ ∀ y ∈ b, (fun _ => True) y) : FnOK Try.prog 7 ⟨1, [(0, some (.ro (b.map bytK)))], [.c (.sl 0 1 0 b.length)], .c (.v (.bool true)), [], 1⟩ := by
  have q := rb.1
  simp only [maxLen] at q
  rcases Nat.lt_or_ge 1048576 b.length with h | h
  · have h0 := h
    refine fnOK_of true mixed Try.func7 rfl (by rfl) (by rfl) ?_
    have hres := congrArg Array.toList Try.results7
    simp only [Try.ntmps7, BGB, seval]
    (have gx := And.intro (@List.length_map.{0,0}) (And.intro @List.getElem_map.{0,0} @bytK.eq_1); refine go ?_; (repeat' first | exact Ef.mk | apply Lf.mk | refine fun (K : KT) hK hE hT => ?_ | refine fun (KS : KE) hKS => ?_ | refine fun (D : KD) hD => ?_ | refine fun (hg : (_ : Prop)) => ?_ | fail); all_goals (first | (refine Wr.mk ?_; (try clear gx); repeat first | clear hK hE hT K | clear hR hE hT K) | assumption | skip))
    (refine post_a hres (.inl rfl) ?_; simp only [RSB, ENB, seval, tiAll, true_and]; simp only [MAB, seval]; refine ⟨rfl, rfl, ?_, ?_, ?_⟩ <;> (first | rfl | (simp [WKB, Nat.add_comm, true_and]; done) | (simp only [WKB, seval])))
  · have km := MakeDisk_k b h
    have ko := MakeOps_k b h
    have kc := MakeCut_k b h
    have hd0 := mkDk_ok h
    obtain ⟨ho1, ho2⟩ := mkOps_facts b
    obtain ⟨d0, hd0e⟩ : ∃ d, d = mkDk b := ⟨_, rfl⟩
    rw [← hd0e] at km hd0
    obtain ⟨O, hO⟩ : ∃ O, O = mkOps b := ⟨_, rfl⟩
    rw [← hO] at ko ho1 ho2
    obtain ⟨n, hn⟩ : ∃ n, n = cutN b := ⟨_, rfl⟩
    obtain ⟨m, hm⟩ : ∃ m, m = cutK b := ⟨_, rfl⟩
    rw [← hn, ← hm] at kc
    refine fnOK_of true mixed Try.func7 rfl (by rfl) (by rfl) ?_
    have hres := congrArg Array.toList Try.results7
    simp only [Try.ntmps7, BGB, seval]
    (have gx := And.intro (@List.length_map.{0,0}) (And.intro @List.getElem_map.{0,0} @bytK.eq_1); have q1 := km; have q2 := ko; refine go ?_; (repeat' first | exact Ef.mk | apply Lf.mk | refine fun (K : KT) hK hE hT => ?_ | refine fun (KS : KE) hKS => ?_ | refine fun (D : KD) hD => ?_ | refine fun (hg : (_ : Prop)) => ?_ | fail); all_goals (first | (refine Wr.mk ?_; (try clear gx q1 q2); repeat first | clear hK hE hT K | clear hR hE hT K) | assumption | skip))
    refine loop_v (X := {k : Nat // k ≤ O.length}) [22] (fun x => [(26, .c (.v (.int .i64 ((x.1 : Nat) : Int))))]) (fun x => [(0, some (.ro (b.map bytK))), (4, some (.ro (O.map (FsOpD.k 5)))), (1, some (.mix 95 (((plD d0 O x.1).Files).map (FileD.k 5)))), (2, some (.nst 66 (((plD d0 O x.1).Wait).map (FsOpD.k 5)) none)), (3, some (.box 50 [.v (.int .i64 (plD d0 O x.1).Room), .v (.int .i64 (plD d0 O x.1).Fuse), .sl 1 2 0 ((plD d0 O x.1).Files).length, .sl 2 4 0 ((plD d0 O x.1).Wait).length]))]) 5 (fun x => O.length - x.1) ⟨0, by omega⟩ ?_
    simp only [KPB, seval]
    refine ⟨?_, ?_⟩
    · refine Wk.trans (wk_freezeG (g := 4) rfl (.inr (.inl ⟨_, rfl⟩)) (by decide)) ?_
      simp only [EVB, seval]
      (refine wk_a ?_; simp only [MAB, seval]; refine ⟨rfl, rfl, (by decide), ?_, ?_⟩; all_goals (first | (simp only [WKB, seval, plD_zero]; done) | (simp [WKB, seval, plD_zero]; done) | simp only [WKB, seval]))
    · rintro ⟨k, hk⟩ K hR hE hT
      rcases Nat.lt_or_ge k O.length with hlt | hge
      case inl =>
        have hp := plD_ok (l := O) hd0 hk
        have es := plD_succ (d := d0) hlt
        have hop := ho2 _ (List.getElem_mem hlt)
        obtain ⟨o, hoe⟩ : ∃ o, o = O[k] := ⟨_, rfl⟩
        obtain ⟨d, hd⟩ : ∃ d, d = plD d0 O k := ⟨_, rfl⟩
        rw [← hoe] at hop es
        rw [← hd] at hp es
        simp only [← hd]
        have hol := opO_len hop
        have ki := implDiskDo_k d o (diskP_sz hp) (by omega) (by omega) (by omega)
        have ks := specDiskDo_k d o (diskP_sz hp) (by omega) (by omega) (by omega)
        have hr := doR_ok d o
        obtain ⟨r, hre⟩ : ∃ r, r = doR d o := ⟨_, rfl⟩
        rw [← hre] at ki ks hr es
        have kq := implDiskOk_k r.1 (diskP_sz hr)
        rw [diskO_y hr] at kq
        (have gx := And.intro (@List.length_map.{0,0}) (And.intro (@List.getElem_map.{0,0}) (And.intro (hoe).symm @FsOpD.k.eq_1)); have q1 := ki; have q2 := ks; have q3 := kq; refine go ?_; (repeat' first | exact Ef.mk | apply Lf.mk | refine fun (K : KT) hK hE hT => ?_ | refine fun (KS : KE) hKS => ?_ | refine fun (D : KD) hD => ?_ | refine fun (hg : (_ : Prop)) => ?_ | fail); all_goals (first | (refine Wr.mk ?_; (try clear gx q1 q2 q3); repeat first | clear hK hE hT K | clear hR hE hT K) | assumption | skip))
        refine hR.out ⟨k + 1, by omega⟩ _ _ _ (by simp only; omega) ?_
        refine Wk.trans (wk_nm (g := 7) rfl) ?_
        simp only [EVB, seval]
        (refine wk_a ?_; simp only [MAB, seval]; refine ⟨rfl, rfl, (by decide), ?_, ?_⟩; all_goals (first | (simp only [WKB, seval, es]; done) | (simp [WKB, seval, es]; done) | simp only [WKB, seval]))
      case inr =>
        obtain rfl : k = O.length := by omega
        have hp := plD_ok (l := O) hd0 (Nat.le_refl _)
        obtain ⟨d, hd⟩ : ∃ d, d = plD d0 O O.length := ⟨_, rfl⟩
        rw [← hd] at hp
        simp only [← hd]
        have hz := diskP_sz hp
        have kn := implDiskCrash_k d n m hz
        have ka := implDiskCrash_k d 99 0 hz
        have hcr := crR_ok d n m
        rw [diskO_y hp] at kn ka
        rw [crR_y hp] at kn ka hcr
        rw [crF_all hp] at ka
        have kq := implDiskOk_k _ (diskP_sz hcr)
        rw [diskO_y hcr] at kq
        have kz := specSeen_k d hz
        rw [seenR_y hp] at kz
        have ky := implDiskSync_k d hz
        have hsy := syR_ok d
        obtain ⟨s1, s2, s3, s4⟩ := stF_ok hp (Nat.le_refl _)
        obtain ⟨M, hM⟩ : ∃ M, M = seenF d := ⟨_, rfl⟩
        have s2 : M.length ≤ 72 := by rw [hM]; exact s2
        have s4 : ∀ f ∈ M, f.Data.length ≤ 1048576 := by rw [hM]; intro f hf; have := s4 f hf; omega
        rw [← hM] at ka kz
        have ke := sameFiles_k M (by omega) s4
        obtain ⟨C, hC⟩ : ∃ C, C = crF d n m := ⟨_, rfl⟩
        rw [← hC] at kn kq
        dsimp only at kn ka kq
        by_cases h0 : d.Fuse = 0
        · rw [syR_z hp h0, syC_z hp h0] at ky
          repeat' ((fail_if_success with_reducible refine hand_k (id := 13) ?_); (first | (with_reducible first | refine seq_k fun K hK hE hT => ?_ | refine block_k fun K hK hE hT => ?_ | refine lex_nil ?_ | fail) | ((with_reducible refine region_k ?_); simp only [dstsOf, EVB, seval]) | ((with_reducible refine draw_k ?_ fun D hD => ?_); (focus (first | rfl | kernel_rfl)); simp only [dstsOf, EVB, seval]) | ((with_reducible first | refine lex_move ?_ | refine lex_assign ?_); simp only [EVB, seval]) | (with_reducible first | refine lex_cons fun KS hKS => ?_ | refine lexd_cons fun KS hKS => ?_ | refine skip_k ?_ | refine exit_k ?_ | refine ret_k ?_ | fail) | ((with_reducible refine call_go ?_); fail) | ((with_reducible refine step_go ?_); (fail_if_success with_reducible refine call_go ?_); simp only [ENB, seval, tiAll, List.length_map]) | ((with_reducible refine lexd_nil ?_ ?_); (focus (refine hD _ ?_; first | kernel_rfl | with_unfolding_all rfl)); clear hD; clear D) | ((with_reducible refine guard_go ?_); refine lex_gone rfl rfl ?_; simp only [EVB, seval]) | ((with_reducible refine guardd_go ?_); refine lexd_gone rfl rfl ?_; simp only [EVB, seval]) | ((first | ((with_reducible refine guard_go ?_); refine lex_guard rfl rfl (fun hg KS hKS => ?_) (fun hg => ?_)) | ((with_reducible refine guardd_go ?_); refine lexd_guard rfl rfl (fun hg KS hKS => ?_) (fun hg => ?_)) | ((with_reducible refine cond_go ?_); refine cond_k rfl (fun hg => ?_) (fun hg => ?_)) | (with_reducible refine And.intro (fun hg => ?_) (fun hg => ?_)) | fail) <;> first | ((with_reducible exfalso); exact absurd hg (by decide)) | ((try simp only [CNL] at hg) <;> first | ((with_reducible exfalso); omega) | ((with_reducible exfalso); first | exact tf (by assumption) hg | exact tf hg (by assumption)) | ((try with_reducible (have hT0 : True := hg; clear hT0 hg)); first | (with_reducible refine wpc_go ?_) | (try simp only [EVB, seval])))) | ((with_reducible refine hKS _ _ _ _ ?_); clear hKS; clear KS; simp only [EVB, seval]) | ((with_reducible refine And.intro ?_ ?_); focus (first | omega | exact u8_le _ | exact flat_intK _ | exact flat_bytK _ | (fail) | decide | (simp only [List.length_map]; done))) | ((with_reducible refine ex_p ?_ (fun hh => ?_)); focus (first | omega | (simp only [List.length_map]; omega))) | ((with_reducible refine hK _ _ _ ?_); clear hK hE hT; clear K) | ((with_reducible first | refine hE _ _ _ _ ?_ | refine hT _ _ _ ?_ | fail); (first | (clear hK hE hT; clear K) | (clear hR hE hT; clear K) | skip); try simp only [IFB, seval]) | ((with_reducible apply_assumption -symm -exfalso); try simp only [IFB, seval]) | fail))
          refine region_w (wk_freezeG (g := 1) rfl (.inr (.inr ⟨_, rfl⟩)) (by decide)) ?_
          simp only [EVB, seval]
          refine region_w (wk_freezeG (g := 2) rfl (.inr (.inl ⟨_, rfl⟩)) (by decide)) ?_
          simp only [EVB, seval]
          (have gx := And.intro @List.length_map.{0,0} @h0; have q1 := kc; have q2 := kn; have q3 := ka; have q4 := kq; have q5 := kz; have q6 := ke; have q7 := ky; refine go ?_; (repeat' first | exact Ef.mk | apply Lf.mk | refine fun (K : KT) hK hE hT => ?_ | refine fun (KS : KE) hKS => ?_ | refine fun (D : KD) hD => ?_ | refine fun (hg : (_ : Prop)) => ?_ | fail); all_goals (first | (refine Wr.mk ?_; (try clear gx q1 q2 q3 q4 q5 q6 q7); repeat first | clear hK hE hT K | clear hR hE hT K) | assumption | skip))
          all_goals (refine post_a hres (.inl rfl) ?_; simp only [RSB, ENB, seval, tiAll, true_and]; simp only [MAB, seval]; refine ⟨rfl, rfl, ?_, ?_, ?_⟩ <;> (first | rfl | (simp [WKB, Nat.add_comm, true_and]; done) | (simp only [WKB, seval])))
        · rw [syR_y hp h0, ← hM] at ky hsy
          rw [syC_y hp h0] at ky
          have ki := implSeen_k _ (diskP_sz hsy)
          have em : seenR ⟨d.Room, brn d.Fuse, M, []⟩ = M := by
            rw [seenR_y hsy]
            show stF M [] 0 = M
            exact stF_zero M []
          rw [em] at ki
          dsimp only at ki ky
          repeat' ((fail_if_success with_reducible refine hand_k (id := 13) ?_); (first | (with_reducible first | refine seq_k fun K hK hE hT => ?_ | refine block_k fun K hK hE hT => ?_ | refine lex_nil ?_ | fail) | ((with_reducible refine region_k ?_); simp only [dstsOf, EVB, seval]) | ((with_reducible refine draw_k ?_ fun D hD => ?_); (focus (first | rfl | kernel_rfl)); simp only [dstsOf, EVB, seval]) | ((with_reducible first | refine lex_move ?_ | refine lex_assign ?_); simp only [EVB, seval]) | (with_reducible first | refine lex_cons fun KS hKS => ?_ | refine lexd_cons fun KS hKS => ?_ | refine skip_k ?_ | refine exit_k ?_ | refine ret_k ?_ | fail) | ((with_reducible refine call_go ?_); fail) | ((with_reducible refine step_go ?_); (fail_if_success with_reducible refine call_go ?_); simp only [ENB, seval, tiAll, List.length_map]) | ((with_reducible refine lexd_nil ?_ ?_); (focus (refine hD _ ?_; first | kernel_rfl | with_unfolding_all rfl)); clear hD; clear D) | ((with_reducible refine guard_go ?_); refine lex_gone rfl rfl ?_; simp only [EVB, seval]) | ((with_reducible refine guardd_go ?_); refine lexd_gone rfl rfl ?_; simp only [EVB, seval]) | ((first | ((with_reducible refine guard_go ?_); refine lex_guard rfl rfl (fun hg KS hKS => ?_) (fun hg => ?_)) | ((with_reducible refine guardd_go ?_); refine lexd_guard rfl rfl (fun hg KS hKS => ?_) (fun hg => ?_)) | ((with_reducible refine cond_go ?_); refine cond_k rfl (fun hg => ?_) (fun hg => ?_)) | (with_reducible refine And.intro (fun hg => ?_) (fun hg => ?_)) | fail) <;> first | ((with_reducible exfalso); exact absurd hg (by decide)) | ((try simp only [CNL] at hg) <;> first | ((with_reducible exfalso); omega) | ((with_reducible exfalso); first | exact tf (by assumption) hg | exact tf hg (by assumption)) | ((try with_reducible (have hT0 : True := hg; clear hT0 hg)); first | (with_reducible refine wpc_go ?_) | (try simp only [EVB, seval])))) | ((with_reducible refine hKS _ _ _ _ ?_); clear hKS; clear KS; simp only [EVB, seval]) | ((with_reducible refine And.intro ?_ ?_); focus (first | omega | exact u8_le _ | exact flat_intK _ | exact flat_bytK _ | (fail) | decide | (simp only [List.length_map]; done))) | ((with_reducible refine ex_p ?_ (fun hh => ?_)); focus (first | omega | (simp only [List.length_map]; omega))) | ((with_reducible refine hK _ _ _ ?_); clear hK hE hT; clear K) | ((with_reducible first | refine hE _ _ _ _ ?_ | refine hT _ _ _ ?_ | fail); (first | (clear hK hE hT; clear K) | (clear hR hE hT; clear K) | skip); try simp only [IFB, seval]) | ((with_reducible apply_assumption -symm -exfalso); try simp only [IFB, seval]) | fail))
          refine region_w (wk_freezeG (g := 1) rfl (.inr (.inr ⟨_, rfl⟩)) (by decide)) ?_
          simp only [EVB, seval]
          refine region_w (wk_freezeG (g := 2) rfl (.inr (.inl ⟨_, rfl⟩)) (by decide)) ?_
          simp only [EVB, seval]
          (have gx := @List.length_map.{0,0}; have q1 := kc; have q2 := kn; have q3 := ka; have q4 := kq; have q5 := kz; have q6 := ke; have q7 := ky; have q8 := ki; refine go ?_; (repeat' first | exact Ef.mk | apply Lf.mk | refine fun (K : KT) hK hE hT => ?_ | refine fun (KS : KE) hKS => ?_ | refine fun (D : KD) hD => ?_ | refine fun (hg : (_ : Prop)) => ?_ | fail); all_goals (first | (refine Wr.mk ?_; (try clear gx q1 q2 q3 q4 q5 q6 q7 q8); repeat first | clear hK hE hT K | clear hR hE hT K) | assumption | skip))
          all_goals (refine post_a hres (.inl rfl) ?_; simp only [RSB, ENB, seval, tiAll, true_and]; simp only [MAB, seval]; refine ⟨rfl, rfl, ?_, ?_, ?_⟩ <;> (first | rfl | (simp [WKB, Nat.add_comm, true_and]; done) | (simp only [WKB, seval])))

end Go.Proofs.Ytfnhchcgieeedaa
