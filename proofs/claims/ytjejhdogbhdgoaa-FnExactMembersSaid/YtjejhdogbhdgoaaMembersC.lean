/-
  Contracts of Members, the program's and the reference's.
-/
import Derived.Test.YtjejhdogbhdgoaaSetLaws
namespace Go.Proofs.Ytjejhdogbhdgoaa
set_option linter.unusedSimpArgs false
set_option linter.unusedVariables false
open Go.RowKit

/-- The members below k, in order. -/
def memTo (l : List UInt8) : Nat → List Int
  | 0 => []
  | k + 1 => if bitAt l k = true then memTo l k ++ [(k : Int)] else memTo l k
def members (n : Int) (l : List UInt8) : List Int := if setOk n l = true then memTo l n.toNat else []

theorem memTo_len (l : List UInt8) : ∀ k, (memTo l k).length ≤ k
  | 0 => by simp [memTo]
  | k + 1 => by
    have := memTo_len l k
    unfold memTo; split <;> simp <;> omega

theorem members_len (n : Int) (l : List UInt8) : (members n l).length ≤ 150 := by
  unfold members
  split
  · rename_i h
    obtain ⟨h0, h1, _⟩ := setOk_len h
    have := memTo_len l n.toNat
    omega
  · simp

set_option maxHeartbeats 1000000 in
theorem implMembers (S : Nat → Prop) (n : Int) (a : Option Addr) (cap : Nat) (l : List UInt8) (w : World) (h : Sl bC S w a cap l) (hl : l.length ≤ 1048576) :
    Calls Try.prog 41 #[.agg #[.int .i64 n, .slice a l.length cap]] w fun r w' => ∃ a' cap', r = .returned (.slice a' (members n l).length cap') ∧ Own iC 3 (w.heap.size ≤ ·) w' a' cap' (members n l) ∧ Below w.heap.size w w' := by
  by_cases h1 : setOk n l = true
  case neg =>
    have H1 := Lib.hid (show setOk n l = false by simpa using h1)
    clear h1
    have e : members n l = [] := by simp [members, H1.out]
    rw [e]
    go_enter Try.func41, Try.ntmps41
    go_wp2_with fail
    refine (implSetOk_no _ _ _ _ _ _ (h.below (by repeat (first | exact Below.refl _ _ | assumption | refine Below.step ?_ (by assumption) | refine Below.drew ?_ | refine Below.drewN ?_ _ | refine Below.alloc ?_ (by first | omega | (simp only [World.size_alloc, size_setCell, size_drew, size_drewN]; omega)) _ | refine Below.setCell ?_ (by first | (dsimp only; omega) | (simp only [World.size_alloc, size_setCell, size_drew, size_drewN]; omega)) _))) hl H1.out).mono ?_
    rintro _ w1 ⟨rfl, hb1⟩
    obtain ⟨hc1, hf1⟩ := bcell hb1
    have hz1 := hb1.size
    try simp only [World.size_alloc, size_setCell, size_drew, size_drewN] at hz1
    have hz1x0 : w.heap.size < w1.heap.size := by omega
    go_wp2
    go_ret
    exact ⟨none, 0, rfl, Own.nil, (by repeat (first | exact Below.refl _ _ | assumption | refine Below.step ?_ (by assumption) | refine Below.drew ?_ | refine Below.drewN ?_ _ | refine Below.alloc ?_ (by first | omega | (simp only [World.size_alloc, size_setCell, size_drew, size_drewN]; omega)) _ | refine Below.setCell ?_ (by first | (dsimp only; omega) | (simp only [World.size_alloc, size_setCell, size_drew, size_drewN]; omega)) _))⟩
  case pos =>
    obtain ⟨hn0, hn1, hn2⟩ := setOk_len h1
    obtain ⟨m, rfl⟩ := Int.eq_ofNat_of_zero_le hn0
    have e : members (m : Int) l = memTo l m := by simp [members, h1]
    rw [e]
    have H1 := Lib.hid h1
    have HN := Lib.hid hn2
    clear h1 hn2 e
    go_enter Try.func41, Try.ntmps41
    go_wp2_with fail
    obtain ⟨W0, hW0⟩ : ∃ W0, W0 = w.alloc (Obj.cells #[Value.int IntKind.i64 (m : Int), Value.slice a l.length cap] 45) := ⟨_, rfl⟩
    have db : Below w.heap.size w W0 := by rw [hW0]; exact (by repeat (first | exact Below.refl _ _ | assumption | refine Below.step ?_ (by assumption) | refine Below.drew ?_ | refine Below.drewN ?_ _ | refine Below.alloc ?_ (by first | omega | (simp only [World.size_alloc, size_setCell, size_drew, size_drewN]; omega)) _ | refine Below.setCell ?_ (by first | (dsimp only; omega) | (simp only [World.size_alloc, size_setCell, size_drew, size_drewN]; omega)) _))
    have dz := db.size
    have f0 : W0.cell? ⟨w.heap.size, 0, none⟩ = some (.int .i64 (m : Int)) := by rw [hW0]; simp [go_sem]
    have f1 : W0.cell? ⟨w.heap.size, 1, none⟩ = some (.slice a l.length cap) := by rw [hW0]; simp [go_sem]
    have hz0 : w.heap.size < W0.heap.size := by rw [hW0]; simp
    rw [← hW0]
    clear hW0
    refine (implSetOk_yes _ _ _ _ _ _ (h.below db) hl H1.out).mono ?_
    rintro _ w1 ⟨rfl, hb1⟩
    replace f0 := cell_below hb1 f0
    replace f1 := cell_below hb1 f1
    have hB := Below.step db hb1
    have hz1 := hb1.size
    obtain ⟨base, hbase⟩ : ∃ base, base = w1.heap.size := ⟨_, rfl⟩
    have hb1' : w.heap.size < base := by omega
    have hbl1 : base ≤ w1.heap.size := by omega
    clear hbase hb1 db
    go_wp2_with fail
    go_loopw [3, 4, 10] (fun s _ i wr => ∃ (k : Nat) (a' : Option Addr) (cap' : Nat), k ≤ m ∧ i = .int .i64 k ∧ s = .slice a' (memTo l k).length cap' ∧ Own iC 3 (base ≤ ·) wr a' cap' (memTo l k) ∧ Below base w1 wr)
      (fun _ _ i _ => m - (intOf i).toNat)
    case atStart => exact ⟨0, none, 0, Nat.zero_le _, rfl, rfl, Own.nil, Below.refl _ _⟩
    case round =>
      obtain ⟨k, a', cap', hk, rfl, rfl, ho, hbl⟩ := hrel
      have r0 : wr.cell? ⟨w.heap.size, 0, none⟩ = some (.int .i64 (m : Int)) := (hbl.cell (p := ⟨w.heap.size, 0, none⟩) hb1').trans f0
      have r1 : wr.cell? ⟨w.heap.size, 1, none⟩ = some (.slice a l.length cap) := (hbl.cell (p := ⟨w.heap.size, 1, none⟩) hb1').trans f1
      have hBr : Below w.heap.size w wr := hB.trans (hbl.mono (by omega))
      have hbs : base ≤ wr.heap.size := Nat.le_trans hbl1 hbl.size
      have hml := memTo_len l k
      by_cases hlt : k < m
      · have hk8 : k / 8 < l.length := by have := HN.out; simp at this; omega
        by_cases hbit : bitAt l k = true
        · have HB := Lib.hid (show memTo l (k + 1) = memTo l k ++ [(k : Int)] by rw [memTo, if_pos hbit])
          have hbe := Lib.hid hbit
          clear hbit
          go_wp2_with fail
          refine (implHas_ _ _ _ _ _ _ (h.below hBr) k hk8 (by omega)).mono ?_
          rintro _ w2 ⟨rfl, hb2⟩
          rw [hbe.out]
          have hb2s := hb2.size
          have ho2 := ho.below hb2
          go_wp2_with (at_builtin; go_must (refine wpList_push rfl _ _ 56 rfl base 3 _ _ Try.underlying56 infoI64 rfl a' cap' (memTo l k) rfl (ho2.alloc _) w2.heap.size 1 (k : Int) rfl (by simp [go_sem, iC]) iC_one (by omega) (by unfold maxLen; omega) (by unfold maxLen; omega) (by omega) (by simp only [World.size_alloc]; omega) ?_; intro a3 c3 w3 ho3 hg3))
          go_roundw
          case rel => exact ⟨k + 1, a3, c3, by omega, by go_num, by rw [HB.out]; simp, by rw [HB.out]; exact ho3, hbl.trans ((hb2.mono (by omega)).trans (((Below.refl _ _).alloc (by omega) _).trans hg3.below))⟩
          case measure => simp [intOf]; omega
        · have hbit : bitAt l k = false := by simpa using hbit
          have HB := Lib.hid (show memTo l (k + 1) = memTo l k by rw [memTo, if_neg (by simp [hbit])])
          have hbe := Lib.hid hbit
          clear hbit
          go_wp2_with fail
          refine (implHas_ _ _ _ _ _ _ (h.below hBr) k hk8 (by omega)).mono ?_
          rintro _ w2 ⟨rfl, hb2⟩
          rw [hbe.out]
          have ho2 := ho.below hb2
          go_wp2
          go_roundw
          case rel => exact ⟨k + 1, a', cap', by omega, by go_num, by rw [HB.out], by rw [HB.out]; exact ho2, hbl.trans (hb2.mono (by omega))⟩
          case measure => simp [intOf]; omega
      · obtain rfl : k = m := by omega
        go_wp2
        go_ret
        exact ⟨a', cap', rfl, ho.mono (fun b _ hb => by omega), hBr⟩

set_option maxHeartbeats 1000000 in
theorem specMembers (S : Nat → Prop) (n : Int) (a : Option Addr) (cap : Nat) (l : List UInt8) (w : World) (h : Sl bC S w a cap l) (hl : l.length ≤ 1048576) :
    Calls Try.prog 40 #[.agg #[.int .i64 n, .slice a l.length cap]] w fun r w' => ∃ a' cap', r = .returned (.slice a' (members n l).length cap') ∧ Own iC 3 (w.heap.size ≤ ·) w' a' cap' (members n l) ∧ Below w.heap.size w w' := by
  have hlit := Own.lit (enc := iC) (e := 3) (w := w.alloc (Obj.cells #[Value.int IntKind.i64 n, Value.slice a l.length cap] 45)) (w.heap.size + 1) (by simp)
  simp only [World.size_alloc] at hlit
  go_enter Try.func40, Try.ntmps40
  go_wp2
  obtain ⟨W0, hW0⟩ : ∃ W0, W0 = (w.alloc (Obj.cells #[Value.int IntKind.i64 n, Value.slice a l.length cap] 45)).alloc (Obj.cells #[] 3) := ⟨_, rfl⟩
  have db : Below w.heap.size w W0 := by rw [hW0]; exact (by repeat (first | exact Below.refl _ _ | assumption | refine Below.step ?_ (by assumption) | refine Below.drew ?_ | refine Below.drewN ?_ _ | refine Below.alloc ?_ (by first | omega | (simp only [World.size_alloc, size_setCell, size_drew, size_drewN]; omega)) _ | refine Below.setCell ?_ (by first | (dsimp only; omega) | (simp only [World.size_alloc, size_setCell, size_drew, size_drewN]; omega)) _))
  have dz := db.size
  have f0 : W0.cell? ⟨w.heap.size, 0, none⟩ = some (.int .i64 n) := by rw [hW0]; simp [go_sem]
  have f1 : W0.cell? ⟨w.heap.size, 1, none⟩ = some (.slice a l.length cap) := by rw [hW0]; simp [go_sem]
  have hz0 : w.heap.size + 1 < W0.heap.size := by rw [hW0]; simp
  rw [← hW0] at hlit ⊢
  clear hW0
  obtain ⟨base, hbase⟩ : ∃ base, base = w.heap.size + 1 := ⟨_, rfl⟩
  replace hlit : Own iC 3 (base ≤ ·) W0 (some ⟨w.heap.size + 1, 0, none⟩) 0 [] := hlit.mono (fun b _ hb => by omega)
  rw [← hbase] at hz0
  have hb1' : w.heap.size < base := by omega
  have HBS := Lib.hid hbase
  clear hbase
  by_cases h1 : setOk n l = true
  case neg =>
    have H1 := Lib.hid (show setOk n l = false by simpa using h1)
    clear h1
    have HE := Lib.hid (show members n l = [] by simp [members, H1.out])
    by_cases hn : 0 < n
    · refine wp_loop_rounds 1 ?_
      rw [rounds_succ]
      go_wp2_with fail
      refine (specSetOk_no _ _ _ _ _ _ (h.below db) hl H1.out).mono ?_
      rintro _ w1 ⟨rfl, hb1⟩
      go_wp2
      go_ret
      rw [HE.out]
      exact ⟨_, 0, rfl, (hlit.below hb1).mono (fun b _ hb => by omega), Below.step db hb1⟩
    · refine wp_loop_rounds 1 ?_
      rw [rounds_succ]
      go_wp2
      go_ret
      rw [HE.out]
      exact ⟨_, 0, rfl, hlit.mono (fun b _ hb => by omega), db⟩
  case pos =>
    obtain ⟨hn0, hn1, hn2⟩ := setOk_len h1
    obtain ⟨m, rfl⟩ := Int.eq_ofNat_of_zero_le hn0
    have HE := Lib.hid (show members (m : Int) l = memTo l m by simp [members, h1])
    have H1 := Lib.hid h1
    have HN := Lib.hid hn2
    clear h1 hn2
    go_loopw [3, 4] (fun s i wr => ∃ (k : Nat) (a' : Option Addr) (cap' : Nat), k ≤ m ∧ i = .int .i64 k ∧ s = .slice a' (memTo l k).length cap' ∧ Own iC 3 (base ≤ ·) wr a' cap' (memTo l k) ∧ Below base W0 wr)
      (fun _ i _ => m - (intOf i).toNat)
    case atStart => exact ⟨0, _, 0, Nat.zero_le _, rfl, rfl, hlit, Below.refl _ _⟩
    case round =>
      obtain ⟨k, a', cap', hk, rfl, rfl, ho, hbl⟩ := hrel
      have r0 : wr.cell? ⟨w.heap.size, 0, none⟩ = some (.int .i64 (m : Int)) := (hbl.cell (p := ⟨w.heap.size, 0, none⟩) hb1').trans f0
      have r1 : wr.cell? ⟨w.heap.size, 1, none⟩ = some (.slice a l.length cap) := (hbl.cell (p := ⟨w.heap.size, 1, none⟩) hb1').trans f1
      have hBr : Below w.heap.size w wr := db.trans (hbl.mono (by omega))
      have hbs : base ≤ wr.heap.size := Nat.le_trans (by omega) hbl.size
      have hml := memTo_len l k
      by_cases hlt : k < m
      · have hk8 : k / 8 < l.length := by have := HN.out; simp at this; omega
        have HH := Lib.hid (show hasB (m : Int) l (k : Int) = bitAt l k by rw [Bool.eq_iff_iff]; simp [hasB, H1.out, hlt])
        go_wp2_with fail
        refine (specSetOk_yes _ _ _ _ _ _ (h.below hBr) hl H1.out).mono ?_
        rintro _ w1 ⟨rfl, hb1⟩
        replace r0 := cell_below hb1 r0
        replace r1 := cell_below hb1 r1
        replace ho := ho.below hb1
        have hb1s := hb1.size
        go_wp2_with fail
        refine (specHas _ _ _ _ _ _ _ ((h.below hBr).below hb1) hl).mono ?_
        rintro _ w2 ⟨rfl, hb2⟩
        rw [HH.out]
        have ho2 := ho.below hb2
        have hb2s := hb2.size
        have hbl2 : Below base W0 w2 := hbl.trans ((hb1.trans (hb2.mono hb1.size)).mono hbs)
        by_cases hbit : bitAt l k = true
        · have HB := Lib.hid (show memTo l (k + 1) = memTo l k ++ [(k : Int)] by rw [memTo, if_pos hbit])
          have hbe := Lib.hid hbit
          clear hbit
          rw [hbe.out]
          go_wp2_with (at_builtin; go_must (refine wpList_push rfl _ _ 56 rfl base 3 _ _ Try.underlying56 infoI64 rfl a' cap' (memTo l k) rfl (ho2.alloc _) w2.heap.size 1 (k : Int) rfl (by simp [go_sem, iC]) iC_one (by omega) (by unfold maxLen; omega) (by unfold maxLen; omega) (by omega) (by simp only [World.size_alloc]; omega) ?_; intro a3 c3 w3 ho3 hg3))
          go_roundw
          case rel => exact ⟨k + 1, a3, c3, by omega, by go_num, by rw [HB.out]; simp, by rw [HB.out]; exact ho3, hbl2.trans (((Below.refl _ _).alloc (by omega) _).trans hg3.below)⟩
          case measure => simp [intOf]; omega
        · have hbit : bitAt l k = false := by simpa using hbit
          have HB := Lib.hid (show memTo l (k + 1) = memTo l k by rw [memTo, if_neg (by simp [hbit])])
          have hbe := Lib.hid hbit
          clear hbit
          rw [hbe.out]
          go_wp2
          go_roundw
          case rel => exact ⟨k + 1, a', cap', by omega, by go_num, by rw [HB.out], by rw [HB.out]; exact ho2, hbl2⟩
          case measure => simp [intOf]; omega
      · obtain rfl : k = m := by omega
        go_wp2
        go_ret
        rw [HE.out]
        exact ⟨a', cap', rfl, ho.mono (fun b _ hb => by omega), hBr⟩

end Go.Proofs.Ytjejhdogbhdgoaa
