/-
  Contracts of Digest, the program's and the reference's.
-/
import Derived.Test.YtjejhdogbhdgoaaHasC
import Derived.Test.YtjejhdogbhdgoaaVar
import Derived.Test.YtjejhdogbhdgoaaCrc
import Derived.Deep.RegionHeld3
namespace Go.Proofs.Ytjejhdogbhdgoaa
set_option linter.unusedSimpArgs false
set_option linter.unusedVariables false
open Go.RowKit

def digest (n : Int) (l : List UInt8) : Int := if setOk n l = true then (crcN (varB n.toNat ++ l) : Nat) else -1

theorem implSetOk_no (S : Nat → Prop) (n : Int) (a : Option Addr) (cap : Nat) (l : List UInt8) (w : World) (h : Sl bC S w a cap l) (hl : l.length ≤ 1048576) (h1 : setOk n l = false) :
    Calls Try.prog 30 #[.agg #[.int .i64 n, .slice a l.length cap]] w fun r w' => r = .returned (.bool false) ∧ Below w.heap.size w w' := by
  have := implSetOk S n a cap l w h hl
  rwa [h1] at this

theorem implSetOk_yes (S : Nat → Prop) (n : Int) (a : Option Addr) (cap : Nat) (l : List UInt8) (w : World) (h : Sl bC S w a cap l) (hl : l.length ≤ 1048576) (h1 : setOk n l = true) :
    Calls Try.prog 30 #[.agg #[.int .i64 n, .slice a l.length cap]] w fun r w' => r = .returned (.bool true) ∧ Below w.heap.size w w' := by
  have := implSetOk S n a cap l w h hl
  rwa [h1] at this

set_option maxHeartbeats 1000000 in
theorem specDigest (S : Nat → Prop) (n : Int) (a : Option Addr) (cap : Nat) (l : List UInt8) (w : World) (h : Sl bC S w a cap l) (hl : l.length ≤ 1048576) :
    Calls Try.prog 38 #[.agg #[.int .i64 n, .slice a l.length cap]] w fun r w' => r = .returned (.int .i64 (digest n l)) ∧ Below w.heap.size w w' := by
  by_cases h1 : setOk n l = true
  case neg =>
    have H1 := Lib.hid (show setOk n l = false by simpa using h1)
    clear h1
    go_enter Try.func38, Try.ntmps38
    go_wp2_with fail
    refine (specSetOk_no _ _ _ _ _ _ (h.below (by repeat (first | exact Below.refl _ _ | assumption | refine Below.step ?_ (by assumption) | refine Below.drew ?_ | refine Below.drewN ?_ _ | refine Below.alloc ?_ (by first | omega | (simp only [World.size_alloc, size_setCell, size_drew, size_drewN]; omega)) _ | refine Below.setCell ?_ (by first | (dsimp only; omega) | (simp only [World.size_alloc, size_setCell, size_drew, size_drewN]; omega)) _))) hl H1.out).mono ?_
    rintro _ w1 ⟨rfl, hb1⟩
    obtain ⟨hc1, hf1⟩ := bcell hb1
    have hz1 := hb1.size
    try simp only [World.size_alloc, size_setCell, size_drew, size_drewN] at hz1
    have hz1x0 : w.heap.size < w1.heap.size := by omega
    go_wp2
    go_ret
    exact ⟨ret_int (by simp [digest, H1.out]), (by repeat (first | exact Below.refl _ _ | assumption | refine Below.step ?_ (by assumption) | refine Below.drew ?_ | refine Below.drewN ?_ _ | refine Below.alloc ?_ (by first | omega | (simp only [World.size_alloc, size_setCell, size_drew, size_drewN]; omega)) _ | refine Below.setCell ?_ (by first | (dsimp only; omega) | (simp only [World.size_alloc, size_setCell, size_drew, size_drewN]; omega)) _))⟩
  case pos =>
    obtain ⟨hn0, hn1, hn2⟩ := setOk_len h1
    obtain ⟨m, rfl⟩ := Int.eq_ofNat_of_zero_le hn0
    have H1 := Lib.hid h1
    have HN := Lib.hid hn2
    clear h1 hn2
    have hv := varB_len7 (n := m) (by omega)
    go_enter Try.func38, Try.ntmps38
    go_wp2_with fail
    refine (specSetOk_yes _ _ _ _ _ _ (h.below (by repeat (first | exact Below.refl _ _ | assumption | refine Below.step ?_ (by assumption) | refine Below.drew ?_ | refine Below.drewN ?_ _ | refine Below.alloc ?_ (by first | omega | (simp only [World.size_alloc, size_setCell, size_drew, size_drewN]; omega)) _ | refine Below.setCell ?_ (by first | (dsimp only; omega) | (simp only [World.size_alloc, size_setCell, size_drew, size_drewN]; omega)) _))) hl H1.out).mono ?_
    rintro _ w1 ⟨rfl, hb1⟩
    obtain ⟨hc1, hf1⟩ := bcell hb1
    have hz1 := hb1.size
    try simp only [World.size_alloc, size_setCell, size_drew, size_drewN] at hz1
    have hz1x0 : w.heap.size < w1.heap.size := by omega
    go_wp2_with fail
    refine (PutVar_c (fun _ => True) none 0 [] m _ ⟨by simp, Nat.zero_le _, fun _ => rfl, fun h => absurd rfl h⟩ (by simp) (by omega)).mono ?_
    rintro _ w2 ⟨a2, c2, rfl, ho2, hb2⟩
    simp only [List.nil_append] at ho2 ⊢
    obtain ⟨hc2, hf2⟩ := bcell hb2
    have hz2 := hb2.size
    have hz2x0 : w.heap.size < w2.heap.size := by omega
    have hl2 : Sl bC S w2 a cap l := ((h.alloc _).below hb1).below hb2
    go_wp2_with (at_builtin; go_must (refine wpList_join rfl _ _ 40 rfl w1.heap.size 5 _ _ Try.underlying40 infoU8 rfl a2 c2 (varB m) rfl ho2 S a cap l rfl hl2 bC_one (by unfold maxLen; omega) (by omega) (by omega) ?_; intro a3 c3 w3 ho3 hg3))
    have C := specCrc _ a3 c3 (varB m ++ l) w3 ho3.sl (by simp; omega)
    simp only [List.length_append] at C
    refine C.mono ?_
    rintro _ _ ⟨rfl, rfl⟩
    have hb3 := hg3.below
    go_wp2
    go_ret
    exact ⟨ret_int (by simp [digest, H1.out]), Below.step ((by repeat (first | exact Below.refl _ _ | assumption | refine Below.step ?_ (by assumption) | refine Below.drew ?_ | refine Below.drewN ?_ _ | refine Below.alloc ?_ (by first | omega | (simp only [World.size_alloc, size_setCell, size_drew, size_drewN]; omega)) _ | refine Below.setCell ?_ (by first | (dsimp only; omega) | (simp only [World.size_alloc, size_setCell, size_drew, size_drewN]; omega)) _))) (hb2.trans hb3)⟩

set_option maxHeartbeats 1000000 in
theorem implDigest (S : Nat → Prop) (n : Int) (a : Option Addr) (cap : Nat) (l : List UInt8) (w : World) (h : Sl bC S w a cap l) (hl : l.length ≤ 1048576) :
    Calls Try.prog 39 #[.agg #[.int .i64 n, .slice a l.length cap]] w fun r w' => r = .returned (.int .i64 (digest n l)) ∧ Below w.heap.size w w' := by
  by_cases h1 : setOk n l = true
  case neg =>
    have H1 := Lib.hid (show setOk n l = false by simpa using h1)
    clear h1
    go_enter Try.func39, Try.ntmps39
    go_wp2_with fail
    refine (implSetOk_no _ _ _ _ _ _ (h.below (by repeat (first | exact Below.refl _ _ | assumption | refine Below.step ?_ (by assumption) | refine Below.drew ?_ | refine Below.drewN ?_ _ | refine Below.alloc ?_ (by first | omega | (simp only [World.size_alloc, size_setCell, size_drew, size_drewN]; omega)) _ | refine Below.setCell ?_ (by first | (dsimp only; omega) | (simp only [World.size_alloc, size_setCell, size_drew, size_drewN]; omega)) _))) hl H1.out).mono ?_
    rintro _ w1 ⟨rfl, hb1⟩
    obtain ⟨hc1, hf1⟩ := bcell hb1
    have hz1 := hb1.size
    try simp only [World.size_alloc, size_setCell, size_drew, size_drewN] at hz1
    have hz1x0 : w.heap.size < w1.heap.size := by omega
    go_wp2
    go_ret
    exact ⟨ret_int (by simp [digest, H1.out]), (by repeat (first | exact Below.refl _ _ | assumption | refine Below.step ?_ (by assumption) | refine Below.drew ?_ | refine Below.drewN ?_ _ | refine Below.alloc ?_ (by first | omega | (simp only [World.size_alloc, size_setCell, size_drew, size_drewN]; omega)) _ | refine Below.setCell ?_ (by first | (dsimp only; omega) | (simp only [World.size_alloc, size_setCell, size_drew, size_drewN]; omega)) _))⟩
  case pos =>
    obtain ⟨hn0, hn1, hn2⟩ := setOk_len h1
    obtain ⟨m, rfl⟩ := Int.eq_ofNat_of_zero_le hn0
    have H1 := Lib.hid h1
    have HN := Lib.hid hn2
    clear h1 hn2
    have hv := varB_len7 (n := m) (by omega)
    go_enter Try.func39, Try.ntmps39
    go_wp2_with fail
    obtain ⟨W0, hW0⟩ : ∃ W0, W0 = w.alloc (Obj.cells #[Value.int IntKind.i64 (m : Int), Value.slice a l.length cap] 45) := ⟨_, rfl⟩
    have db : Below w.heap.size w W0 := by rw [hW0]; exact (by repeat (first | exact Below.refl _ _ | assumption | refine Below.step ?_ (by assumption) | refine Below.drew ?_ | refine Below.drewN ?_ _ | refine Below.alloc ?_ (by first | omega | (simp only [World.size_alloc, size_setCell, size_drew, size_drewN]; omega)) _ | refine Below.setCell ?_ (by first | (dsimp only; omega) | (simp only [World.size_alloc, size_setCell, size_drew, size_drewN]; omega)) _))
    have dz := db.size
    have f0 : W0.cell? ⟨w.heap.size, 0, none⟩ = some (.int .i64 (m : Int)) := by rw [hW0]; simp [go_sem]
    have f1 : W0.cell? ⟨w.heap.size, 1, none⟩ = some (.slice a l.length cap) := by rw [hW0]; simp [go_sem]
    rw [← hW0]
    clear hW0
    refine (implSetOk_yes _ _ _ _ _ _ (h.below db) hl H1.out).mono ?_
    rintro _ w1 ⟨rfl, hb1⟩
    replace f0 := cell_below hb1 f0
    replace f1 := cell_below hb1 f1
    have hl1 := (h.below db).below hb1
    have k2 : ∀ w', Below w1.heap.size w1.drew w' → (w'.cell? ⟨w.heap.size, 0, none⟩ = some (.int .i64 (m : Int)) ∧ w'.cell? ⟨w.heap.size, 1, none⟩ = some (.slice a l.length cap)) :=
      fun w' hb => ⟨cell_below (w := w1.drew) hb f0, cell_below (w := w1.drew) hb f1⟩
    have j2 : ∀ w2 a2 c2, Below w1.heap.size w1.drew w2 → Own bC 5 (w1.heap.size ≤ ·) w2 a2 c2 (varB m) → Sl bC S w2 a cap l ∧ w1.heap.size ≤ w2.heap.size :=
      fun w2 a2 c2 hb _ => ⟨Sl.below (w := w1.drew) hl1.drew1 hb, hb.size⟩
    have pv : ∀ w', w1.heap.size ≤ w'.heap.size → Calls Try.prog 66 #[.slice none 0 0, .int .i64 (m : Int)] w' fun r w2 => ∃ a' cap', r = .returned (.slice a' (varB m).length cap') ∧ Own bC 5 (w1.heap.size ≤ ·) w2 a' cap' (varB m) ∧ Below w1.heap.size w' w2 :=
      fun w' hw => putVar_c w1.heap.size none 0 [] m w' Own.nil (by simp) (by omega) hw
    have pc : ∀ w3 a3 c3, Own bC 5 (w1.heap.size ≤ ·) w3 a3 c3 (varB m ++ l) → Calls Try.prog 65 #[.slice a3 ((varB m).length + l.length) c3] w3 fun r w' => r = .returned (.int .i64 (crcN (varB m ++ l) : Nat)) ∧ w3 = w' := by
      intro w3 a3 c3 ho
      have C := implCrc _ a3 c3 (varB m ++ l) w3 ho.sl (by simp; omega)
      rwa [List.length_append] at C
    go_wp2_with fail
    go_region_held3 (fun w' => w'.cell? ⟨w.heap.size, 0, none⟩ = some (.int .i64 (m : Int)) ∧ w'.cell? ⟨w.heap.size, 1, none⟩ = some (.slice a l.length cap))
      (first
        | go_keep
        | exact k2 _ hb2
        | exact k2 _ (hb2.trans hg3.below))
      ((first
        | (go_at_call 66; refine (pv w1.drew (Nat.le_refl _)).mono ?_; rintro _ w2 ⟨a2, c2, rfl, ho2, hb2⟩)
        | (go_at_call 65; refine (pc _ _ _ ho3).mono ?_; rintro _ _ ⟨rfl, rfl⟩)
        | (refine step_join rfl _ _ 40 rfl w1.heap.size 5 _ _ Try.underlying40 infoU8 rfl a2 c2 (varB m) rfl ho2 S a cap l rfl (j2 _ _ _ hb2 ho2).1 bC_one (by unfold maxLen; omega) (by omega) (j2 _ _ _ hb2 ho2).2 ?_; intro a3 c3 w3 ho3 hg3)
        | fail))
    go_wp2
    go_ret
    exact ⟨ret_int (by simp [digest, H1.out]), Below.step db (hb1.trans ((((Below.refl _ _).drew).trans (hb2.trans hg3.below)).mono hb1.size))⟩

end Go.Proofs.Ytjejhdogbhdgoaa
