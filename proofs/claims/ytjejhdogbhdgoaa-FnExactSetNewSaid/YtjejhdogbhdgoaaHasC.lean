/-
  Contracts of Has, the program's and the reference's.
-/
import Derived.Test.YtjejhdogbhdgoaaSet
import Derived.Deep.RegionHeld3
namespace Go.Proofs.Ytjejhdogbhdgoaa
set_option linter.unusedSimpArgs false
set_option linter.unusedVariables false
open Go.RowKit

def hasB (n : Int) (l : List UInt8) (v : Int) : Bool := decide (setOk n l = true ∧ 0 ≤ v ∧ v < n ∧ bitAt l v.toNat = true)

theorem setOk_len {n : Int} {l : List UInt8} (h : setOk n l = true) : 0 ≤ n ∧ n ≤ 150 ∧ l.length = (n.toNat + 7) / 8 := by
  unfold setOk at h; simp at h; exact ⟨h.1, h.2.1, h.2.2.1⟩

set_option maxHeartbeats 1000000 in
theorem implHas (S : Nat → Prop) (n : Int) (a : Option Addr) (cap : Nat) (l : List UInt8) (v : Int) (w : World) (h : Sl bC S w a cap l) (hl : l.length ≤ 1048576) :
    Calls Try.prog 33 #[.agg #[.int .i64 n, .slice a l.length cap], .int .i64 v] w fun r w' => r = .returned (.bool (hasB n l v)) ∧ Below w.heap.size w w' := by
  by_cases h1 : setOk n l = true
  case neg =>
    have h1 : setOk n l = false := by simpa using h1
    go_enter Try.func33, Try.ntmps33
    go_wp2_with fail
    refine (implSetOk _ _ _ _ _ _ (h.below (by repeat (first | exact Below.refl _ _ | assumption | refine Below.step ?_ (by assumption) | refine Below.drew ?_ | refine Below.drewN ?_ _ | refine Below.alloc ?_ (by first | omega | (simp only [World.size_alloc, size_setCell, size_drew, size_drewN]; omega)) _ | refine Below.setCell ?_ (by first | (dsimp only; omega) | (simp only [World.size_alloc, size_setCell, size_drew, size_drewN]; omega)) _))) hl).mono ?_
    rintro _ w1 ⟨rfl, hb1⟩
    obtain ⟨hc1, hf1⟩ := bcell hb1
    have hz1 := hb1.size
    try simp only [World.size_alloc, size_setCell, size_drew, size_drewN] at hz1
    have hz1x0 : w.heap.size < w1.heap.size := by omega
    rw [h1]
    go_wp2
    go_ret
    exact ⟨ret_bool (by simp [hasB, h1]), (by repeat (first | exact Below.refl _ _ | assumption | refine Below.step ?_ (by assumption) | refine Below.drew ?_ | refine Below.drewN ?_ _ | refine Below.alloc ?_ (by first | omega | (simp only [World.size_alloc, size_setCell, size_drew, size_drewN]; omega)) _ | refine Below.setCell ?_ (by first | (dsimp only; omega) | (simp only [World.size_alloc, size_setCell, size_drew, size_drewN]; omega)) _))⟩
  case pos =>
    obtain ⟨hn0, hn1, hn2⟩ := setOk_len h1
    have H1 := Lib.hid h1
    have HN := Lib.hid hn2
    clear h1 hn2
    by_cases hv : 0 ≤ v ∧ v < n
    · obtain ⟨k, rfl⟩ := Int.eq_ofNat_of_zero_le hv.1
      have hkn : k / 8 < l.length := by have := HN.out; omega
      have hv2 := hv.2
      clear hv
      go_enter Try.func33, Try.ntmps33
      go_wp2_with fail
      refine (implSetOk _ _ _ _ _ _ (h.below (by repeat (first | exact Below.refl _ _ | assumption | refine Below.step ?_ (by assumption) | refine Below.drew ?_ | refine Below.drewN ?_ _ | refine Below.alloc ?_ (by first | omega | (simp only [World.size_alloc, size_setCell, size_drew, size_drewN]; omega)) _ | refine Below.setCell ?_ (by first | (dsimp only; omega) | (simp only [World.size_alloc, size_setCell, size_drew, size_drewN]; omega)) _))) hl).mono ?_
      rintro _ w1 ⟨rfl, hb1⟩
      obtain ⟨hc1, hf1⟩ := bcell hb1
      have hz1 := hb1.size
      try simp only [World.size_alloc, size_setCell, size_drew, size_drewN] at hz1
      have hz1x0 : w.heap.size < w1.heap.size := by omega
      rw [H1.out]
      go_wp2_with fail
      refine (implHas_ _ _ _ _ _ _ (h.below (by repeat (first | exact Below.refl _ _ | assumption | refine Below.step ?_ (by assumption) | refine Below.drew ?_ | refine Below.drewN ?_ _ | refine Below.alloc ?_ (by first | omega | (simp only [World.size_alloc, size_setCell, size_drew, size_drewN]; omega)) _ | refine Below.setCell ?_ (by first | (dsimp only; omega) | (simp only [World.size_alloc, size_setCell, size_drew, size_drewN]; omega)) _))) k hkn (by omega)).mono ?_
      rintro _ w2 ⟨rfl, hb2⟩
      obtain ⟨hc2, hf2⟩ := bcell hb2
      have hz2 := hb2.size
      try simp only [World.size_alloc, size_setCell, size_drew, size_drewN] at hz2
      have hz2x0 : w.heap.size < w2.heap.size := by omega
      go_wp2
      go_ret
      exact ⟨ret_bool (by rw [Bool.eq_iff_iff]; simp [hasB, H1.out, hv2]), (by repeat (first | exact Below.refl _ _ | assumption | refine Below.step ?_ (by assumption) | refine Below.drew ?_ | refine Below.drewN ?_ _ | refine Below.alloc ?_ (by first | omega | (simp only [World.size_alloc, size_setCell, size_drew, size_drewN]; omega)) _ | refine Below.setCell ?_ (by first | (dsimp only; omega) | (simp only [World.size_alloc, size_setCell, size_drew, size_drewN]; omega)) _))⟩
    · have HV := Lib.hid hv
      clear hv
      by_cases hv0 : v < 0
      · go_enter Try.func33, Try.ntmps33
        go_wp2_with fail
        refine (implSetOk _ _ _ _ _ _ (h.below (by repeat (first | exact Below.refl _ _ | assumption | refine Below.step ?_ (by assumption) | refine Below.drew ?_ | refine Below.drewN ?_ _ | refine Below.alloc ?_ (by first | omega | (simp only [World.size_alloc, size_setCell, size_drew, size_drewN]; omega)) _ | refine Below.setCell ?_ (by first | (dsimp only; omega) | (simp only [World.size_alloc, size_setCell, size_drew, size_drewN]; omega)) _))) hl).mono ?_
        rintro _ w1 ⟨rfl, hb1⟩
        obtain ⟨hc1, hf1⟩ := bcell hb1
        have hz1 := hb1.size
        try simp only [World.size_alloc, size_setCell, size_drew, size_drewN] at hz1
        have hz1x0 : w.heap.size < w1.heap.size := by omega
        rw [H1.out]
        go_wp2
        go_ret
        exact ⟨ret_bool (by rw [Bool.eq_iff_iff]; simp [hasB]; omega), (by repeat (first | exact Below.refl _ _ | assumption | refine Below.step ?_ (by assumption) | refine Below.drew ?_ | refine Below.drewN ?_ _ | refine Below.alloc ?_ (by first | omega | (simp only [World.size_alloc, size_setCell, size_drew, size_drewN]; omega)) _ | refine Below.setCell ?_ (by first | (dsimp only; omega) | (simp only [World.size_alloc, size_setCell, size_drew, size_drewN]; omega)) _))⟩
      · have hv1 : n ≤ v := by have := HV.out; omega
        go_enter Try.func33, Try.ntmps33
        go_wp2_with fail
        refine (implSetOk _ _ _ _ _ _ (h.below (by repeat (first | exact Below.refl _ _ | assumption | refine Below.step ?_ (by assumption) | refine Below.drew ?_ | refine Below.drewN ?_ _ | refine Below.alloc ?_ (by first | omega | (simp only [World.size_alloc, size_setCell, size_drew, size_drewN]; omega)) _ | refine Below.setCell ?_ (by first | (dsimp only; omega) | (simp only [World.size_alloc, size_setCell, size_drew, size_drewN]; omega)) _))) hl).mono ?_
        rintro _ w1 ⟨rfl, hb1⟩
        obtain ⟨hc1, hf1⟩ := bcell hb1
        have hz1 := hb1.size
        try simp only [World.size_alloc, size_setCell, size_drew, size_drewN] at hz1
        have hz1x0 : w.heap.size < w1.heap.size := by omega
        rw [H1.out]
        go_wp2
        go_ret
        exact ⟨ret_bool (by rw [Bool.eq_iff_iff]; simp [hasB]; omega), (by repeat (first | exact Below.refl _ _ | assumption | refine Below.step ?_ (by assumption) | refine Below.drew ?_ | refine Below.drewN ?_ _ | refine Below.alloc ?_ (by first | omega | (simp only [World.size_alloc, size_setCell, size_drew, size_drewN]; omega)) _ | refine Below.setCell ?_ (by first | (dsimp only; omega) | (simp only [World.size_alloc, size_setCell, size_drew, size_drewN]; omega)) _))⟩

theorem specSetOk_no (S : Nat → Prop) (n : Int) (a : Option Addr) (cap : Nat) (l : List UInt8) (w : World) (h : Sl bC S w a cap l) (hl : l.length ≤ 1048576) (h1 : setOk n l = false) :
    Calls Try.prog 28 #[.agg #[.int .i64 n, .slice a l.length cap]] w fun r w' => r = .returned (.bool false) ∧ Below w.heap.size w w' := by
  have := specSetOk S n a cap l w h hl
  rwa [h1] at this

theorem specSetOk_yes (S : Nat → Prop) (n : Int) (a : Option Addr) (cap : Nat) (l : List UInt8) (w : World) (h : Sl bC S w a cap l) (hl : l.length ≤ 1048576) (h1 : setOk n l = true) :
    Calls Try.prog 28 #[.agg #[.int .i64 n, .slice a l.length cap]] w fun r w' => r = .returned (.bool true) ∧ Below w.heap.size w w' := by
  have := specSetOk S n a cap l w h hl
  rwa [h1] at this

set_option maxHeartbeats 1000000 in
theorem specHas (S : Nat → Prop) (n : Int) (a : Option Addr) (cap : Nat) (l : List UInt8) (v : Int) (w : World) (h : Sl bC S w a cap l) (hl : l.length ≤ 1048576) :
    Calls Try.prog 32 #[.agg #[.int .i64 n, .slice a l.length cap], .int .i64 v] w fun r w' => r = .returned (.bool (hasB n l v)) ∧ Below w.heap.size w w' := by
  by_cases h1 : setOk n l = true
  case neg =>
    have H1 := Lib.hid (show setOk n l = false by simpa using h1)
    clear h1
    go_enter Try.func32, Try.ntmps32
    go_wp2
    obtain ⟨W0, hW0⟩ : ∃ W0, W0 = w.alloc (Obj.cells #[Value.int IntKind.i64 n, Value.slice a l.length cap] 45) := ⟨_, rfl⟩
    have db : Below w.heap.size w W0 := by rw [hW0]; exact (by repeat (first | exact Below.refl _ _ | assumption | refine Below.step ?_ (by assumption) | refine Below.drew ?_ | refine Below.drewN ?_ _ | refine Below.alloc ?_ (by first | omega | (simp only [World.size_alloc, size_setCell, size_drew, size_drewN]; omega)) _ | refine Below.setCell ?_ (by first | (dsimp only; omega) | (simp only [World.size_alloc, size_setCell, size_drew, size_drewN]; omega)) _))
    have dz := db.size
    have f0 : W0.cell? ⟨w.heap.size, 0, none⟩ = some (.int .i64 n) := by rw [hW0]; simp [go_sem]
    have f1 : W0.cell? ⟨w.heap.size, 1, none⟩ = some (.slice a l.length cap) := by rw [hW0]; simp [go_sem]
    rw [← hW0]
    clear hW0
    refine wp_region_quiet (C := fun w' => Below W0.heap.size W0 w') (by kernel_rfl) (by kernel_rfl) ((Below.refl _ _).drew) ?_
    simp only []
    repeat (go_big_quiet_step ((intro hw'; rename_i w'; first | (go_at_call 28; exact (specSetOk_no S _ _ _ _ w' ((h.below db).below hw') hl H1.out).mono fun e w'' q => ⟨q.1, Below.step hw' q.2⟩) | (have e0 := cell_below hw' f0; have e1 := cell_below hw' f1; go_simp; first | rfl | exact ⟨rfl, rfl⟩))))
    refine wpQuiet_nil ?_
    intro w1 hb1
    go_wp2
    go_ret
    exact ⟨ret_bool (by simp [hasB, H1.out]), (by repeat (first | exact Below.refl _ _ | assumption | refine Below.step ?_ (by assumption) | refine Below.drew ?_ | refine Below.drewN ?_ _ | refine Below.alloc ?_ (by first | omega | (simp only [World.size_alloc, size_setCell, size_drew, size_drewN]; omega)) _ | refine Below.setCell ?_ (by first | (dsimp only; omega) | (simp only [World.size_alloc, size_setCell, size_drew, size_drewN]; omega)) _))⟩
  case pos =>
    obtain ⟨hn0, hn1, hn2⟩ := setOk_len h1
    have H1 := Lib.hid h1
    have HN := Lib.hid hn2
    clear h1 hn2
    by_cases hv0 : v < 0
    · have hv0' : decide (0 ≤ v) = false := by simpa using hv0
      go_enter Try.func32, Try.ntmps32
      go_wp2
      obtain ⟨W0, hW0⟩ : ∃ W0, W0 = w.alloc (Obj.cells #[Value.int IntKind.i64 n, Value.slice a l.length cap] 45) := ⟨_, rfl⟩
      have db : Below w.heap.size w W0 := by rw [hW0]; exact (by repeat (first | exact Below.refl _ _ | assumption | refine Below.step ?_ (by assumption) | refine Below.drew ?_ | refine Below.drewN ?_ _ | refine Below.alloc ?_ (by first | omega | (simp only [World.size_alloc, size_setCell, size_drew, size_drewN]; omega)) _ | refine Below.setCell ?_ (by first | (dsimp only; omega) | (simp only [World.size_alloc, size_setCell, size_drew, size_drewN]; omega)) _))
      have dz := db.size
      have f0 : W0.cell? ⟨w.heap.size, 0, none⟩ = some (.int .i64 n) := by rw [hW0]; simp [go_sem]
      have f1 : W0.cell? ⟨w.heap.size, 1, none⟩ = some (.slice a l.length cap) := by rw [hW0]; simp [go_sem]
      rw [← hW0]
      clear hW0
      refine wp_region_quiet (C := fun w' => Below W0.heap.size W0 w') (by kernel_rfl) (by kernel_rfl) ((Below.refl _ _).drew) ?_
      simp only []
      repeat (go_big_quiet_step ((intro hw'; rename_i w'; first | (go_at_call 28; exact (specSetOk_yes S _ _ _ _ w' ((h.below db).below hw') hl H1.out).mono fun e w'' q => ⟨q.1, Below.step hw' q.2⟩) | (have e0 := cell_below hw' f0; have e1 := cell_below hw' f1; go_simp; first | rfl | exact ⟨rfl, rfl⟩))))
      refine wpQuiet_nil ?_
      intro w1 hb1
      go_wp2
      go_ret
      exact ⟨ret_bool (by rw [Bool.eq_iff_iff]; simp [hasB]; omega), (by repeat (first | exact Below.refl _ _ | assumption | refine Below.step ?_ (by assumption) | refine Below.drew ?_ | refine Below.drewN ?_ _ | refine Below.alloc ?_ (by first | omega | (simp only [World.size_alloc, size_setCell, size_drew, size_drewN]; omega)) _ | refine Below.setCell ?_ (by first | (dsimp only; omega) | (simp only [World.size_alloc, size_setCell, size_drew, size_drewN]; omega)) _))⟩
    · by_cases hvn : n ≤ v
      · have hv0' : decide (0 ≤ v) = true := by simpa using hv0
        have hv1' : decide (v < n) = false := by simpa using hvn
        go_enter Try.func32, Try.ntmps32
        go_wp2
        obtain ⟨W0, hW0⟩ : ∃ W0, W0 = w.alloc (Obj.cells #[Value.int IntKind.i64 n, Value.slice a l.length cap] 45) := ⟨_, rfl⟩
        have db : Below w.heap.size w W0 := by rw [hW0]; exact (by repeat (first | exact Below.refl _ _ | assumption | refine Below.step ?_ (by assumption) | refine Below.drew ?_ | refine Below.drewN ?_ _ | refine Below.alloc ?_ (by first | omega | (simp only [World.size_alloc, size_setCell, size_drew, size_drewN]; omega)) _ | refine Below.setCell ?_ (by first | (dsimp only; omega) | (simp only [World.size_alloc, size_setCell, size_drew, size_drewN]; omega)) _))
        have dz := db.size
        have f0 : W0.cell? ⟨w.heap.size, 0, none⟩ = some (.int .i64 n) := by rw [hW0]; simp [go_sem]
        have f1 : W0.cell? ⟨w.heap.size, 1, none⟩ = some (.slice a l.length cap) := by rw [hW0]; simp [go_sem]
        rw [← hW0]
        clear hW0
        refine wp_region_quiet (C := fun w' => Below W0.heap.size W0 w') (by kernel_rfl) (by kernel_rfl) ((Below.refl _ _).drew) ?_
        simp only []
        repeat (go_big_quiet_step ((intro hw'; rename_i w'; first | (go_at_call 28; exact (specSetOk_yes S _ _ _ _ w' ((h.below db).below hw') hl H1.out).mono fun e w'' q => ⟨q.1, Below.step hw' q.2⟩) | (have e0 := cell_below hw' f0; have e1 := cell_below hw' f1; go_simp; first | rfl | exact ⟨rfl, rfl⟩))))
        refine wpQuiet_nil ?_
        intro w1 hb1
        go_wp2
        go_ret
        exact ⟨ret_bool (by rw [Bool.eq_iff_iff]; simp [hasB]; omega), (by repeat (first | exact Below.refl _ _ | assumption | refine Below.step ?_ (by assumption) | refine Below.drew ?_ | refine Below.drewN ?_ _ | refine Below.alloc ?_ (by first | omega | (simp only [World.size_alloc, size_setCell, size_drew, size_drewN]; omega)) _ | refine Below.setCell ?_ (by first | (dsimp only; omega) | (simp only [World.size_alloc, size_setCell, size_drew, size_drewN]; omega)) _))⟩
      · obtain ⟨k, rfl⟩ := Int.eq_ofNat_of_zero_le (show 0 ≤ v by omega)
        have hk8 : k / 8 < l.length := by have := HN.out; omega
        have hv0' : decide (0 ≤ (k : Int)) = true := by simp
        have hv1' : decide ((k : Int) < n) = true := by simp; omega
        have hv2 : (k : Int) < n := by omega
        obtain ⟨b1, off1, rfl, hS, hbw, hcell⟩ := h.get (by omega)
        have g1 := hcell (k / 8) hk8
        unfold bC at g1
        clear hcell
        have q1 : IntKind.i64.wrap ((k : Int) / 8) = (k : Int) / 8 := IntWalk.i64_in _ (by omega)
        have q2 : ((k : Int) / 8).toNat = k / 8 := by omega
        have q3 : 0 ≤ (k : Int) / 8 := by omega
        have q4 : (k : Int) / 8 < (l.length : Int) := by omega
        have hx := l[k / 8].toNat_lt
        have q5 : IntKind.i64.wrap (l[k / 8].toNat : Int) = (l[k / 8].toNat : Int) := IntWalk.i64_in _ (by omega)
        obtain ⟨hw1, hw2⟩ := bitW_le k
        have HX := Lib.hid (bit_spec l k hk8)
        go_enter Try.func32, Try.ntmps32
        go_wp2
        obtain ⟨W0, hW0⟩ : ∃ W0, W0 = w.alloc (Obj.cells #[Value.int IntKind.i64 n, Value.slice (some ⟨b1, off1, none⟩) l.length cap] 45) := ⟨_, rfl⟩
        have db : Below w.heap.size w W0 := by rw [hW0]; exact (by repeat (first | exact Below.refl _ _ | assumption | refine Below.step ?_ (by assumption) | refine Below.drew ?_ | refine Below.drewN ?_ _ | refine Below.alloc ?_ (by first | omega | (simp only [World.size_alloc, size_setCell, size_drew, size_drewN]; omega)) _ | refine Below.setCell ?_ (by first | (dsimp only; omega) | (simp only [World.size_alloc, size_setCell, size_drew, size_drewN]; omega)) _))
        have dz := db.size
        have f0 : W0.cell? ⟨w.heap.size, 0, none⟩ = some (.int .i64 n) := by rw [hW0]; simp [go_sem]
        have f1 : W0.cell? ⟨w.heap.size, 1, none⟩ = some (.slice (some ⟨b1, off1, none⟩) l.length cap) := by rw [hW0]; simp [go_sem]
        rw [← hW0]
        clear hW0
        replace g1 := cell_below db g1
        refine wp_region_quiet (C := fun w' => Below W0.heap.size W0 w') (by kernel_rfl) (by kernel_rfl) ((Below.refl _ _).drew) ?_
        simp only []
        repeat (go_big_quiet_step ((intro hw'; rename_i w'; first | (first | (go_at_call 28; exact (specSetOk_yes S _ _ _ _ w' ((h.below db).below hw') hl H1.out).mono fun e w'' q => ⟨q.1, Below.step hw' q.2⟩) | (go_at_call 56; exact (l09Bit_c k w' (by omega)).mono fun e w'' q => ⟨q.1, by rw [← q.2]; exact hw'⟩)) | (have e0 := cell_below hw' f0; have e1 := cell_below hw' f1; have e2 := cell_below hw' g1; go_simp; first | rfl | exact ⟨rfl, rfl⟩))))
        refine wpQuiet_nil ?_
        intro w1 hb1
        go_wp2
        go_ret
        exact ⟨ret_bool (by rw [HX.out, Bool.eq_iff_iff]; simp [hasB, H1.out]; omega), (by repeat (first | exact Below.refl _ _ | assumption | refine Below.step ?_ (by assumption) | refine Below.drew ?_ | refine Below.drewN ?_ _ | refine Below.alloc ?_ (by first | omega | (simp only [World.size_alloc, size_setCell, size_drew, size_drewN]; omega)) _ | refine Below.setCell ?_ (by first | (dsimp only; omega) | (simp only [World.size_alloc, size_setCell, size_drew, size_drewN]; omega)) _))⟩

end Go.Proofs.Ytjejhdogbhdgoaa
