/-
  Contracts of the functions on sets of vertices, the program's and the reference's.
-/
import Derived.Test.YtjejhdogbhdgoaaSl
namespace Go.Proofs.Ytjejhdogbhdgoaa
set_option linter.unusedSimpArgs false
set_option linter.unusedVariables false
open Go.RowKit

/-- Is the bit v set? -/
def bitAt (l : List UInt8) (v : Nat) : Bool := decide ((l.getD (v / 8) 0).toNat / 2 ^ (v % 8) % 2 = 1)
def setOk (n : Int) (l : List UInt8) : Bool := decide (0 ≤ n ∧ n ≤ 150 ∧ l.length = (n.toNat + 7) / 8 ∧ ∀ v, v < 8 * l.length → n.toNat ≤ v → bitAt l v = false)

theorem pow_le (k : Nat) (h : k ≤ 7) : 2 ^ k ≤ 128 := Nat.le_trans (Nat.pow_le_pow_right (by omega) h) (by decide)

def bitW (v : Nat) : Int := ((2 ^ (v % 8) : Nat) : Int)
theorem bitW_le (v : Nat) : 1 ≤ bitW v ∧ bitW v ≤ 128 := by
  have h := pow_le (v % 8) (by omega)
  have h' : 0 < 2 ^ (v % 8) := Nat.two_pow_pos _
  unfold bitW
  exact ⟨by omega, by omega⟩

set_option maxHeartbeats 400000 in
theorem l09Bit_c (v : Nat) (w : World) (hv : v ≤ 1099511627776) :
    Calls Try.prog 56 #[.int .i64 (v : Int)] w fun r w' => r = .returned (.int .i64 (bitW v)) ∧ w = w' := by
  have h8 : v % 8 < 8 := Nat.mod_lt _ (by omega)
  go_enter Try.func56, Try.ntmps56
  go_wp2
  go_loop [3, 4] (fun n i => ∃ k : Nat, k ≤ v % 8 ∧ i = .int .i64 k ∧ n = .int .i64 ((2 ^ k : Nat) : Int)) (fun _ i => 8 - (intOf i).toNat)
  case atStart => exact ⟨0, Nat.zero_le _, rfl, rfl⟩
  case round =>
    obtain ⟨k, hk, rfl, rfl⟩ := hrel
    have hp := pow_le k (by omega)
    obtain ⟨m, hm⟩ : ∃ m, m = 2 ^ k := ⟨_, rfl⟩
    rw [← hm] at hp ⊢
    have HM := Lib.hid hm
    clear hm
    by_cases hlt : k < v % 8
    · have hlt' : (k : Int) < (v : Int) % 8 := by omega
      go_wp2
      go_round
      case rel => exact ⟨k + 1, by omega, by go_num, congrArg (Value.int .i64) (by rw [HM.out, Nat.pow_succ]; push_cast; rfl)⟩
      case measure => simp [intOf]; omega
    · have hlt' : ¬ (k : Int) < (v : Int) % 8 := by omega
      go_wp2
      go_ret
      obtain rfl : k = v % 8 := by omega
      exact ⟨ret_int (by rw [HM.out]; rfl), rfl⟩

theorem bit_val (x : UInt8) (k : Nat) : (bits BinOp.and IntKind.u8 ((x.toNat : Int) / 2 ^ k) 1 == 1) = decide (x.toNat / 2 ^ k % 2 = 1) := by
  have hx := x.toNat_lt
  have h1 : x.toNat / 2 ^ k < 256 := Nat.lt_of_le_of_lt (Nat.div_le_self _ _) (by omega)
  have h2 : ((x.toNat : Int) / 2 ^ k) = ((x.toNat / 2 ^ k : Nat) : Int) := by push_cast; rfl
  have h3 := u8_and_nat (x.toNat / 2 ^ k) 1 h1 (by omega)
  rw [h2, show (1 : Int) = ((1 : Nat) : Int) from rfl, h3, Nat.and_one_is_mod, Bool.eq_iff_iff]
  simp
  omega

theorem implHas_ (S : Nat → Prop) (n : Int) (a : Option Addr) (cap : Nat) (l : List UInt8) (w : World) (h : Sl bC S w a cap l) (v : Nat) (hv : v / 8 < l.length) (hv' : v ≤ 1099511627776) :
    Calls Try.prog 58 #[.agg #[.int .i64 n, .slice a l.length cap], .int .i64 (v : Int)] w fun r w' => r = .returned (.bool (bitAt l v)) ∧ Below w.heap.size w w' := by
  obtain ⟨b, off, rfl, hS, hbw, hcell⟩ := h.get (by omega)
  have g1 := hcell (v / 8) hv
  unfold bC at g1
  have e1 : ((v : Int) / 8).toNat = v / 8 := by omega
  have e2 : (v : Int) / 8 < l.length := by omega
  clear hcell
  go_enter Try.func58, Try.ntmps58
  go_wp2
  go_ret
  exact ⟨ret_bool (by rw [bit_val]; simp [bitAt, hv]), (by repeat (first | exact Below.refl _ _ | assumption | refine Below.step ?_ (by assumption) | refine Below.drew ?_ | refine Below.drewN ?_ _ | refine Below.alloc ?_ (by first | omega | (simp only [World.size_alloc, size_setCell, size_drew, size_drewN]; omega)) _ | refine Below.setCell ?_ (by first | (dsimp only; omega) | (simp only [World.size_alloc, size_setCell, size_drew, size_drewN]; omega)) _))⟩

/-- The reference's test of a bit. -/
theorem bit_quo (l : List UInt8) (v : Nat) (hv : v / 8 < l.length) : (((l[v / 8].toNat : Int) / bitW v) % 2 == 1) = bitAt l v := by
  unfold bitAt bitW
  rw [Bool.eq_iff_iff]
  simp [List.getD, hv]
  have : ((l[v / 8].toNat : Int) / 2 ^ (v % 8)) = ((l[v / 8].toNat / 2 ^ (v % 8) : Nat) : Int) := by push_cast; rfl
  rw [this]
  omega

theorem bit_spec (l : List UInt8) (v : Nat) (hv : v / 8 < l.length) : ((wrap64 ((l[v / 8].toNat : Int) / bitW v)).tmod 2 == 1) = bitAt l v := by
  rw [← bit_quo l v hv]
  have hx := l[v / 8].toNat_lt
  obtain ⟨h1, h2⟩ := bitW_le v
  have h3 : 0 ≤ (l[v / 8].toNat : Int) / bitW v := Int.ediv_nonneg (by omega) (by omega)
  have h4 : (l[v / 8].toNat : Int) / bitW v ≤ (l[v / 8].toNat : Int) := Int.ediv_le_self _ (by omega)
  have h5 : wrap64 ((l[v / 8].toNat : Int) / bitW v) = (l[v / 8].toNat : Int) / bitW v := by unfold wrap64; omega
  rw [h5, Int.tmod_eq_emod_of_nonneg h3]

set_option maxHeartbeats 1000000 in
theorem specSetOk (S : Nat → Prop) (n : Int) (a : Option Addr) (cap : Nat) (l : List UInt8) (w : World) (h : Sl bC S w a cap l) (hl : l.length ≤ 1048576) :
    Calls Try.prog 28 #[.agg #[.int .i64 n, .slice a l.length cap]] w fun r w' => r = .returned (.bool (setOk n l)) ∧ Below w.heap.size w w' := by
  by_cases h0 : 0 ≤ n ∧ n ≤ 150 ∧ l.length = (n.toNat + 7) / 8
  case neg =>
    have H0 := Lib.hid h0
    clear h0
    go_enter Try.func28, Try.ntmps28
    go_wp2
    all_goals go_light
    all_goals have h0 := H0.out
    all_goals try simp only [bne_eq_false_iff_eq] at *
    all_goals first
      | (exfalso; omega)
      | (go_ret; exact ⟨ret_bool (by unfold setOk; rw [Bool.eq_iff_iff]; simp; intro e1 e2 e3; exact absurd ⟨e1, e2, e3⟩ h0), (by repeat (first | exact Below.refl _ _ | assumption | refine Below.step ?_ (by assumption) | refine Below.drew ?_ | refine Below.drewN ?_ _ | refine Below.alloc ?_ (by first | omega | (simp only [World.size_alloc, size_setCell, size_drew, size_drewN]; omega)) _ | refine Below.setCell ?_ (by first | (dsimp only; omega) | (simp only [World.size_alloc, size_setCell, size_drew, size_drewN]; omega)) _))⟩)
  case pos =>
    obtain ⟨h1, h2, h3⟩ := h0
    obtain ⟨m, rfl⟩ := Int.eq_ofNat_of_zero_le h1
    have h3' : ((l.length : Int) != ((m : Int) + 7) / 8) = false := by rw [bne_eq_false_iff_eq]; simp at h3; omega
    have H3 := Lib.hid h3
    clear h3
    go_enter Try.func28, Try.ntmps28
    go_wp2
    obtain ⟨W0, hW0⟩ : ∃ W0, W0 = w.alloc (Obj.cells #[Value.int IntKind.i64 (m : Int), Value.slice a l.length cap] 45) := ⟨_, rfl⟩
    have d0 : W0.cell? ⟨w.heap.size, 0, none⟩ = some (.int .i64 (m : Int)) := by rw [hW0]; simp [go_sem]
    have d1 : W0.cell? ⟨w.heap.size, 1, none⟩ = some (.slice a l.length cap) := by rw [hW0]; simp [go_sem]
    have dz : w.heap.size < W0.heap.size := by rw [hW0]; simp
    have db : Below w.heap.size w W0 := by rw [hW0]; exact (by repeat (first | exact Below.refl _ _ | assumption | refine Below.step ?_ (by assumption) | refine Below.drew ?_ | refine Below.drewN ?_ _ | refine Below.alloc ?_ (by first | omega | (simp only [World.size_alloc, size_setCell, size_drew, size_drewN]; omega)) _ | refine Below.setCell ?_ (by first | (dsimp only; omega) | (simp only [World.size_alloc, size_setCell, size_drew, size_drewN]; omega)) _))
    rw [← hW0]
    have HW := Lib.hid hW0
    clear hW0
    go_loopw [3] (fun v wr => ∃ (k : Nat), m ≤ k ∧ k ≤ m + 7 ∧ k ≤ 8 * l.length ∧ v = .int .i64 k ∧ Hid (∀ j, m ≤ j → j < k → bitAt l j = false) ∧ Below W0.heap.size W0 wr)
      (fun v _ => 8 * l.length - (intOf v).toNat)
    case atStart => exact ⟨m, Nat.le_refl _, by omega, by have := H3.out; simp at this; omega, rfl, Lib.hid (fun j h1 h2 => by omega), Below.refl _ _⟩
    case round =>
      obtain ⟨k, hk1, hk2, hk3, rfl, HB, hbl⟩ := hrel
      have f0 : wr.cell? ⟨w.heap.size, 0, none⟩ = some (.int .i64 (m : Int)) := (hbl.cell (p := ⟨w.heap.size, 0, none⟩) dz).trans d0
      have f1 : wr.cell? ⟨w.heap.size, 1, none⟩ = some (.slice a l.length cap) := (hbl.cell (p := ⟨w.heap.size, 1, none⟩) dz).trans d1
      by_cases hlt : k < 8 * l.length
      · obtain ⟨b1, off1, rfl, hS, hbw, hcell⟩ := h.get (by omega)
        have g1 : wr.cell? ⟨b1, off1 + k / 8, none⟩ = some (.int .u8 l[k / 8].toNat) := ((hbl.cell (p := ⟨b1, off1 + k / 8, none⟩) (Nat.lt_of_lt_of_le hbw db.size)).trans (db.cell (p := ⟨b1, off1 + k / 8, none⟩) hbw)).trans (hcell (k / 8) (by omega))
        clear hcell
        have q1 : IntKind.i64.wrap ((k : Int) / 8) = (k : Int) / 8 := IntWalk.i64_in _ (by omega)
        have q2 : ((k : Int) / 8).toNat = k / 8 := by omega
        have q3 : 0 ≤ (k : Int) / 8 := by omega
        have q4 : (k : Int) / 8 < (l.length : Int) := by omega
        have hx := l[k / 8].toNat_lt
        have q5 : IntKind.i64.wrap (l[k / 8].toNat : Int) = (l[k / 8].toNat : Int) := IntWalk.i64_in _ (by omega)
        obtain ⟨hw1, hw2⟩ := bitW_le k
        have HX := Lib.hid (bit_spec l k (by omega))
        by_cases hb : bitAt l k = true
        · have hb' : ((wrap64 ((l[k / 8].toNat : Int) / bitW k)).tmod 2 == 1) = true := HX.out.trans hb
          have HBT := Lib.hid hb
          clear hb
          go_wp2
          go_quiet ((go_at_call 56; exact quiet_left (l09Bit_c _ _ (by omega))))
          go_wp2
          go_ret
          exact ⟨ret_bool (by
            unfold setOk; rw [Bool.eq_iff_iff]; simp only [decide_eq_true_eq, Bool.false_eq_true, false_iff]
            intro ⟨_, _, _, hq⟩
            have := hq k hlt (by simp; omega)
            rw [HBT.out] at this; cases this), (Below.step db hbl).drewN _⟩
        · have hb' : ((wrap64 ((l[k / 8].toNat : Int) / bitW k)).tmod 2 == 1) = false := HX.out.trans (by simpa using hb)
          have HBT := Lib.hid hb
          clear hb
          go_wp2
          go_quiet ((go_at_call 56; exact quiet_left (l09Bit_c _ _ (by omega))))
          go_wp2
          go_roundw
          case rel => exact ⟨k + 1, by omega, by have := H3.out; simp at this; omega, by omega, by go_num, Lib.hid (fun j h1 h2 => by
              by_cases hj : j = k
              · subst hj; simpa using HBT.out
              · exact HB.out j h1 (by omega)), ⟨hbl.os, hbl.tape, hbl.output, hbl.size, hbl.block⟩⟩
          case measure => simp [intOf]; omega
      · go_wp2
        go_ret
        exact ⟨ret_bool (by
          unfold setOk; rw [Bool.eq_iff_iff]; simp only [decide_eq_true_eq, true_iff]
          exact ⟨h1, h2, H3.out, fun v hv hm => HB.out v (by simpa using hm) (by omega)⟩), db.trans (hbl.mono db.size)⟩

set_option maxHeartbeats 1000000 in
theorem implSetOk (S : Nat → Prop) (n : Int) (a : Option Addr) (cap : Nat) (l : List UInt8) (w : World) (h : Sl bC S w a cap l) (hl : l.length ≤ 1048576) :
    Calls Try.prog 30 #[.agg #[.int .i64 n, .slice a l.length cap]] w fun r w' => r = .returned (.bool (setOk n l)) ∧ Below w.heap.size w w' := by
  by_cases h0 : 0 ≤ n ∧ n ≤ 150 ∧ l.length = (n.toNat + 7) / 8
  case neg =>
    have H0 := Lib.hid h0
    clear h0
    go_enter Try.func30, Try.ntmps30
    go_wp2
    all_goals go_light
    all_goals have h0 := H0.out
    all_goals try simp only [bne_eq_false_iff_eq] at *
    all_goals first
      | (exfalso; omega)
      | (go_ret; exact ⟨ret_bool (by unfold setOk; rw [Bool.eq_iff_iff]; simp; intro e1 e2 e3; exact absurd ⟨e1, e2, e3⟩ h0), (by repeat (first | exact Below.refl _ _ | assumption | refine Below.step ?_ (by assumption) | refine Below.drew ?_ | refine Below.drewN ?_ _ | refine Below.alloc ?_ (by first | omega | (simp only [World.size_alloc, size_setCell, size_drew, size_drewN]; omega)) _ | refine Below.setCell ?_ (by first | (dsimp only; omega) | (simp only [World.size_alloc, size_setCell, size_drew, size_drewN]; omega)) _))⟩)
  case pos =>
    obtain ⟨h1, h2, h3⟩ := h0
    obtain ⟨m, rfl⟩ := Int.eq_ofNat_of_zero_le h1
    have h3' : ((l.length : Int) != ((m : Int) + 7) / 8) = false := by rw [bne_eq_false_iff_eq]; simp at h3; omega
    have H3 := Lib.hid h3
    clear h3
    go_enter Try.func30, Try.ntmps30
    go_wp2
    obtain ⟨W0, hW0⟩ : ∃ W0, W0 = w.alloc (Obj.cells #[Value.int IntKind.i64 (m : Int), Value.slice a l.length cap] 45) := ⟨_, rfl⟩
    have db : Below w.heap.size w W0 := by rw [hW0]; exact (by repeat (first | exact Below.refl _ _ | assumption | refine Below.step ?_ (by assumption) | refine Below.drew ?_ | refine Below.drewN ?_ _ | refine Below.alloc ?_ (by first | omega | (simp only [World.size_alloc, size_setCell, size_drew, size_drewN]; omega)) _ | refine Below.setCell ?_ (by first | (dsimp only; omega) | (simp only [World.size_alloc, size_setCell, size_drew, size_drewN]; omega)) _))
    have dz := db.size
    have d0 : W0.cell? ⟨w.heap.size, 0, none⟩ = some (.int .i64 (m : Int)) := by rw [hW0]; simp [go_sem]
    have d1 : W0.cell? ⟨w.heap.size, 1, none⟩ = some (.slice a l.length cap) := by rw [hW0]; simp [go_sem]
    have dz : w.heap.size < W0.heap.size := by rw [hW0]; simp
    rw [← hW0]
    have HW := Lib.hid hW0
    clear hW0
    go_loopw [3] (fun v wr => ∃ (k : Nat), m ≤ k ∧ k ≤ m + 7 ∧ k ≤ 8 * l.length ∧ v = .int .i64 k ∧ Hid (∀ j, m ≤ j → j < k → bitAt l j = false) ∧ Below W0.heap.size W0 wr)
      (fun v _ => 8 * l.length - (intOf v).toNat)
    case atStart => exact ⟨m, Nat.le_refl _, by omega, by have := H3.out; simp at this; omega, rfl, Lib.hid (fun j h1 h2 => by omega), Below.refl _ _⟩
    case round =>
      obtain ⟨k, hk1, hk2, hk3, rfl, HB, hbl⟩ := hrel
      have f0 : wr.cell? ⟨w.heap.size, 0, none⟩ = some (.int .i64 (m : Int)) := (hbl.cell (p := ⟨w.heap.size, 0, none⟩) dz).trans d0
      have f1 : wr.cell? ⟨w.heap.size, 1, none⟩ = some (.slice a l.length cap) := (hbl.cell (p := ⟨w.heap.size, 1, none⟩) dz).trans d1
      have hs : Sl bC S wr a cap l := (h.below db).below hbl
      by_cases hlt : k < 8 * l.length
      · by_cases hb : bitAt l k = true
        · have HBT := Lib.hid hb
          clear hb
          go_wp2_with fail
          refine (implHas_ S _ a cap l _ hs k (by omega) (by omega)).mono ?_
          rintro _ w1 ⟨rfl, hb1⟩
          rw [HBT.out]
          go_wp2
          go_ret
          exact ⟨ret_bool (by
            unfold setOk; rw [Bool.eq_iff_iff]; simp only [decide_eq_true_eq, Bool.false_eq_true, false_iff]
            intro ⟨_, _, _, hq⟩
            have := hq k hlt (by simp; omega)
            rw [HBT.out] at this; cases this), (by repeat (first | exact Below.refl _ _ | assumption | refine Below.step ?_ (by assumption) | refine Below.drew ?_ | refine Below.drewN ?_ _ | refine Below.alloc ?_ (by first | omega | (simp only [World.size_alloc, size_setCell, size_drew, size_drewN]; omega)) _ | refine Below.setCell ?_ (by first | (dsimp only; omega) | (simp only [World.size_alloc, size_setCell, size_drew, size_drewN]; omega)) _))⟩
        · have hb : bitAt l k = false := by simpa using hb
          have HBT := Lib.hid hb
          clear hb
          go_wp2_with fail
          refine (implHas_ S _ a cap l _ hs k (by omega) (by omega)).mono ?_
          rintro _ w1 ⟨rfl, hb1⟩
          rw [HBT.out]
          go_wp2
          go_roundw
          case rel => exact ⟨k + 1, by omega, by have := H3.out; simp at this; omega, by omega, by go_num, Lib.hid (fun j h1 h2 => by
              by_cases hj : j = k
              · subst hj; exact HBT.out
              · exact HB.out j h1 (by omega)), Below.step hbl hb1⟩
          case measure => simp [intOf]; omega
      · go_wp2
        go_ret
        exact ⟨ret_bool (by
          unfold setOk; rw [Bool.eq_iff_iff]; simp only [decide_eq_true_eq, true_iff]
          exact ⟨h1, h2, H3.out, fun v hv hm => HB.out v (by simpa using hm) (by omega)⟩), (by repeat (first | exact Below.refl _ _ | assumption | refine Below.step ?_ (by assumption) | refine Below.drew ?_ | refine Below.drewN ?_ _ | refine Below.alloc ?_ (by first | omega | (simp only [World.size_alloc, size_setCell, size_drew, size_drewN]; omega)) _ | refine Below.setCell ?_ (by first | (dsimp only; omega) | (simp only [World.size_alloc, size_setCell, size_drew, size_drewN]; omega)) _))⟩

set_option maxHeartbeats 400000 in
theorem toSet_c (S : Nat → Prop) (n : Int) (a : Option Addr) (cap : Nat) (l : List UInt8) (w : World) (h : Sl bC S w a cap l) (hl : l.length ≤ 1048576) :
    Calls Try.prog 29 #[.agg #[.int .i64 n, .slice a l.length cap]] w fun r w' => ∃ a' cap', r = .returned (.agg #[.int .i64 n, .slice a' l.length cap']) ∧ Own bC 5 (w.heap.size ≤ ·) w' a' cap' l ∧ Below w.heap.size w w' := by
  go_enter Try.func29, Try.ntmps29
  go_wp2_with fail
  refine (toByteS_c _ S a cap l (h.below (by repeat (first | exact Below.refl _ _ | assumption | refine Below.step ?_ (by assumption) | refine Below.drew ?_ | refine Below.drewN ?_ _ | refine Below.alloc ?_ (by first | omega | (simp only [World.size_alloc, size_setCell, size_drew, size_drewN]; omega)) _ | refine Below.setCell ?_ (by first | (dsimp only; omega) | (simp only [World.size_alloc, size_setCell, size_drew, size_drewN]; omega)) _))) hl).mono ?_
  rintro _ w1 ⟨a', cap', rfl, ho, hb1⟩
  obtain ⟨hc1, hf1⟩ := bcell hb1
  have hz1 := hb1.size
  simp only [World.size_alloc] at hz1
  have hz1x0 : w.heap.size < w1.heap.size := by omega
  have hz1x1 : w.heap.size + 1 < w1.heap.size := by omega
  have hz1x2 : w.heap.size + 1 + 1 < w1.heap.size := by omega
  go_wp2
  refine bodyPost_ret (v := .agg #[.int .i64 n, .slice a' l.length cap']) (by simp [results, Try.results29, go_sem, hc1, hf1, hz1x0, hz1x1, hz1x2]) rfl ?_
  exact ⟨a', cap', rfl, (Own.lift ho (by intro b hS hb; (try simp only [World.size_alloc, size_setCell, size_drew, size_drewN] at hS); (try simp only [heap_drew, heap_drewN]); repeat (first | rfl | rw [Below.heap_setCell _ _ _ _ (by dsimp only; omega)] | rw [Below.heap_alloc _ _ _ (by simp only [World.size_alloc, size_setCell, size_drew, size_drewN]; omega)])) (by intro b _ hb; (try simp only [World.size_alloc, size_setCell, size_drew, size_drewN] at hb); omega)), (by repeat (first | exact Below.refl _ _ | assumption | refine Below.step ?_ (by assumption) | refine Below.drew ?_ | refine Below.drewN ?_ _ | refine Below.alloc ?_ (by first | omega | (simp only [World.size_alloc, size_setCell, size_drew, size_drewN]; omega)) _ | refine Below.setCell ?_ (by first | (dsimp only; omega) | (simp only [World.size_alloc, size_setCell, size_drew, size_drewN]; omega)) _))⟩

theorem szR_neg {q : Int} {k : Nat} (h0 : 0 ≤ q) (h : szR q k < 0) : szR q k = -1 := by
  unfold szR at h ⊢; split at h <;> split <;> omega

theorem szSet_c (n : Int) (a : Option Addr) (cap k : Nat) (q : Int) (w : World) (hk : k ≤ maxLen) (hq : q ≤ 1099511627776) (h0 : 0 ≤ q) :
    Calls Try.prog 27 #[.agg #[.int .i64 n, .slice a k cap], .int .i64 q] w fun r w' => r = .returned (.int .i64 (szR q k)) ∧ Below w.heap.size w w' := by
  by_cases hn : szR q k < 0
  · go_enter Try.func27, Try.ntmps27
    go_wp2_with fail
    refine (szByteS_c _ _ _ _ _ hk hq h0).mono ?_
    rintro _ _ ⟨rfl, rfl⟩
    go_wp2
    go_ret
    exact ⟨ret_int (szR_neg h0 hn).symm, (by repeat (first | exact Below.refl _ _ | assumption | refine Below.step ?_ (by assumption) | refine Below.drew ?_ | refine Below.drewN ?_ _ | refine Below.alloc ?_ (by first | omega | (simp only [World.size_alloc, size_setCell, size_drew, size_drewN]; omega)) _ | refine Below.setCell ?_ (by first | (dsimp only; omega) | (simp only [World.size_alloc, size_setCell, size_drew, size_drewN]; omega)) _))⟩
  · go_enter Try.func27, Try.ntmps27
    go_wp2_with fail
    refine (szByteS_c _ _ _ _ _ hk hq h0).mono ?_
    rintro _ _ ⟨rfl, rfl⟩
    go_wp2
    go_ret
    exact ⟨rfl, (by repeat (first | exact Below.refl _ _ | assumption | refine Below.step ?_ (by assumption) | refine Below.drew ?_ | refine Below.drewN ?_ _ | refine Below.alloc ?_ (by first | omega | (simp only [World.size_alloc, size_setCell, size_drew, size_drewN]; omega)) _ | refine Below.setCell ?_ (by first | (dsimp only; omega) | (simp only [World.size_alloc, size_setCell, size_drew, size_drewN]; omega)) _))⟩

theorem eqSet_c (S S' : Nat → Prop) (n m : Int) (a b : Option Addr) (ca cb : Nat) (l k : List UInt8) (w : World) (h : Sl bC S w a ca l) (h' : Sl bC S' w b cb k) :
    Calls Try.prog 31 #[.agg #[.int .i64 n, .slice a l.length ca], .agg #[.int .i64 m, .slice b k.length cb]] w fun r w' => r = .returned (.bool (decide (n = m ∧ l = k))) ∧ Below w.heap.size w w' := by
  by_cases hn : n = m
  · subst hn
    have hne : (n != n) = false := by simp
    by_cases hl : l = k
    · subst hl
      go_enter Try.func31, Try.ntmps31
      go_wp2_with fail
      refine (eqByteS_c _ S S' _ _ _ _ _ _ (by repeat (first | assumption | (refine Own.sl ?_; assumption) | refine Sl.setCell_ne ?_ (by show ¬ (_ ≤ _); (try simp only [World.size_alloc, size_setCell, size_drew, size_drewN]); omega) _ | refine Sl.alloc ?_ _ | refine Sl.drew ?_ _ | refine Sl.below ?_ (by assumption))) (by repeat (first | assumption | (refine Own.sl ?_; assumption) | refine Sl.setCell_ne ?_ (by show ¬ (_ ≤ _); (try simp only [World.size_alloc, size_setCell, size_drew, size_drewN]); omega) _ | refine Sl.alloc ?_ _ | refine Sl.drew ?_ _ | refine Sl.below ?_ (by assumption)))).mono ?_
      rintro _ w1 ⟨rfl, hb1⟩
      obtain ⟨hc1, hf1⟩ := bcell hb1
      have hz1 := hb1.size
      try simp only [World.size_alloc, size_setCell, size_drew, size_drewN] at hz1
      have hz1x0 : w.heap.size < w1.heap.size := by omega
      have hz1x1 : w.heap.size + 1 < w1.heap.size := by omega
      go_wp2
      go_ret
      exact ⟨ret_bool (by simp), (by repeat (first | exact Below.refl _ _ | assumption | refine Below.step ?_ (by assumption) | refine Below.drew ?_ | refine Below.drewN ?_ _ | refine Below.alloc ?_ (by first | omega | (simp only [World.size_alloc, size_setCell, size_drew, size_drewN]; omega)) _ | refine Below.setCell ?_ (by first | (dsimp only; omega) | (simp only [World.size_alloc, size_setCell, size_drew, size_drewN]; omega)) _))⟩
    · have hl' : (decide (l = k)) = false := by simpa using hl
      go_enter Try.func31, Try.ntmps31
      go_wp2_with fail
      refine (eqByteS_c _ S S' _ _ _ _ _ _ (by repeat (first | assumption | (refine Own.sl ?_; assumption) | refine Sl.setCell_ne ?_ (by show ¬ (_ ≤ _); (try simp only [World.size_alloc, size_setCell, size_drew, size_drewN]); omega) _ | refine Sl.alloc ?_ _ | refine Sl.drew ?_ _ | refine Sl.below ?_ (by assumption))) (by repeat (first | assumption | (refine Own.sl ?_; assumption) | refine Sl.setCell_ne ?_ (by show ¬ (_ ≤ _); (try simp only [World.size_alloc, size_setCell, size_drew, size_drewN]); omega) _ | refine Sl.alloc ?_ _ | refine Sl.drew ?_ _ | refine Sl.below ?_ (by assumption)))).mono ?_
      rintro _ w1 ⟨rfl, hb1⟩
      obtain ⟨hc1, hf1⟩ := bcell hb1
      have hz1 := hb1.size
      try simp only [World.size_alloc, size_setCell, size_drew, size_drewN] at hz1
      have hz1x0 : w.heap.size < w1.heap.size := by omega
      have hz1x1 : w.heap.size + 1 < w1.heap.size := by omega
      go_wp2
      go_ret
      exact ⟨ret_bool (by simp [hl]), (by repeat (first | exact Below.refl _ _ | assumption | refine Below.step ?_ (by assumption) | refine Below.drew ?_ | refine Below.drewN ?_ _ | refine Below.alloc ?_ (by first | omega | (simp only [World.size_alloc, size_setCell, size_drew, size_drewN]; omega)) _ | refine Below.setCell ?_ (by first | (dsimp only; omega) | (simp only [World.size_alloc, size_setCell, size_drew, size_drewN]; omega)) _))⟩
  · have hne : (n != m) = true := by simpa using hn
    go_enter Try.func31, Try.ntmps31
    go_wp2
    go_ret
    exact ⟨ret_bool (by simp [hn]), (by repeat (first | exact Below.refl _ _ | assumption | refine Below.step ?_ (by assumption) | refine Below.drew ?_ | refine Below.drewN ?_ _ | refine Below.alloc ?_ (by first | omega | (simp only [World.size_alloc, size_setCell, size_drew, size_drewN]; omega)) _ | refine Below.setCell ?_ (by first | (dsimp only; omega) | (simp only [World.size_alloc, size_setCell, size_drew, size_drewN]; omega)) _))⟩

theorem markSet_c (S : Nat → Prop) (n : Int) (a : Option Addr) (cap : Nat) (l : List UInt8) (q : Nat) (w : World) (h : Own bC 5 S w a cap l) (hq : q + l.length ≤ 1099511627776) :
    Calls Try.prog 36 #[.agg #[.int .i64 n, .slice a l.length cap], .int .i64 (q : Int)] w fun r w' => r = .returned (.int .i64 ((q + l.length : Nat) : Int)) ∧ Own bC 5 S w' a cap (mkB q l.length) ∧ Chg S w w' := by
  go_enter Try.func36, Try.ntmps36
  go_wp2_with fail
  refine (markByteS_c _ S _ _ _ (by repeat (first | assumption | refine Own.setCell_ne ?_ (by show ¬ (_ ≤ _); (try simp only [World.size_alloc, size_setCell, size_drew, size_drewN]); omega) _ | refine Own.alloc ?_ _ | refine Own.drew ?_ _)) _ hq).mono ?_
  rintro _ w1 ⟨rfl, ho, hb1⟩
  go_wp2
  go_ret
  exact ⟨rfl, ho, ((Chg.refl S w).alloc _).trans hb1⟩

theorem heldSet_c (S : Nat → Prop) (n : Int) (a : Option Addr) (cap k : Nat) (q : Nat) (w : World) (h : Sl bC S w a cap (mkB q k)) (hq : q + k ≤ 1099511627776) :
    Calls Try.prog 37 #[.agg #[.int .i64 n, .slice a k cap], .int .i64 (q : Int)] w fun r w' => r = .returned (.int .i64 ((q + k : Nat) : Int)) ∧ Below w.heap.size w w' := by
  go_enter Try.func37, Try.ntmps37
  go_wp2_with fail
  refine (heldByteS_c _ S _ _ _ _ (by repeat (first | assumption | (refine Own.sl ?_; assumption) | refine Sl.setCell_ne ?_ (by show ¬ (_ ≤ _); (try simp only [World.size_alloc, size_setCell, size_drew, size_drewN]); omega) _ | refine Sl.alloc ?_ _ | refine Sl.drew ?_ _ | refine Sl.below ?_ (by assumption))) hq).mono ?_
  rintro _ w1 ⟨rfl, hb1⟩
  obtain ⟨hc1, hf1⟩ := bcell hb1
  have hz1 := hb1.size
  try simp only [World.size_alloc, size_setCell, size_drew, size_drewN] at hz1
  have hz1x0 : w.heap.size < w1.heap.size := by omega
  go_wp2
  go_ret
  exact ⟨rfl, (by repeat (first | exact Below.refl _ _ | assumption | refine Below.step ?_ (by assumption) | refine Below.drew ?_ | refine Below.drewN ?_ _ | refine Below.alloc ?_ (by first | omega | (simp only [World.size_alloc, size_setCell, size_drew, size_drewN]; omega)) _ | refine Below.setCell ?_ (by first | (dsimp only; omega) | (simp only [World.size_alloc, size_setCell, size_drew, size_drewN]; omega)) _))⟩

end Go.Proofs.Ytjejhdogbhdgoaa
