/-
  Contracts of With and Without, the program's and the reference's.
-/
import Derived.Test.YtjejhdogbhdgoaaDigestC
import Derived.StillTailTactics
namespace Go.Proofs.Ytjejhdogbhdgoaa
set_option linter.unusedSimpArgs false
set_option linter.unusedVariables false
open Go.RowKit

set_option maxHeartbeats 1000000 in
theorem copyBytes_c (S : Nat → Prop) (a : Option Addr) (cap : Nat) (l : List UInt8) (w : World) (h : Sl bC S w a cap l) (hl : l.length ≤ 1099511627776) :
    Calls Try.prog 73 #[.slice a l.length cap] w fun r w' => ∃ a' cap', r = .returned (.slice a' l.length cap') ∧ Own bC 5 (w.heap.size ≤ ·) w' a' cap' l ∧ Below w.heap.size w w' := by
  go_enter Try.func73, Try.ntmps73
  go_wp2_with (at_builtin; go_must (refine wpList_join rfl _ _ 40 rfl w.heap.size 5 _ _ Try.underlying40 infoU8 rfl none 0 [] rfl Own.nil S a cap l rfl h bC_one (by unfold maxLen; simp; omega) (by simp; omega) (Nat.le_refl _) ?_; intro a1 c1 w1 ho1 hg1))
  go_ret
  exact ⟨a1, c1, by simp, by simpa using ho1, hg1.below⟩

set_option maxHeartbeats 1000000 in
theorem copySet_c (S : Nat → Prop) (n : Int) (a : Option Addr) (cap : Nat) (l : List UInt8) (w : World) (h : Sl bC S w a cap l) (hl : l.length ≤ 1048576) :
    Calls Try.prog 68 #[.agg #[.int .i64 n, .slice a l.length cap]] w fun r w' => ∃ a' cap', r = .returned (.agg #[.int .i64 n, .slice a' l.length cap']) ∧ Own bC 5 (w.heap.size ≤ ·) w' a' cap' l ∧ Below w.heap.size w w' := by
  go_enter Try.func68, Try.ntmps68
  go_wp2_with fail
  obtain ⟨W0, hW0⟩ : ∃ W0, W0 = (w.alloc (Obj.cells #[Value.int IntKind.i64 n, Value.slice a l.length cap] 45)).alloc (Obj.cells #[Value.int IntKind.i64 0, Value.slice none 0 0] 45) := ⟨_, rfl⟩
  have db : Below w.heap.size w W0 := by rw [hW0]; exact (by repeat (first | exact Below.refl _ _ | assumption | refine Below.step ?_ (by assumption) | refine Below.drew ?_ | refine Below.drewN ?_ _ | refine Below.alloc ?_ (by first | omega | (simp only [World.size_alloc, size_setCell, size_drew, size_drewN]; omega)) _ | refine Below.setCell ?_ (by first | (dsimp only; omega) | (simp only [World.size_alloc, size_setCell, size_drew, size_drewN]; omega)) _))
  have dz := db.size
  have f0 : W0.cell? ⟨w.heap.size, 0, none⟩ = some (.int .i64 n) := by rw [hW0]; simp [go_sem]
  have f1 : W0.cell? ⟨w.heap.size, 1, none⟩ = some (.slice a l.length cap) := by rw [hW0]; simp [go_sem]
  have x0 : W0.cell? ⟨w.heap.size + 1, 0, none⟩ = some (.int .i64 0) := by rw [hW0]; simp [go_sem]
  have x1 : W0.cell? ⟨w.heap.size + 1, 1, none⟩ = some (.slice none 0 0) := by rw [hW0]; simp [go_sem]
  have hW : W0.heap.size = w.heap.size + 1 + 1 := by rw [hW0]; simp
  have y0 : W0.frozen? ⟨w.heap.size + 1, 0, none⟩ = false := by rw [hW0]; simp [go_sem]
  have y1 : W0.frozen? ⟨w.heap.size + 1, 1, none⟩ = false := by rw [hW0]; simp [go_sem]
  rw [← hW0]
  clear hW0
  have HW := Lib.hid hW
  clear hW
  have k2 : ∀ w', Below W0.heap.size W0.drew w' → (w'.cell? ⟨w.heap.size, 0, none⟩ = some (.int .i64 n) ∧ w'.cell? ⟨w.heap.size, 1, none⟩ = some (.slice a l.length cap)) :=
    fun w' hb => ⟨cell_below (w := W0.drew) hb f0, cell_below (w := W0.drew) hb f1⟩
  go_region_held3 (fun w' => w'.cell? ⟨w.heap.size, 0, none⟩ = some (.int .i64 n) ∧ w'.cell? ⟨w.heap.size, 1, none⟩ = some (.slice a l.length cap))
    (first
      | go_keep
      | exact k2 _ hb1)
    ((first
      | (go_at_call 73; refine (copyBytes_c _ _ _ _ _ (h.below db).drew1 (by omega)).mono ?_; rintro _ w1 ⟨a1, c1, rfl, ho1, hb1⟩
         have z0 := cell_below (w := W0.drew) hb1 x0
         have z1 := cell_below (w := W0.drew) hb1 x1
         have z2 := (hb1.frozen (p := ⟨w.heap.size + 1, 0, none⟩) (World.block_lt_of_cell? W0 _ x0)).trans y0
         have z3 := (hb1.frozen (p := ⟨w.heap.size + 1, 1, none⟩) (World.block_lt_of_cell? W0 _ x1)).trans y1)
      | fail))
  go_wp2
  refine bodyPost_ret (v := .agg #[.int .i64 n, .slice a1 l.length c1]) (by simp [results, Try.results68, go_sem, z0, z1, z2, z3]) rfl ?_
  have hsz := HW.out
  have hsd : W0.drew.heap.size = W0.heap.size := rfl
  exact ⟨a1, c1, rfl, (Own.lift ho1 (by intro b hS hb; (try simp only [World.size_alloc, size_setCell, size_drew, size_drewN] at hS); (try simp only [heap_drew, heap_drewN]); repeat (first | rfl | rw [Below.heap_setCell _ _ _ _ (by dsimp only; omega)] | rw [Below.heap_alloc _ _ _ (by simp only [World.size_alloc, size_setCell, size_drew, size_drewN]; omega)])) (by intro b _ hb; (try simp only [World.size_alloc, size_setCell, size_drew, size_drewN] at hb); omega)), (by repeat (first | exact Below.refl _ _ | assumption | refine Below.step ?_ (by assumption) | refine Below.drew ?_ | refine Below.drewN ?_ _ | refine Below.alloc ?_ (by first | omega | (simp only [World.size_alloc, size_setCell, size_drew, size_drewN]; omega)) _ | refine Below.setCell ?_ (by first | (dsimp only; omega) | (simp only [World.size_alloc, size_setCell, size_drew, size_drewN]; omega)) _))⟩

/-- Bits of a byte. -/
def setBit (l : List UInt8) (v : Nat) : List UInt8 := l.set (v / 8) (UInt8.ofNat ((l.getD (v / 8) 0).toNat ||| 2 ^ (v % 8)))
def clrBit (l : List UInt8) (v : Nat) : List UInt8 := l.set (v / 8) (UInt8.ofNat ((l.getD (v / 8) 0).toNat &&& (255 - 2 ^ (v % 8))))

theorem pow_int (k : Nat) (h : k < 8) : IntKind.u8.wrap (2 ^ k) = ((2 ^ k : Nat) : Int) := by
  have := pow_le k (by omega)
  have h2 : ((2 : Int) ^ k) = ((2 ^ k : Nat) : Int) := by push_cast; rfl
  rw [h2]
  generalize 2 ^ k = m at *
  exact IntWalk.u8_in _ (by omega)

theorem ofNat_toNat (m : Nat) (h : m < 256) : (UInt8.ofNat m).toNat = m := by
  simp; omega

theorem or_val (x : UInt8) (k : Nat) (h : k < 8) : bits BinOp.or IntKind.u8 (x.toNat : Int) (IntKind.u8.wrap (2 ^ k)) = ((UInt8.ofNat (x.toNat ||| 2 ^ k)).toNat : Int) := by
  have hx := x.toNat_lt
  have hp := pow_le k (by omega)
  have ho : x.toNat ||| 2 ^ k < 2 ^ 8 := Nat.or_lt_two_pow (by omega) (by omega)
  rw [pow_int k h, u8_or_nat _ _ (by omega) (by omega), ofNat_toNat _ ho]

theorem clr_val (x : UInt8) (k : Nat) (h : k < 8) : bits BinOp.andNot IntKind.u8 (x.toNat : Int) (IntKind.u8.wrap (2 ^ k)) = ((UInt8.ofNat (x.toNat &&& (255 - 2 ^ k))).toNat : Int) := by
  have hx := x.toNat_lt
  have hp := pow_le k (by omega)
  have ho : x.toNat &&& (255 - 2 ^ k) < 2 ^ 8 := Nat.and_lt_two_pow _ (Nat.lt_of_le_of_lt (Nat.sub_le _ _) (by omega))
  rw [pow_int k h, u8_andNot_nat _ _ (by omega) (by omega), ofNat_toNat _ ho]

set_option maxHeartbeats 1000000 in
theorem add_in (S : Nat → Prop) (b0 : Nat) (n : Int) (a : Option Addr) (cap : Nat) (l : List UInt8) (v : Nat) (w : World) (f0 : w.cell? ⟨b0, 0, none⟩ = some (.int .i64 n)) (f1 : w.cell? ⟨b0, 1, none⟩ = some (.slice a l.length cap))
    (h : Own bC 5 S w a cap l) (hv : (v : Int) < n) (hl : v / 8 < l.length) (hv' : v ≤ 1099511627776) :
    Calls Try.prog 69 #[.pointer (some ⟨b0, 0, none⟩), .int .i64 (v : Int)] w fun r w' => r = .returned (.tuple #[]) ∧ Own bC 5 S w' a cap (setBit l v) ∧ Chg S w w' := by
  obtain ⟨b1, off1, rfl, hS, hbw, hcell⟩ := h.sl.get (by omega)
  obtain ⟨y, hy⟩ : ∃ y, y = UInt8.ofNat ((l.getD (v / 8) 0).toNat ||| 2 ^ (v % 8)) := ⟨_, rfl⟩
  obtain ⟨rfl, _, g1, g2, hst⟩ := h.set rfl hl y
  have HY := Lib.hid hy
  clear hy
  unfold bC at g1
  clear hcell
  have q1 : IntKind.i64.wrap ((v : Int) / 8) = (v : Int) / 8 := IntWalk.i64_in _ (by omega)
  have q2 : ((v : Int) / 8).toNat = v / 8 := by omega
  have q3 : 0 ≤ (v : Int) / 8 := by omega
  have q4 : (v : Int) / 8 < (l.length : Int) := by omega
  have hx := l[v / 8].toNat_lt
  have q6 : (v : Int).tmod 8 = (v : Int) % 8 := Int.tmod_eq_emod_of_nonneg (by omega)
  have q7 : 0 ≤ (v : Int) % 8 := by omega
  have q8 : ((v : Int) % 8).toNat = v % 8 := by omega
  have q9 : v % 8 < 8 := by omega
  go_enter Try.func69, Try.ntmps69
  go_wp2
  go_still_tail 13, (by kernel_rfl)
  have e : bits BinOp.or IntKind.u8 (l[v / 8].toNat : Int) (IntKind.u8.wrap (2 ^ (v % 8))) = (y.toNat : Int) := by
    rw [HY.out, or_val _ _ q9]; simp [List.getD, hl]
  rw [e]
  clear e
  change wpList _ _ _ _ _ w.drew
  go_wp2
  go_end0
  refine ⟨rfl, ?_, ?_⟩
  · unfold setBit; rw [← HY.out]; exact hst.drew1
  · exact ((Chg.refl S w).drew).setCell hS _

theorem add_out (b0 : Nat) (n : Int) (x : Value) (v : Int) (w : World) (f0 : w.cell? ⟨b0, 0, none⟩ = some (.int .i64 n)) (f1 : w.cell? ⟨b0, 1, none⟩ = some x) (hv : ¬ (0 ≤ v ∧ v < n)) :
    Calls Try.prog 69 #[.pointer (some ⟨b0, 0, none⟩), .int .i64 v] w fun r w' => r = .returned (.tuple #[]) ∧ w = w' := by
  by_cases h0 : v < 0
  · go_enter Try.func69, Try.ntmps69
    go_wp2
    go_end0
    exact ⟨rfl, rfl⟩
  · have h1 : n ≤ v := by omega
    clear hv
    go_enter Try.func69, Try.ntmps69
    go_wp2
    go_end0
    exact ⟨rfl, rfl⟩

def turnN (n : Int) (l : List UInt8) : Int := if setOk n l = true then n else 0
def withL (n : Int) (l : List UInt8) (v : Int) : List UInt8 := if setOk n l = true then (if 0 ≤ v ∧ v < n then setBit l v.toNat else l) else []
def woutL (n : Int) (l : List UInt8) (v : Int) : List UInt8 := if setOk n l = true then (if 0 ≤ v ∧ v < n then clrBit l v.toNat else l) else []

set_option maxHeartbeats 1000000 in
theorem implWith (S : Nat → Prop) (n : Int) (a : Option Addr) (cap : Nat) (l : List UInt8) (v : Int) (w : World) (h : Sl bC S w a cap l) (hl : l.length ≤ 1048576) :
    Calls Try.prog 48 #[.agg #[.int .i64 n, .slice a l.length cap], .int .i64 v] w fun r w' => ∃ a' cap', r = .returned (.agg #[.int .i64 (turnN n l), .slice a' (withL n l v).length cap']) ∧ Own bC 5 (w.heap.size ≤ ·) w' a' cap' (withL n l v) ∧ Below w.heap.size w w' := by
  by_cases h1 : setOk n l = true
  case neg =>
    have H1 := Lib.hid (show setOk n l = false by simpa using h1)
    clear h1
    go_enter Try.func48, Try.ntmps48
    go_wp2_with fail
    refine (implSetOk_no _ _ _ _ _ _ (h.below (by repeat (first | exact Below.refl _ _ | assumption | refine Below.step ?_ (by assumption) | refine Below.drew ?_ | refine Below.drewN ?_ _ | refine Below.alloc ?_ (by first | omega | (simp only [World.size_alloc, size_setCell, size_drew, size_drewN]; omega)) _ | refine Below.setCell ?_ (by first | (dsimp only; omega) | (simp only [World.size_alloc, size_setCell, size_drew, size_drewN]; omega)) _))) hl H1.out).mono ?_
    rintro _ w1 ⟨rfl, hb1⟩
    obtain ⟨hc1, hf1⟩ := bcell hb1
    have hz1 := hb1.size
    try simp only [World.size_alloc, size_setCell, size_drew, size_drewN] at hz1
    have hz1x0 : w.heap.size < w1.heap.size := by omega
    have hz1x1 : w.heap.size + 1 < w1.heap.size := by omega
    go_wp2
    have e1 : turnN n l = 0 := by simp [turnN, H1.out]
    have e2 : withL n l v = [] := by simp [withL, H1.out]
    rw [e1, e2]
    refine bodyPost_ret (v := .agg #[.int .i64 0, .slice none 0 0]) (by simp [results, Try.results48, go_sem, hc1, hf1, hz1x0, hz1x1]) rfl ?_
    exact ⟨none, 0, rfl, Own.nil, (by repeat (first | exact Below.refl _ _ | assumption | refine Below.step ?_ (by assumption) | refine Below.drew ?_ | refine Below.drewN ?_ _ | refine Below.alloc ?_ (by first | omega | (simp only [World.size_alloc, size_setCell, size_drew, size_drewN]; omega)) _ | refine Below.setCell ?_ (by first | (dsimp only; omega) | (simp only [World.size_alloc, size_setCell, size_drew, size_drewN]; omega)) _))⟩
  case pos =>
    obtain ⟨hn0, hn1, hn2⟩ := setOk_len h1
    have H1 := Lib.hid h1
    have HN := Lib.hid hn2
    clear h1 hn2
    by_cases hv : 0 ≤ v ∧ v < n
    · obtain ⟨k, rfl⟩ := Int.eq_ofNat_of_zero_le hv.1
      have hk8 : k / 8 < l.length := by have := HN.out; omega
      have hv2 := hv.2
      have E := Lib.hid (show withL n l (k : Int) = setBit l k ∧ turnN n l = n by simp [withL, turnN, H1.out, hv2])
      clear hv
      go_enter Try.func48, Try.ntmps48
      go_wp2_with fail
      refine (implSetOk_yes _ _ _ _ _ _ (h.below (by repeat (first | exact Below.refl _ _ | assumption | refine Below.step ?_ (by assumption) | refine Below.drew ?_ | refine Below.drewN ?_ _ | refine Below.alloc ?_ (by first | omega | (simp only [World.size_alloc, size_setCell, size_drew, size_drewN]; omega)) _ | refine Below.setCell ?_ (by first | (dsimp only; omega) | (simp only [World.size_alloc, size_setCell, size_drew, size_drewN]; omega)) _))) hl H1.out).mono ?_
      rintro _ w1 ⟨rfl, hb1⟩
      obtain ⟨hc1, hf1⟩ := bcell hb1
      have hz1 := hb1.size
      try simp only [World.size_alloc, size_setCell, size_drew, size_drewN] at hz1
      have hz1x0 : w.heap.size < w1.heap.size := by omega
      have hz1x1 : w.heap.size + 1 < w1.heap.size := by omega
      have hB1 : Below w.heap.size w w1 := (by repeat (first | exact Below.refl _ _ | assumption | refine Below.step ?_ (by assumption) | refine Below.drew ?_ | refine Below.drewN ?_ _ | refine Below.alloc ?_ (by first | omega | (simp only [World.size_alloc, size_setCell, size_drew, size_drewN]; omega)) _ | refine Below.setCell ?_ (by first | (dsimp only; omega) | (simp only [World.size_alloc, size_setCell, size_drew, size_drewN]; omega)) _))
      go_wp2_with fail
      refine (copySet_c _ _ _ _ _ _ (h.below hB1) hl).mono ?_
      rintro _ w2 ⟨a2, c2, rfl, ho2, hb2⟩
      obtain ⟨hc2, hf2⟩ := bcell hb2
      have hz2 := hb2.size
      have hz2x0 : w.heap.size < w2.heap.size := by omega
      have hz2x1 : w.heap.size + 1 < w2.heap.size := by omega
      go_wp2_with fail
      refine (add_in (fun b => w1.heap.size ≤ b ∧ b < w2.heap.size) w2.heap.size n a2 c2 l k _ (by simp [go_sem]) (by simp [go_sem]) ((ho2.mono fun b hb hS => ⟨hS, hb⟩).alloc _) hv2 hk8 (by omega)).mono ?_
      rintro _ w3 ⟨rfl, ho3, hb3⟩
      have c3a := chg_cell hb3 (b := w2.heap.size) (by simp) (by omega)
      have c3b := chg_cell hb3 (b := w.heap.size + 1) (by simp; omega) (by omega)
      have c3f := chg_frozen hb3 (b := w.heap.size + 1) (by simp; omega) (by omega)
      have hz3 := hb3.size
      simp only [World.size_alloc] at hz3
      go_wp2
      rw [E.out.1, E.out.2]
      have hsl : (setBit l k).length = l.length := by simp [setBit]
      rw [hsl]
      refine bodyPost_ret (v := .agg #[.int .i64 n, .slice a2 l.length c2]) (by simp [results, Try.results48, go_sem, c3a, c3b, c3f, hc1, hf1, hc2, hf2, hz1x0, hz1x1, hz2x0, hz2x1]) rfl ?_
      have hb3' : Below w1.heap.size (w2.alloc (Obj.cells #[Value.int IntKind.i64 n, Value.slice a2 l.length c2] 45)) w3 := hb3.below (fun b _ hS => hS.1) (by simp; omega)
      have hB3 : Below w.heap.size w w3 := Below.step hB1 ((hb2.alloc hb2.size _).trans hb3')
      exact ⟨a2, c2, rfl, (Own.lift ho3 (by intro b hS hb; (try simp only [World.size_alloc, size_setCell, size_drew, size_drewN] at hS); (try simp only [heap_drew, heap_drewN]); repeat (first | rfl | rw [Below.heap_setCell _ _ _ _ (by dsimp only; omega)] | rw [Below.heap_alloc _ _ _ (by simp only [World.size_alloc, size_setCell, size_drew, size_drewN]; omega)])) (by intro b _ hb; (try simp only [World.size_alloc, size_setCell, size_drew, size_drewN] at hb); omega)), (by repeat (first | exact Below.refl _ _ | assumption | refine Below.step ?_ (by assumption) | refine Below.drew ?_ | refine Below.drewN ?_ _ | refine Below.alloc ?_ (by first | omega | (simp only [World.size_alloc, size_setCell, size_drew, size_drewN]; omega)) _ | refine Below.setCell ?_ (by first | (dsimp only; omega) | (simp only [World.size_alloc, size_setCell, size_drew, size_drewN]; omega)) _))⟩
    · have E := Lib.hid (show withL n l v = l ∧ turnN n l = n by simp only [withL, turnN, H1.out, if_true, if_neg hv, and_self])
      have HV := Lib.hid hv
      clear hv
      go_enter Try.func48, Try.ntmps48
      go_wp2_with fail
      refine (implSetOk_yes _ _ _ _ _ _ (h.below (by repeat (first | exact Below.refl _ _ | assumption | refine Below.step ?_ (by assumption) | refine Below.drew ?_ | refine Below.drewN ?_ _ | refine Below.alloc ?_ (by first | omega | (simp only [World.size_alloc, size_setCell, size_drew, size_drewN]; omega)) _ | refine Below.setCell ?_ (by first | (dsimp only; omega) | (simp only [World.size_alloc, size_setCell, size_drew, size_drewN]; omega)) _))) hl H1.out).mono ?_
      rintro _ w1 ⟨rfl, hb1⟩
      obtain ⟨hc1, hf1⟩ := bcell hb1
      have hz1 := hb1.size
      try simp only [World.size_alloc, size_setCell, size_drew, size_drewN] at hz1
      have hz1x0 : w.heap.size < w1.heap.size := by omega
      have hz1x1 : w.heap.size + 1 < w1.heap.size := by omega
      have hB1 : Below w.heap.size w w1 := (by repeat (first | exact Below.refl _ _ | assumption | refine Below.step ?_ (by assumption) | refine Below.drew ?_ | refine Below.drewN ?_ _ | refine Below.alloc ?_ (by first | omega | (simp only [World.size_alloc, size_setCell, size_drew, size_drewN]; omega)) _ | refine Below.setCell ?_ (by first | (dsimp only; omega) | (simp only [World.size_alloc, size_setCell, size_drew, size_drewN]; omega)) _))
      go_wp2_with fail
      refine (copySet_c _ _ _ _ _ _ (h.below hB1) hl).mono ?_
      rintro _ w2 ⟨a2, c2, rfl, ho2, hb2⟩
      obtain ⟨hc2, hf2⟩ := bcell hb2
      have hz2 := hb2.size
      have hz2x0 : w.heap.size < w2.heap.size := by omega
      have hz2x1 : w.heap.size + 1 < w2.heap.size := by omega
      go_wp2_with fail
      refine (add_out w2.heap.size n (.slice a2 l.length c2) v _ (by simp [go_sem]) (by simp [go_sem]) HV.out).mono ?_
      rintro _ _ ⟨rfl, rfl⟩
      go_wp2
      rw [E.out.1, E.out.2]
      refine bodyPost_ret (v := .agg #[.int .i64 n, .slice a2 l.length c2]) (by simp [results, Try.results48, go_sem, hc1, hf1, hc2, hf2, hz1x0, hz1x1, hz2x0, hz2x1]) rfl ?_
      have hB2 : Below w.heap.size w w2 := Below.step hB1 hb2
      exact ⟨a2, c2, rfl, (Own.lift ho2 (by intro b hS hb; (try simp only [World.size_alloc, size_setCell, size_drew, size_drewN] at hS); (try simp only [heap_drew, heap_drewN]); repeat (first | rfl | rw [Below.heap_setCell _ _ _ _ (by dsimp only; omega)] | rw [Below.heap_alloc _ _ _ (by simp only [World.size_alloc, size_setCell, size_drew, size_drewN]; omega)])) (by intro b _ hb; (try simp only [World.size_alloc, size_setCell, size_drew, size_drewN] at hb); omega)), (by repeat (first | exact Below.refl _ _ | assumption | refine Below.step ?_ (by assumption) | refine Below.drew ?_ | refine Below.drewN ?_ _ | refine Below.alloc ?_ (by first | omega | (simp only [World.size_alloc, size_setCell, size_drew, size_drewN]; omega)) _ | refine Below.setCell ?_ (by first | (dsimp only; omega) | (simp only [World.size_alloc, size_setCell, size_drew, size_drewN]; omega)) _))⟩

set_option maxHeartbeats 1000000 in
theorem implWithout (S : Nat → Prop) (n : Int) (a : Option Addr) (cap : Nat) (l : List UInt8) (v : Int) (w : World) (h : Sl bC S w a cap l) (hl : l.length ≤ 1048576) :
    Calls Try.prog 46 #[.agg #[.int .i64 n, .slice a l.length cap], .int .i64 v] w fun r w' => ∃ a' cap', r = .returned (.agg #[.int .i64 (turnN n l), .slice a' (woutL n l v).length cap']) ∧ Own bC 5 (w.heap.size ≤ ·) w' a' cap' (woutL n l v) ∧ Below w.heap.size w w' := by
  by_cases h1 : setOk n l = true
  case neg =>
    have H1 := Lib.hid (show setOk n l = false by simpa using h1)
    clear h1
    go_enter Try.func46, Try.ntmps46
    go_wp2_with fail
    refine (implSetOk_no _ _ _ _ _ _ (h.below (by repeat (first | exact Below.refl _ _ | assumption | refine Below.step ?_ (by assumption) | refine Below.drew ?_ | refine Below.drewN ?_ _ | refine Below.alloc ?_ (by first | omega | (simp only [World.size_alloc, size_setCell, size_drew, size_drewN]; omega)) _ | refine Below.setCell ?_ (by first | (dsimp only; omega) | (simp only [World.size_alloc, size_setCell, size_drew, size_drewN]; omega)) _))) hl H1.out).mono ?_
    rintro _ w1 ⟨rfl, hb1⟩
    obtain ⟨hc1, hf1⟩ := bcell hb1
    have hz1 := hb1.size
    try simp only [World.size_alloc, size_setCell, size_drew, size_drewN] at hz1
    have hz1x0 : w.heap.size < w1.heap.size := by omega
    have hz1x1 : w.heap.size + 1 < w1.heap.size := by omega
    go_wp2
    have e1 : turnN n l = 0 := by simp [turnN, H1.out]
    have e2 : woutL n l v = [] := by simp [woutL, H1.out]
    rw [e1, e2]
    refine bodyPost_ret (v := .agg #[.int .i64 0, .slice none 0 0]) (by simp [results, Try.results46, go_sem, hc1, hf1, hz1x0, hz1x1]) rfl ?_
    exact ⟨none, 0, rfl, Own.nil, (by repeat (first | exact Below.refl _ _ | assumption | refine Below.step ?_ (by assumption) | refine Below.drew ?_ | refine Below.drewN ?_ _ | refine Below.alloc ?_ (by first | omega | (simp only [World.size_alloc, size_setCell, size_drew, size_drewN]; omega)) _ | refine Below.setCell ?_ (by first | (dsimp only; omega) | (simp only [World.size_alloc, size_setCell, size_drew, size_drewN]; omega)) _))⟩
  case pos =>
    obtain ⟨hn0, hn1, hn2⟩ := setOk_len h1
    have H1 := Lib.hid h1
    have HN := Lib.hid hn2
    clear h1 hn2
    by_cases hv : 0 ≤ v ∧ v < n
    · obtain ⟨k, rfl⟩ := Int.eq_ofNat_of_zero_le hv.1
      have hk8 : k / 8 < l.length := by have := HN.out; omega
      have hv2 := hv.2
      have E := Lib.hid (show woutL n l (k : Int) = clrBit l k ∧ turnN n l = n by simp [woutL, turnN, H1.out, hv2])
      clear hv
      go_enter Try.func46, Try.ntmps46
      go_wp2_with fail
      refine (implSetOk_yes _ _ _ _ _ _ (h.below (by repeat (first | exact Below.refl _ _ | assumption | refine Below.step ?_ (by assumption) | refine Below.drew ?_ | refine Below.drewN ?_ _ | refine Below.alloc ?_ (by first | omega | (simp only [World.size_alloc, size_setCell, size_drew, size_drewN]; omega)) _ | refine Below.setCell ?_ (by first | (dsimp only; omega) | (simp only [World.size_alloc, size_setCell, size_drew, size_drewN]; omega)) _))) hl H1.out).mono ?_
      rintro _ w1 ⟨rfl, hb1⟩
      obtain ⟨hc1, hf1⟩ := bcell hb1
      have hz1 := hb1.size
      try simp only [World.size_alloc, size_setCell, size_drew, size_drewN] at hz1
      have hz1x0 : w.heap.size < w1.heap.size := by omega
      have hz1x1 : w.heap.size + 1 < w1.heap.size := by omega
      have hB1 : Below w.heap.size w w1 := (by repeat (first | exact Below.refl _ _ | assumption | refine Below.step ?_ (by assumption) | refine Below.drew ?_ | refine Below.drewN ?_ _ | refine Below.alloc ?_ (by first | omega | (simp only [World.size_alloc, size_setCell, size_drew, size_drewN]; omega)) _ | refine Below.setCell ?_ (by first | (dsimp only; omega) | (simp only [World.size_alloc, size_setCell, size_drew, size_drewN]; omega)) _))
      go_wp2_with fail
      refine (copySet_c _ _ _ _ _ _ (h.below hB1) hl).mono ?_
      rintro _ w2 ⟨a2, c2, rfl, ho2, hb2⟩
      obtain ⟨hc2, hf2⟩ := bcell hb2
      have hz2 := hb2.size
      have hz2x0 : w.heap.size < w2.heap.size := by omega
      have hz2x1 : w.heap.size + 1 < w2.heap.size := by omega
      obtain ⟨b1, off1, rfl, hS, hbw, hcell⟩ := ho2.sl.get (by omega)
      obtain ⟨y, hy⟩ : ∃ y, y = UInt8.ofNat ((l.getD (k / 8) 0).toNat &&& (255 - 2 ^ (k % 8))) := ⟨_, rfl⟩
      obtain ⟨rfl, _, g1, g2, hst⟩ := ho2.set rfl hk8 y
      have HY := Lib.hid hy
      clear hy hcell
      unfold bC at g1
      have q1 : IntKind.i64.wrap ((k : Int) / 8) = (k : Int) / 8 := IntWalk.i64_in _ (by omega)
      have q2 : ((k : Int) / 8).toNat = k / 8 := by omega
      have q3 : 0 ≤ (k : Int) / 8 := by omega
      have q4 : (k : Int) / 8 < (l.length : Int) := by omega
      have q6 : (k : Int).tmod 8 = (k : Int) % 8 := Int.tmod_eq_emod_of_nonneg (by omega)
      have q7 : 0 ≤ (k : Int) % 8 := by omega
      have q8 : ((k : Int) % 8).toNat = k % 8 := by omega
      have q9 : k % 8 < 8 := by omega
      have qd : decide ((k : Int) < n) = true := by simpa using hv2
      have p0 : w2.cell? ⟨w.heap.size + 1, 0, none⟩ = some (.int .i64 0) := by rw [hc2 _ _ (by omega), hc1 _ _ (by simp only [World.size_alloc]; omega)]; simp [go_sem]
      have p1 : w2.cell? ⟨w.heap.size + 1, 1, none⟩ = some (.slice none 0 0) := by rw [hc2 _ _ (by omega), hc1 _ _ (by simp only [World.size_alloc]; omega)]; simp [go_sem]
      have p2 : w2.frozen? ⟨w.heap.size + 1, 0, none⟩ = false := by rw [hf2 _ _ (by omega), hf1 _ _ (by simp only [World.size_alloc]; omega)]; simp [go_sem]
      have p3 : w2.frozen? ⟨w.heap.size + 1, 1, none⟩ = false := by rw [hf2 _ _ (by omega), hf1 _ _ (by simp only [World.size_alloc]; omega)]; simp [go_sem]
      have r0 : w2.cell? ⟨w.heap.size, 0, none⟩ = some (.int .i64 n) := by rw [hc2 _ _ (by omega), hc1 _ _ (by simp only [World.size_alloc]; omega)]; simp [go_sem]
      go_wp2
      obtain ⟨W2, hW2⟩ : ∃ W2, W2 = w2.alloc (Obj.cells #[Value.int IntKind.i64 n, Value.slice (some ⟨b1, 0, none⟩) l.length c2] 45) := ⟨_, rfl⟩
      rw [← hW2]
      have o0 : W2.cell? ⟨w2.heap.size, 0, none⟩ = some (.int .i64 n) := by rw [hW2]; simp [go_sem]
      have o1 : W2.cell? ⟨w2.heap.size, 1, none⟩ = some (.slice (some ⟨b1, 0, none⟩) l.length c2) := by rw [hW2]; simp [go_sem]
      have hB2 : Below w2.heap.size w2 W2 := by rw [hW2]; exact (Below.refl _ _).alloc (Nat.le_refl _) _
      have hz2' : w2.heap.size < W2.heap.size := by rw [hW2]; simp
      replace ho2 := ho2.below hB2
      replace hst : Own bC 5 (fun b => w1.heap.size ≤ b) (W2.setCell ⟨b1, k / 8, none⟩ (bC y)) (some ⟨b1, 0, none⟩) c2 (l.set (k / 8) y) := (ho2.set rfl hk8 y).2.2.2.2
      clear hW2
      have s0 := cell_below hB2 p0
      have s1 := cell_below hB2 p1
      have s2 := (hB2.frozen (p := ⟨w.heap.size + 1, 0, none⟩) (by dsimp only; omega)).trans p2
      have s3 := (hB2.frozen (p := ⟨w.heap.size + 1, 1, none⟩) (by dsimp only; omega)).trans p3
      have t1 := cell_below hB2 g1
      have t2 := (hB2.frozen (p := ⟨b1, k / 8, none⟩) hbw).trans g2
      have n1 : b1 ≠ w2.heap.size := by omega
      have n2 : b1 ≠ w.heap.size + 1 := by omega
      clear hc1 hf1 hc2 hf2 p0 p1 p2 p3 g1 g2
      go_still_tail 11, (by kernel_rfl)
      have e : bits BinOp.andNot IntKind.u8 (l[k / 8].toNat : Int) (IntKind.u8.wrap (2 ^ (k % 8))) = (y.toNat : Int) := by
        rw [HY.out, clr_val _ _ q9]; simp [List.getD, hk8]
      rw [e]
      clear e
      change wpList _ _ _ _ _ W2.drew
      go_wp2
      rw [E.out.1, E.out.2]
      have hsl : (clrBit l k).length = l.length := by simp [clrBit]
      rw [hsl]
      refine bodyPost_ret (v := .agg #[.int .i64 n, .slice (some ⟨b1, 0, none⟩) l.length c2]) (by simp [results, Try.results46, go_sem, s0, s1, s2, s3, o0, o1, n1, n2, hz2']) rfl ?_
      have hE : clrBit l k = l.set (k / 8) y := by rw [HY.out]; rfl
      rw [hE]
      have hB3 : Below w.heap.size w W2 := Below.step (Below.step hB1 hb2) hB2
      have hst' : Own bC 5 (fun b => w1.heap.size ≤ b) (W2.setCell ⟨b1, k / 8, none⟩ (.int .u8 y.toNat)) (some ⟨b1, 0, none⟩) c2 (l.set (k / 8) y) := hst
      exact ⟨_, c2, rfl, (Own.lift hst' (by intro b hS hb; (try simp only [World.size_alloc, size_setCell, size_drew, size_drewN] at hS); (try simp only [heap_drew, heap_drewN]); repeat (first | rfl | rw [Below.heap_setCell _ _ _ _ (by dsimp only; omega)] | rw [Below.heap_alloc _ _ _ (by simp only [World.size_alloc, size_setCell, size_drew, size_drewN]; omega)])) (by intro b _ hb; (try simp only [World.size_alloc, size_setCell, size_drew, size_drewN] at hb); omega)), (by repeat (first | exact Below.refl _ _ | assumption | refine Below.step ?_ (by assumption) | refine Below.drew ?_ | refine Below.drewN ?_ _ | refine Below.alloc ?_ (by first | omega | (simp only [World.size_alloc, size_setCell, size_drew, size_drewN]; omega)) _ | refine Below.setCell ?_ (by first | (dsimp only; omega) | (simp only [World.size_alloc, size_setCell, size_drew, size_drewN]; omega)) _))⟩
    · have E := Lib.hid (show woutL n l v = l ∧ turnN n l = n by simp only [woutL, turnN, H1.out, if_true, if_neg hv, and_self])
      have HV := Lib.hid hv
      clear hv
      by_cases hv0 : 0 ≤ v
      · have hvn : n ≤ v := by have := HV.out; omega
        go_enter Try.func46, Try.ntmps46
        go_wp2_with fail
        refine (implSetOk_yes _ _ _ _ _ _ (h.below (by repeat (first | exact Below.refl _ _ | assumption | refine Below.step ?_ (by assumption) | refine Below.drew ?_ | refine Below.drewN ?_ _ | refine Below.alloc ?_ (by first | omega | (simp only [World.size_alloc, size_setCell, size_drew, size_drewN]; omega)) _ | refine Below.setCell ?_ (by first | (dsimp only; omega) | (simp only [World.size_alloc, size_setCell, size_drew, size_drewN]; omega)) _))) hl H1.out).mono ?_
        rintro _ w1 ⟨rfl, hb1⟩
        obtain ⟨hc1, hf1⟩ := bcell hb1
        have hz1 := hb1.size
        try simp only [World.size_alloc, size_setCell, size_drew, size_drewN] at hz1
        have hz1x0 : w.heap.size < w1.heap.size := by omega
        have hz1x1 : w.heap.size + 1 < w1.heap.size := by omega
        have hB1 : Below w.heap.size w w1 := (by repeat (first | exact Below.refl _ _ | assumption | refine Below.step ?_ (by assumption) | refine Below.drew ?_ | refine Below.drewN ?_ _ | refine Below.alloc ?_ (by first | omega | (simp only [World.size_alloc, size_setCell, size_drew, size_drewN]; omega)) _ | refine Below.setCell ?_ (by first | (dsimp only; omega) | (simp only [World.size_alloc, size_setCell, size_drew, size_drewN]; omega)) _))
        go_wp2_with fail
        refine (copySet_c _ _ _ _ _ _ (h.below hB1) hl).mono ?_
        rintro _ w2 ⟨a2, c2, rfl, ho2, hb2⟩
        obtain ⟨hc2, hf2⟩ := bcell hb2
        have hz2 := hb2.size
        have hz2x0 : w.heap.size < w2.heap.size := by omega
        have hz2x1 : w.heap.size + 1 < w2.heap.size := by omega
        go_wp2
        rw [E.out.1, E.out.2]
        refine bodyPost_ret (v := .agg #[.int .i64 n, .slice a2 l.length c2]) (by simp [results, Try.results46, go_sem, hc1, hf1, hc2, hf2, hz1x0, hz1x1, hz2x0, hz2x1]) rfl ?_
        have hB2 : Below w.heap.size w w2 := Below.step hB1 hb2
        exact ⟨a2, c2, rfl, (Own.lift ho2 (by intro b hS hb; (try simp only [World.size_alloc, size_setCell, size_drew, size_drewN] at hS); (try simp only [heap_drew, heap_drewN]); repeat (first | rfl | rw [Below.heap_setCell _ _ _ _ (by dsimp only; omega)] | rw [Below.heap_alloc _ _ _ (by simp only [World.size_alloc, size_setCell, size_drew, size_drewN]; omega)])) (by intro b _ hb; (try simp only [World.size_alloc, size_setCell, size_drew, size_drewN] at hb); omega)), (by repeat (first | exact Below.refl _ _ | assumption | refine Below.step ?_ (by assumption) | refine Below.drew ?_ | refine Below.drewN ?_ _ | refine Below.alloc ?_ (by first | omega | (simp only [World.size_alloc, size_setCell, size_drew, size_drewN]; omega)) _ | refine Below.setCell ?_ (by first | (dsimp only; omega) | (simp only [World.size_alloc, size_setCell, size_drew, size_drewN]; omega)) _))⟩
      · go_enter Try.func46, Try.ntmps46
        go_wp2_with fail
        refine (implSetOk_yes _ _ _ _ _ _ (h.below (by repeat (first | exact Below.refl _ _ | assumption | refine Below.step ?_ (by assumption) | refine Below.drew ?_ | refine Below.drewN ?_ _ | refine Below.alloc ?_ (by first | omega | (simp only [World.size_alloc, size_setCell, size_drew, size_drewN]; omega)) _ | refine Below.setCell ?_ (by first | (dsimp only; omega) | (simp only [World.size_alloc, size_setCell, size_drew, size_drewN]; omega)) _))) hl H1.out).mono ?_
        rintro _ w1 ⟨rfl, hb1⟩
        obtain ⟨hc1, hf1⟩ := bcell hb1
        have hz1 := hb1.size
        try simp only [World.size_alloc, size_setCell, size_drew, size_drewN] at hz1
        have hz1x0 : w.heap.size < w1.heap.size := by omega
        have hz1x1 : w.heap.size + 1 < w1.heap.size := by omega
        have hB1 : Below w.heap.size w w1 := (by repeat (first | exact Below.refl _ _ | assumption | refine Below.step ?_ (by assumption) | refine Below.drew ?_ | refine Below.drewN ?_ _ | refine Below.alloc ?_ (by first | omega | (simp only [World.size_alloc, size_setCell, size_drew, size_drewN]; omega)) _ | refine Below.setCell ?_ (by first | (dsimp only; omega) | (simp only [World.size_alloc, size_setCell, size_drew, size_drewN]; omega)) _))
        go_wp2_with fail
        refine (copySet_c _ _ _ _ _ _ (h.below hB1) hl).mono ?_
        rintro _ w2 ⟨a2, c2, rfl, ho2, hb2⟩
        obtain ⟨hc2, hf2⟩ := bcell hb2
        have hz2 := hb2.size
        have hz2x0 : w.heap.size < w2.heap.size := by omega
        have hz2x1 : w.heap.size + 1 < w2.heap.size := by omega
        go_wp2
        rw [E.out.1, E.out.2]
        refine bodyPost_ret (v := .agg #[.int .i64 n, .slice a2 l.length c2]) (by simp [results, Try.results46, go_sem, hc1, hf1, hc2, hf2, hz1x0, hz1x1, hz2x0, hz2x1]) rfl ?_
        have hB2 : Below w.heap.size w w2 := Below.step hB1 hb2
        exact ⟨a2, c2, rfl, (Own.lift ho2 (by intro b hS hb; (try simp only [World.size_alloc, size_setCell, size_drew, size_drewN] at hS); (try simp only [heap_drew, heap_drewN]); repeat (first | rfl | rw [Below.heap_setCell _ _ _ _ (by dsimp only; omega)] | rw [Below.heap_alloc _ _ _ (by simp only [World.size_alloc, size_setCell, size_drew, size_drewN]; omega)])) (by intro b _ hb; (try simp only [World.size_alloc, size_setCell, size_drew, size_drewN] at hb); omega)), (by repeat (first | exact Below.refl _ _ | assumption | refine Below.step ?_ (by assumption) | refine Below.drew ?_ | refine Below.drewN ?_ _ | refine Below.alloc ?_ (by first | omega | (simp only [World.size_alloc, size_setCell, size_drew, size_drewN]; omega)) _ | refine Below.setCell ?_ (by first | (dsimp only; omega) | (simp only [World.size_alloc, size_setCell, size_drew, size_drewN]; omega)) _))⟩

end Go.Proofs.Ytjejhdogbhdgoaa
