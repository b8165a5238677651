/-
  Contracts of the reference With and Without, and of the marks.
-/



import Derived.Test.YtjejhdogbhdgoaaTurnC
import Derived.Test.YtjejhdogbhdgoaaFrame
import Derived.Deep.RegionHeld3
namespace Go.Proofs.Ytjejhdogbhdgoaa
set_option linter.unusedSimpArgs false
set_option linter.unusedVariables false
open Go.RowKit Go.ChangeShapes Go.WideShapes Go.ChangeAt

theorem markSet_1 (S : Nat → Prop) (n : Int) (a : Option Addr) (cap : Nat) (l : List UInt8) (w : World) (h : Own bC 5 S w a cap l) (hq : 1 + l.length ≤ 1099511627776) :
    Calls Try.prog 36 #[.agg #[.int .i64 n, .slice a l.length cap], .int .i64 1] w fun r w' => r = .returned (.int .i64 ((1 + l.length : Nat) : Int)) ∧ Own bC 5 S w' a cap (mkB 1 l.length) ∧ Chg S w w' :=
  markSet_c S n a cap l 1 w h hq

theorem heldSet_1 (S : Nat → Prop) (n : Int) (a : Option Addr) (cap k : Nat) (w : World) (h : Sl bC S w a cap (mkB 1 k)) (hq : 1 + k ≤ 1099511627776) :
    Calls Try.prog 37 #[.agg #[.int .i64 n, .slice a k cap], .int .i64 1] w fun r w' => r = .returned (.int .i64 ((1 + k : Nat) : Int)) ∧ Below w.heap.size w w' :=
  heldSet_c S n a cap k 1 w h hq

theorem specWith (S : Nat → Prop) (n : Int) (a : Option Addr) (cap : Nat) (l : List UInt8) (v : Int) (w : World) (h : Sl bC S w a cap l) (hl : l.length ≤ 1048576) :
    Calls Try.prog 47 #[.agg #[.int .i64 n, .slice a l.length cap], .int .i64 v] w fun r w' => ∃ a' cap', r = .returned (.agg #[.int .i64 (turnN n l), .slice a' (withL n l v).length cap']) ∧ Own bC 5 (w.heap.size ≤ ·) w' a' cap' (withL n l v) ∧ Below w.heap.size w w' := by
  go_enter Try.func47, Try.ntmps47
  go_wp2_with fail
  refine (l09Turn_c _ _ _ _ _ v true _ (h.below (by repeat (first | exact Below.refl _ _ | assumption | refine Below.step ?_ (by assumption) | refine Below.drew ?_ | refine Below.drewN ?_ _ | refine Below.alloc ?_ (by first | omega | (simp only [World.size_alloc, size_setCell, size_drew, size_drewN]; omega)) _ | refine Below.setCell ?_ (by first | (dsimp only; omega) | (simp only [World.size_alloc, size_setCell, size_drew, size_drewN]; omega)) _))) hl).mono ?_
  rintro _ w1 ⟨a1, c1, rfl, ho1, hb1⟩
  obtain ⟨hc1, hf1⟩ := bcell hb1
  have hz1 := hb1.size
  simp only [World.size_alloc] at hz1
  have hz1x0 : w.heap.size < w1.heap.size := by omega
  have hz1x1 : w.heap.size + 1 < w1.heap.size := by omega
  have e : turnL n l v true = withL n l v := by simp [turnL]
  rw [e] at ho1 ⊢
  go_wp2
  refine bodyPost_ret (v := .agg #[.int .i64 (turnN n l), .slice a1 (withL n l v).length c1]) (by simp [results, Try.results47, go_sem, hc1, hf1, hz1x0, hz1x1]) rfl ?_
  exact ⟨a1, c1, rfl, (Own.lift ho1 (by intro b hS hb; (try simp only [World.size_alloc, size_setCell, size_drew, size_drewN] at hS); (try simp only [heap_drew, heap_drewN]); repeat (first | rfl | rw [Below.heap_setCell _ _ _ _ (by dsimp only; omega)] | rw [Below.heap_alloc _ _ _ (by simp only [World.size_alloc, size_setCell, size_drew, size_drewN]; omega)])) (by intro b _ hb; (try simp only [World.size_alloc, size_setCell, size_drew, size_drewN] at hb); omega)), (by repeat (first | exact Below.refl _ _ | assumption | refine Below.step ?_ (by assumption) | refine Below.drew ?_ | refine Below.drewN ?_ _ | refine Below.alloc ?_ (by first | omega | (simp only [World.size_alloc, size_setCell, size_drew, size_drewN]; omega)) _ | refine Below.setCell ?_ (by first | (dsimp only; omega) | (simp only [World.size_alloc, size_setCell, size_drew, size_drewN]; omega)) _))⟩

theorem specWithout (S : Nat → Prop) (n : Int) (a : Option Addr) (cap : Nat) (l : List UInt8) (v : Int) (w : World) (h : Sl bC S w a cap l) (hl : l.length ≤ 1048576) :
    Calls Try.prog 45 #[.agg #[.int .i64 n, .slice a l.length cap], .int .i64 v] w fun r w' => ∃ a' cap', r = .returned (.agg #[.int .i64 (turnN n l), .slice a' (woutL n l v).length cap']) ∧ Own bC 5 (w.heap.size ≤ ·) w' a' cap' (woutL n l v) ∧ Below w.heap.size w w' := by
  go_enter Try.func45, Try.ntmps45
  go_wp2_with fail
  refine (l09Turn_c _ _ _ _ _ v false _ (h.below (by repeat (first | exact Below.refl _ _ | assumption | refine Below.step ?_ (by assumption) | refine Below.drew ?_ | refine Below.drewN ?_ _ | refine Below.alloc ?_ (by first | omega | (simp only [World.size_alloc, size_setCell, size_drew, size_drewN]; omega)) _ | refine Below.setCell ?_ (by first | (dsimp only; omega) | (simp only [World.size_alloc, size_setCell, size_drew, size_drewN]; omega)) _))) hl).mono ?_
  rintro _ w1 ⟨a1, c1, rfl, ho1, hb1⟩
  obtain ⟨hc1, hf1⟩ := bcell hb1
  have hz1 := hb1.size
  simp only [World.size_alloc] at hz1
  have hz1x0 : w.heap.size < w1.heap.size := by omega
  have hz1x1 : w.heap.size + 1 < w1.heap.size := by omega
  have e : turnL n l v false = woutL n l v := by simp [turnL]
  rw [e] at ho1 ⊢
  go_wp2
  refine bodyPost_ret (v := .agg #[.int .i64 (turnN n l), .slice a1 (woutL n l v).length c1]) (by simp [results, Try.results45, go_sem, hc1, hf1, hz1x0, hz1x1]) rfl ?_
  exact ⟨a1, c1, rfl, (Own.lift ho1 (by intro b hS hb; (try simp only [World.size_alloc, size_setCell, size_drew, size_drewN] at hS); (try simp only [heap_drew, heap_drewN]); repeat (first | rfl | rw [Below.heap_setCell _ _ _ _ (by dsimp only; omega)] | rw [Below.heap_alloc _ _ _ (by simp only [World.size_alloc, size_setCell, size_drew, size_drewN]; omega)])) (by intro b _ hb; (try simp only [World.size_alloc, size_setCell, size_drew, size_drewN] at hb); omega)), (by repeat (first | exact Below.refl _ _ | assumption | refine Below.step ?_ (by assumption) | refine Below.drew ?_ | refine Below.drewN ?_ _ | refine Below.alloc ?_ (by first | omega | (simp only [World.size_alloc, size_setCell, size_drew, size_drewN]; omega)) _ | refine Below.setCell ?_ (by first | (dsimp only; omega) | (simp only [World.size_alloc, size_setCell, size_drew, size_drewN]; omega)) _))⟩

theorem withL_len (n : Int) (l : List UInt8) (v : Int) : (withL n l v).length ≤ l.length := by
  unfold withL; split
  · split <;> simp [setBit]
  · simp
theorem woutL_len (n : Int) (l : List UInt8) (v : Int) : (woutL n l v).length ≤ l.length := by
  unfold woutL; split
  · split <;> simp [clrBit]
  · simp

end Go.Proofs.Ytjejhdogbhdgoaa
