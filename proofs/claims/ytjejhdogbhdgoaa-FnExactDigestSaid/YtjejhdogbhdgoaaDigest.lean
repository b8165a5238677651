/-
  For every set the law FnExactDigest returns true: the program's Digest equals the reference's and leaves its argument alone. No conditions.
-/
import Derived.Test.YtjejhdogbhdgoaaDigestC
import Derived.Test.YtjejhdogbhdgoaaFrame
import Derived.Deep.RegionHeld3
namespace Go.Proofs.Ytjejhdogbhdgoaa
set_option linter.unusedSimpArgs false
set_option linter.unusedVariables false
open Go.RowKit Go.ChangeShapes Go.WideShapes Go.ChangeAt

set_option maxHeartbeats 1000000 in
theorem FnExactDigest_walk (w : World) (n : Int) (_ : I64 n) (a : Option Addr) (cap : Nat) (l : List UInt8) (h : Sl bC (fun b => b < w.heap.size) w a cap l) :
    Calls Try.prog 11 #[.agg #[.int .i64 n, .slice a l.length cap]] w fun r w' => r = .returned (.bool true) ∧ Below w.heap.size w w' := by
  have hlm := Nat.le_trans h.le h.lt
  by_cases hb : l.length ≤ 1048576
  case neg =>
    have hs : szR 1048576 l.length < 0 := by unfold szR; rw [if_pos (by omega)]; omega
    go_enter Try.func11, Try.ntmps11
    go_wp2_with fail
    refine (szSet_c n a cap l.length 1048576 _ hlm (by omega) (by omega)).mono ?_
    rintro _ w1 ⟨rfl, hb1⟩
    obtain ⟨hc1, hf1⟩ := bcell hb1
    have hz1 := hb1.size
    try simp only [World.size_alloc] at hz1
    have hz1x0 : w.heap.size < w1.heap.size := by omega
    go_wp2
    go_ret
    exact ⟨rfl, (by repeat (first | exact Below.refl _ _ | assumption | refine Below.step ?_ (by assumption) | refine Below.drew ?_ | refine Below.drewN ?_ _ | refine Below.alloc ?_ (by first | omega | (simp only [World.size_alloc]; omega)) _ | refine Below.setCell ?_ (by first | (dsimp only; omega) | (simp only [World.size_alloc]; omega)) _))⟩
  case pos =>
    have hs : ¬ szR 1048576 l.length < 0 := by unfold szR; rw [if_neg (by omega)]; omega
    go_enter Try.func11, Try.ntmps11
    have hB := Below.refl w.heap.size w
    go_wp2_with fail
    obtain ⟨W0, hW0⟩ : ∃ W0, W0 = w.alloc (Obj.cells #[Value.int IntKind.i64 n, Value.slice a l.length cap] 42) := ⟨_, rfl⟩
    have db : Below w.heap.size w W0 := by rw [hW0]; exact (by repeat (first | exact Below.refl _ _ | assumption | refine Below.step ?_ (by assumption) | refine Below.drew ?_ | refine Below.drewN ?_ _ | refine Below.alloc ?_ (by first | omega | (simp only [World.size_alloc]; omega)) _ | refine Below.setCell ?_ (by first | (dsimp only; omega) | (simp only [World.size_alloc]; omega)) _))
    have dz := db.size
    have f0 : W0.cell? ⟨w.heap.size, 0, none⟩ = some (.int .i64 n) := by rw [hW0]; simp [go_sem]
    have f1 : W0.cell? ⟨w.heap.size, 1, none⟩ = some (.slice a l.length cap) := by rw [hW0]; simp [go_sem]
    rw [← hW0]
    clear hW0
    replace hB := db
    go_wp2_with fail
    refine (szSet_c n a cap l.length 1048576 _ hlm (by omega) (by omega)).mono ?_
    rintro _ w1 ⟨rfl, hb1⟩
    replace f0 := cell_below hb1 f0
    replace f1 := cell_below hb1 f1
    have zb1 := hb1.size
    try simp only [World.size_alloc] at zb1
    replace hB : Below w.heap.size w w1 := (by repeat (first | exact Below.refl _ _ | assumption | refine Below.step ?_ (by assumption) | refine Below.drew ?_ | refine Below.drewN ?_ _ | refine Below.alloc ?_ (by first | omega | (simp only [World.size_alloc]; omega)) _ | refine Below.setCell ?_ (by first | (dsimp only; omega) | (simp only [World.size_alloc]; omega)) _))
    go_wp2_with fail
    refine (toSet_c _ _ _ _ _ _ (h.below hB) hb).mono ?_
    rintro _ w2 ⟨a2, c2, rfl, ho2, hb2⟩
    replace f0 := cell_below hb2 f0
    replace f1 := cell_below hb2 f1
    have zb2 := hb2.size
    try simp only [World.size_alloc] at zb2
    replace hB : Below w.heap.size w w2 := (by repeat (first | exact Below.refl _ _ | assumption | refine Below.step ?_ (by assumption) | refine Below.drew ?_ | refine Below.drewN ?_ _ | refine Below.alloc ?_ (by first | omega | (simp only [World.size_alloc]; omega)) _ | refine Below.setCell ?_ (by first | (dsimp only; omega) | (simp only [World.size_alloc]; omega)) _))
    go_wp2_with fail
    refine (specDigest _ _ _ _ _ _ ho2.sl hb).mono ?_
    rintro _ w3 ⟨rfl, hb3⟩
    replace f0 := cell_below hb3 f0
    replace f1 := cell_below hb3 f1
    have zb3 := hb3.size
    try simp only [World.size_alloc] at zb3
    replace hB : Below w.heap.size w w3 := (by repeat (first | exact Below.refl _ _ | assumption | refine Below.step ?_ (by assumption) | refine Below.drew ?_ | refine Below.drewN ?_ _ | refine Below.alloc ?_ (by first | omega | (simp only [World.size_alloc]; omega)) _ | refine Below.setCell ?_ (by first | (dsimp only; omega) | (simp only [World.size_alloc]; omega)) _))
    go_wp2_with fail
    refine (toSet_c _ _ _ _ _ _ (h.below hB) hb).mono ?_
    rintro _ w4 ⟨a4, c4, rfl, ho4, hb4⟩
    replace f0 := cell_below hb4 f0
    replace f1 := cell_below hb4 f1
    have zb4 := hb4.size
    try simp only [World.size_alloc] at zb4
    replace hB : Below w.heap.size w w4 := (by repeat (first | exact Below.refl _ _ | assumption | refine Below.step ?_ (by assumption) | refine Below.drew ?_ | refine Below.drewN ?_ _ | refine Below.alloc ?_ (by first | omega | (simp only [World.size_alloc]; omega)) _ | refine Below.setCell ?_ (by first | (dsimp only; omega) | (simp only [World.size_alloc]; omega)) _))
    go_wp2_with fail
    have x0 : (w4.alloc (Obj.cells #[Value.int IntKind.i64 n, Value.slice a4 l.length c4] 45)).cell? ⟨w4.heap.size, 0, none⟩ = some (.int .i64 n) := by simp [go_sem]
    have x1 : (w4.alloc (Obj.cells #[Value.int IntKind.i64 n, Value.slice a4 l.length c4] 45)).cell? ⟨w4.heap.size, 1, none⟩ = some (.slice a4 l.length c4) := by simp [go_sem]
    refine (implDigest _ _ _ _ _ _ (ho4.sl.alloc _) hb).mono ?_
    rintro _ w5 ⟨rfl, hb5⟩
    replace f0 := cell_below hb5 (cell_alloc f0 _)
    replace f1 := cell_below hb5 (cell_alloc f1 _)
    replace x0 := cell_below hb5 x0
    replace x1 := cell_below hb5 x1
    replace ho4 := (ho4.alloc _).below hb5
    replace hB : Below w.heap.size w w5 := (by repeat (first | exact Below.refl _ _ | assumption | refine Below.step ?_ (by assumption) | refine Below.drew ?_ | refine Below.drewN ?_ _ | refine Below.alloc ?_ (by first | omega | (simp only [World.size_alloc]; omega)) _ | refine Below.setCell ?_ (by first | (dsimp only; omega) | (simp only [World.size_alloc]; omega)) _))
    clear hb1 hb2 hb3 hb4 hb5 db
    go_wp2_with fail
    go_region_held3 (fun w' => w'.cell? ⟨w.heap.size, 0, none⟩ = some (.int .i64 n) ∧ w'.cell? ⟨w.heap.size, 1, none⟩ = some (.slice a l.length cap) ∧ w'.cell? ⟨w4.heap.size, 0, none⟩ = some (.int .i64 n) ∧ w'.cell? ⟨w4.heap.size, 1, none⟩ = some (.slice a4 l.length c4))
      (first
        | go_keep
        | exact ⟨cell_below hb6 f0, cell_below hb6 f1, cell_below hb6 x0, cell_below hb6 x1⟩
        | exact ⟨cell_below hb7 (cell_below hb6 f0), cell_below hb7 (cell_below hb6 f1), cell_below hb7 (cell_below hb6 x0), cell_below hb7 (cell_below hb6 x1)⟩)
      ((first
        | (go_at_call 29; refine (toSet_c _ _ _ _ _ _ (h.below (by repeat (first | exact Below.refl _ _ | assumption | refine Below.step ?_ (by assumption) | refine Below.drew ?_ | refine Below.drewN ?_ _ | refine Below.alloc ?_ (by first | omega | (simp only [World.size_alloc]; omega)) _ | refine Below.setCell ?_ (by first | (dsimp only; omega) | (simp only [World.size_alloc]; omega)) _))) hb).mono ?_; rintro _ w6 ⟨a6, c6, rfl, ho6, hb6⟩)
        | (go_at_call 31; refine (eqSet_c _ _ _ _ _ _ _ _ _ _ _ (ho4.sl.drew1.below hb6) ho6.sl).mono ?_; rintro _ w7 ⟨rfl, hb7⟩)))
    go_wp2
    go_ret
    exact ⟨rfl, (by repeat (first | exact Below.refl _ _ | assumption | refine Below.step ?_ (by assumption) | refine Below.drew ?_ | refine Below.drewN ?_ _ | refine Below.alloc ?_ (by first | omega | (simp only [World.size_alloc]; omega)) _ | refine Below.setCell ?_ (by first | (dsimp only; omega) | (simp only [World.size_alloc]; omega)) _))⟩

theorem FnExactDigest_args {H : Type} {enc : TypeId × Value → H} (W : World) (b0 : Nat) (args : Array Value) (ds : List (DataW H)) (ps : List MemPlace)
    (hval : ∀ (j : Nat) t v, Try.f11.params[j]? = some t → args[j]? = some v → Value.okWide Try.prog W .any b0 t v)
    (hA : DataW.TrodAll enc Try.prog W 0 (fun _ => true) true Try.f11.params.toList args.toList ds ps) :
    Calls Try.prog 11 args W fun e W' => e = .returned (.bool true) ∧ Below W.heap.size W W' := by
  rw [Try.params11] at hA hval
  obtain ⟨v0, vs0, d0, ds0, p0, q0, hargs, rfl, rfl, h0, r0⟩ := trodAll_cons hA
  obtain ⟨rfl, rfl, rfl⟩ := trodAll_nil r0
  obtain rfl : args = #[v0] := by cases args; simp_all
  obtain ⟨cs0, rfl, n0, x0, t0⟩ := arg_struct Try.underlying42 (hval 0 _ _ rfl rfl) h0
  obtain ⟨hl0, m0, hf0⟩ := rd_struct Try.underlying42 t0
  rw [show Try.prog.cellsOf 42 = 2 from by kernel_rfl] at hl0
  obtain ⟨c0x0, c0x1, rfl⟩ := list2 hl0
  obtain ⟨y0x0, g0x0⟩ := hf0 0 _ rfl
  simp [show Try.prog.cellsOf 3 = 1 from by kernel_rfl] at g0x0
  obtain ⟨z0, e0, hz0⟩ := rd_int g0x0
  obtain ⟨y0x1, g0x1⟩ := hf0 1 _ rfl
  simp [show Try.prog.cellsOf 40 = 1 from by kernel_rfl] at g0x1
  obtain ⟨a1, c1, z1, e1, hz1⟩ := rd_bytes Try.underlying40 Try.underlying5 cells_u8 g0x1
  simp only [List.cons.injEq, and_true] at e0 e1
  subst e0 e1
  exact FnExactDigest_walk W z0 hz0 a1 c1 z1 hz1

theorem FnExactDigest_proved : Rows.FnExactDigestSaid :=
  OpenClaim.holds_of_wide 11 Try.f11 rfl rfl rfl rfl rfl rfl rfl ⟨rfl, rfl, rfl, rfl, rfl⟩ rfl rfl rfl rfl rfl (by kernel_rfl) Try.func11 (by kernel_rfl)
    (of_decide_eq_true (by kernel_rfl)) (by unfold Func.isWrapper; first | (rw [if_pos (by decide +kernel)]; kernel_rfl) | (rw [if_neg (by decide +kernel)]; exact ⟨rfl, rfl⟩))
    (fun os started H enc _ => law_lifted 11 Try.f11 Rows.fnExactDigestSpec ⟨rfl, fun H ds h => by match ds, h with | [_], _ => rfl⟩ rfl (by kernel_rfl) (by kernel_rfl) Try.func11 Rows.fnExactDigestRow.domain os started H enc
      (ChangeSpec.witness6 (enc := enc) (C := Try.checked) false ⟨#[], #[.agg #[.int .i64 0, .slice none 0 0]], []⟩ 8 (by kernel_rfl) (by kernel_rfl) (by kernel_rfl) (by kernel_rfl))
      (fun W b0 args ds ps hval hA => FnExactDigest_args W b0 args ds ps hval hA))
#print axioms FnExactDigest_proved

end Go.Proofs.Ytjejhdogbhdgoaa
