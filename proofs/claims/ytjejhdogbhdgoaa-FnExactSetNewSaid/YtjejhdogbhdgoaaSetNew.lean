/-
  For every number and bool the law FnExactSetNew returns true: the program's SetNew equals the reference's, and two of its results share no memory. No conditions.
-/
import Derived.Test.YtjejhdogbhdgoaaNewC
namespace Go.Proofs.Ytjejhdogbhdgoaa
set_option linter.unusedSimpArgs false
set_option linter.unusedVariables false
open Go.RowKit Go.ChangeShapes Go.WideShapes Go.ChangeAt

set_option maxHeartbeats 4000000 in
theorem FnExactSetNew_walk (w : World) (n : Int) (_ : I64 n) (b : Bool) :
    Calls Try.prog 10 #[.int .i64 n, .bool b] w fun r w' => r = .returned (.bool true) ∧ Below w.heap.size w w' := by
  have hLb : (newL n b).length ≤ 1048576 := newL_len n b
  go_enter Try.func10, Try.ntmps10
  have hB := Below.refl w.heap.size w
  go_wp2_with fail
  refine (specSetNew n b _).mono ?_
  rintro _ w1 ⟨a1, c1, rfl, ho1', hb1⟩
  have zb1 := hb1.size
  try simp only [World.size_alloc] at zb1
  replace hB : Below w.heap.size w w1 := (by repeat (first | exact Below.refl _ _ | assumption | refine Below.step ?_ (by assumption) | refine Below.drew ?_ | refine Below.drewN ?_ _ | refine Below.alloc ?_ (by first | omega | (simp only [World.size_alloc, size_setCell, size_drew, size_drewN]; omega)) _ | refine Below.setCell ?_ (by first | (dsimp only; omega) | (simp only [World.size_alloc, size_setCell, size_drew, size_drewN]; omega)) _))
  have ho1 := ho1'.mono (S' := fun b => w.heap.size ≤ b ∧ b < w1.heap.size) fun b hb hS => ⟨hS, hb⟩
  clear ho1'
  have b0 : (w1.alloc (Obj.cells #[Value.int IntKind.i64 (newN n), Value.slice a1 (newL n b).length c1] 45)).cell? ⟨w1.heap.size, 0, none⟩ = some (.int .i64 (newN n)) := by simp [go_sem]
  have b1 : (w1.alloc (Obj.cells #[Value.int IntKind.i64 (newN n), Value.slice a1 (newL n b).length c1] 45)).cell? ⟨w1.heap.size, 1, none⟩ = some (.slice a1 (newL n b).length c1) := by simp [go_sem]
  go_wp2_with fail
  refine (implSetNew n b _).mono ?_
  rintro _ w2 ⟨a2, c2, rfl, ho2', hb2⟩
  replace b0 := cell_below hb2 b0
  replace b1 := cell_below hb2 b1
  replace ho1 := Own.below (Own.alloc ho1 _) hb2
  have zb2 := hb2.size
  try simp only [World.size_alloc] at zb2
  replace hB : Below w.heap.size w w2 := (by repeat (first | exact Below.refl _ _ | assumption | refine Below.step ?_ (by assumption) | refine Below.drew ?_ | refine Below.drewN ?_ _ | refine Below.alloc ?_ (by first | omega | (simp only [World.size_alloc, size_setCell, size_drew, size_drewN]; omega)) _ | refine Below.setCell ?_ (by first | (dsimp only; omega) | (simp only [World.size_alloc, size_setCell, size_drew, size_drewN]; omega)) _))
  have ho2 := ho2'.mono (S' := fun b => w1.heap.size + 1 ≤ b ∧ b < w2.heap.size) fun b hb hS => ⟨by simpa using hS, hb⟩
  clear ho2'
  have lw2w1 : w1.heap.size < w2.heap.size := by omega
  have g0 : (w2.alloc (Obj.cells #[Value.int IntKind.i64 (newN n), Value.slice a2 (newL n b).length c2] 45)).cell? ⟨w2.heap.size, 0, none⟩ = some (.int .i64 (newN n)) := by simp [go_sem]
  have g1 : (w2.alloc (Obj.cells #[Value.int IntKind.i64 (newN n), Value.slice a2 (newL n b).length c2] 45)).cell? ⟨w2.heap.size, 1, none⟩ = some (.slice a2 (newL n b).length c2) := by simp [go_sem]
  go_wp2_with fail
  refine (eqSet_c _ _ _ _ _ _ _ _ _ _ _ (ho2.sl.alloc _) (ho1.sl.alloc _)).mono ?_
  rintro _ w3 ⟨rfl, hb3⟩
  replace b0 := cell_below hb3 (cell_alloc b0 _)
  replace b1 := cell_below hb3 (cell_alloc b1 _)
  replace g0 := cell_below hb3 g0
  replace g1 := cell_below hb3 g1
  replace ho1 := Own.below (Own.alloc ho1 _) hb3
  replace ho2 := Own.below (Own.alloc ho2 _) hb3
  have zb3 := hb3.size
  try simp only [World.size_alloc] at zb3
  replace hB : Below w.heap.size w w3 := (by repeat (first | exact Below.refl _ _ | assumption | refine Below.step ?_ (by assumption) | refine Below.drew ?_ | refine Below.drewN ?_ _ | refine Below.alloc ?_ (by first | omega | (simp only [World.size_alloc, size_setCell, size_drew, size_drewN]; omega)) _ | refine Below.setCell ?_ (by first | (dsimp only; omega) | (simp only [World.size_alloc, size_setCell, size_drew, size_drewN]; omega)) _))
  clear hb1 hb2 hb3
  go_wp2_with fail
  refine (markSet_1 _ (newN n) a2 c2 (newL n b) _ ho2 (by omega)).mono ?_
  rintro _ w4 ⟨rfl, ho2', hm4⟩
  have zb4 := hm4.size
  replace b0 := cell_same (hm4.block _ (by dsimp only; omega) (by dsimp only; omega)) b0
  replace b1 := cell_same (hm4.block _ (by dsimp only; omega) (by dsimp only; omega)) b1
  replace g0 := cell_same (hm4.block _ (by dsimp only; omega) (by dsimp only; omega)) g0
  replace g1 := cell_same (hm4.block _ (by dsimp only; omega) (by dsimp only; omega)) g1
  replace ho1 := ho1.chg hm4 (fun b _ hS hT => by omega)
  replace hB : Below w.heap.size w w4 := hB.trans (hm4.below (fun b _ hS => by omega) (by omega))
  clear ho2 hm4
  go_wp2_with fail
  refine (heldSet_1 _ (newN n) a2 c2 (newL n b).length _ ho2'.sl (by omega)).mono ?_
  rintro _ w5 ⟨rfl, hb5⟩
  replace b0 := cell_below hb5 b0
  replace b1 := cell_below hb5 b1
  replace g0 := cell_below hb5 g0
  replace g1 := cell_below hb5 g1
  replace ho1 := Own.below ho1 hb5
  replace ho2' := Own.below ho2' hb5
  have zb5 := hb5.size
  try simp only [World.size_alloc] at zb5
  replace hB : Below w.heap.size w w5 := (by repeat (first | exact Below.refl _ _ | assumption | refine Below.step ?_ (by assumption) | refine Below.drew ?_ | refine Below.drewN ?_ _ | refine Below.alloc ?_ (by first | omega | (simp only [World.size_alloc, size_setCell, size_drew, size_drewN]; omega)) _ | refine Below.setCell ?_ (by first | (dsimp only; omega) | (simp only [World.size_alloc, size_setCell, size_drew, size_drewN]; omega)) _))
  go_wp2_with fail
  refine (implSetNew n b _).mono ?_
  rintro _ w6 ⟨a6, c6, rfl, ho6, hb6⟩
  replace b0 := cell_below hb6 b0
  replace b1 := cell_below hb6 b1
  replace g0 := cell_below hb6 g0
  replace g1 := cell_below hb6 g1
  replace ho1 := Own.below ho1 hb6
  replace ho2' := Own.below ho2' hb6
  have zb6 := hb6.size
  try simp only [World.size_alloc] at zb6
  replace hB : Below w.heap.size w w6 := (by repeat (first | exact Below.refl _ _ | assumption | refine Below.step ?_ (by assumption) | refine Below.drew ?_ | refine Below.drewN ?_ _ | refine Below.alloc ?_ (by first | omega | (simp only [World.size_alloc, size_setCell, size_drew, size_drewN]; omega)) _ | refine Below.setCell ?_ (by first | (dsimp only; omega) | (simp only [World.size_alloc, size_setCell, size_drew, size_drewN]; omega)) _))
  have lw6w1 : w1.heap.size < w6.heap.size := by omega
  have lw6w2 : w2.heap.size < w6.heap.size := by omega
  have y0 : (w6.alloc (Obj.cells #[Value.int IntKind.i64 (newN n), Value.slice a6 (newL n b).length c6] 45)).cell? ⟨w6.heap.size, 0, none⟩ = some (.int .i64 (newN n)) := by simp [go_sem]
  have y1 : (w6.alloc (Obj.cells #[Value.int IntKind.i64 (newN n), Value.slice a6 (newL n b).length c6] 45)).cell? ⟨w6.heap.size, 1, none⟩ = some (.slice a6 (newL n b).length c6) := by simp [go_sem]
  go_wp2_with fail
  refine (eqSet_c _ _ _ _ _ _ _ _ _ _ _ (ho6.sl.alloc _) (ho1.sl.alloc _)).mono ?_
  rintro _ w7 ⟨rfl, hb7⟩
  replace b0 := cell_below hb7 (cell_alloc b0 _)
  replace b1 := cell_below hb7 (cell_alloc b1 _)
  replace g0 := cell_below hb7 (cell_alloc g0 _)
  replace g1 := cell_below hb7 (cell_alloc g1 _)
  replace y0 := cell_below hb7 y0
  replace y1 := cell_below hb7 y1
  replace ho1 := Own.below (Own.alloc ho1 _) hb7
  replace ho2' := Own.below (Own.alloc ho2' _) hb7
  have zb7 := hb7.size
  try simp only [World.size_alloc] at zb7
  replace hB : Below w.heap.size w w7 := (by repeat (first | exact Below.refl _ _ | assumption | refine Below.step ?_ (by assumption) | refine Below.drew ?_ | refine Below.drewN ?_ _ | refine Below.alloc ?_ (by first | omega | (simp only [World.size_alloc, size_setCell, size_drew, size_drewN]; omega)) _ | refine Below.setCell ?_ (by first | (dsimp only; omega) | (simp only [World.size_alloc, size_setCell, size_drew, size_drewN]; omega)) _))
  go_wp2_with fail
  refine (heldSet_1 _ (newN n) a2 c2 (newL n b).length _ ho2'.sl (by omega)).mono ?_
  rintro _ w8 ⟨rfl, hb8⟩
  have zb8 := hb8.size
  try simp only [World.size_alloc] at zb8
  replace hB : Below w.heap.size w w8 := (by repeat (first | exact Below.refl _ _ | assumption | refine Below.step ?_ (by assumption) | refine Below.drew ?_ | refine Below.drewN ?_ _ | refine Below.alloc ?_ (by first | omega | (simp only [World.size_alloc, size_setCell, size_drew, size_drewN]; omega)) _ | refine Below.setCell ?_ (by first | (dsimp only; omega) | (simp only [World.size_alloc, size_setCell, size_drew, size_drewN]; omega)) _))
  go_wp2
  go_ret
  exact ⟨rfl, hB⟩

theorem FnExactSetNew_args {H : Type} {enc : TypeId × Value → H} (W : World) (b0 : Nat) (args : Array Value) (ds : List (DataW H)) (ps : List MemPlace)
    (hval : ∀ (j : Nat) t v, Try.f10.params[j]? = some t → args[j]? = some v → Value.okWide Try.prog W .any b0 t v)
    (hA : DataW.TrodAll enc Try.prog W 0 (fun _ => true) true Try.f10.params.toList args.toList ds ps) :
    Calls Try.prog 10 args W fun e W' => e = .returned (.bool true) ∧ Below W.heap.size W W' := by
  rw [Try.params10] at hA hval
  obtain ⟨v0, vs0, d0, ds0, p0, q0, hargs, rfl, rfl, h0, r0⟩ := trodAll_cons hA
  obtain ⟨v1, vs1, d1, ds1, p1, q1, rfl, rfl, rfl, h1, r1⟩ := trodAll_cons r0
  obtain ⟨rfl, rfl, rfl⟩ := trodAll_nil r1
  obtain rfl : args = #[v0, v1] := by cases args; simp_all
  obtain ⟨z0, rfl, hz0⟩ := arg_int (hval 0 _ _ rfl rfl) h0
  obtain ⟨z1, rfl⟩ := arg_bool (hval 1 _ _ rfl rfl) h1
  exact FnExactSetNew_walk W z0 hz0 z1

theorem FnExactSetNew_proved : Rows.FnExactSetNewSaid :=
  OpenClaim.holds_of_wide 10 Try.f10 rfl rfl rfl rfl rfl rfl rfl ⟨rfl, rfl, rfl, rfl, rfl⟩ rfl rfl rfl rfl rfl (by kernel_rfl) Try.func10 (by kernel_rfl)
    (of_decide_eq_true (by kernel_rfl)) (by unfold Func.isWrapper; first | (rw [if_pos (by decide +kernel)]; kernel_rfl) | (rw [if_neg (by decide +kernel)]; exact ⟨rfl, rfl⟩))
    (fun os started H enc _ => law_lifted 10 Try.f10 Rows.fnExactSetNewSpec ⟨rfl, fun H ds h => by match ds, h with | [_, _], _ => rfl⟩ rfl (by kernel_rfl) (by kernel_rfl) Try.func10 Rows.fnExactSetNewRow.domain os started H enc
      (ChangeSpec.witness6 (enc := enc) (C := Try.checked) false ⟨#[], #[.int .i64 0, .bool false], []⟩ 8 (by kernel_rfl) (by kernel_rfl) (by kernel_rfl) (by kernel_rfl))
      (fun W b0 args ds ps hval hA => FnExactSetNew_args W b0 args ds ps hval hA))
#print axioms FnExactSetNew_proved

end Go.Proofs.Ytjejhdogbhdgoaa
