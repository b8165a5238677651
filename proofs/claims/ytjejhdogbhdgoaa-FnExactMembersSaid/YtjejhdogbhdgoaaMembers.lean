/-
  For every set the law FnExactMembers returns true: the program's Members equals the reference's, leaves its argument alone and shares no memory with it. No conditions.
-/
import Derived.Test.YtjejhdogbhdgoaaMembersC
namespace Go.Proofs.Ytjejhdogbhdgoaa
set_option linter.unusedSimpArgs false
set_option linter.unusedVariables false
open Go.RowKit Go.ChangeShapes Go.WideShapes Go.ChangeAt

theorem markIntS_1 (S : Nat → Prop) (a : Option Addr) (cap : Nat) (l : List Int) (w : World) (h : Own iC 3 S w a cap l) (hq : 1 + l.length ≤ 1099511627776) :
    Calls Try.prog 43 #[.slice a l.length cap, .int .i64 1] w fun r w' => r = .returned (.int .i64 ((1 + l.length : Nat) : Int)) ∧ Own iC 3 S w' a cap (mkI 1 l.length) ∧ Chg S w w' :=
  markIntS_c w S a cap l h 1 hq

theorem heldIntS_1 (S : Nat → Prop) (a : Option Addr) (cap k : Nat) (w : World) (h : Sl iC S w a cap (mkI 1 k)) (hq : 1 + k ≤ 1099511627776) :
    Calls Try.prog 44 #[.slice a k cap, .int .i64 1] w fun r w' => r = .returned (.int .i64 ((1 + k : Nat) : Int)) ∧ Below w.heap.size w w' :=
  heldIntS_c w S a cap k 1 h hq

set_option maxHeartbeats 4000000 in
theorem FnExactMembers_walk (w : World) (n : Int) (_ : I64 n) (a : Option Addr) (cap : Nat) (l : List UInt8) (h : Sl bC (fun b => b < w.heap.size) w a cap l) :
    Calls Try.prog 12 #[.agg #[.int .i64 n, .slice a l.length cap]] w fun r w' => r = .returned (.bool true) ∧ Below w.heap.size w w' := by
  have hlm := Nat.le_trans h.le h.lt
  by_cases hb : l.length ≤ 1048576
  case neg =>
    have hs : szR 1048576 l.length < 0 := by unfold szR; rw [if_pos (by omega)]; omega
    go_enter Try.func12, Try.ntmps12
    go_wp2_with fail
    refine (szSet_c n a cap l.length 1048576 _ hlm (by omega) (by omega)).mono ?_
    rintro _ w1 ⟨rfl, hb1⟩
    obtain ⟨hc1, hf1⟩ := bcell hb1
    have hz1 := hb1.size
    try simp only [World.size_alloc, size_setCell, size_drew, size_drewN] at hz1
    have hz1x0 : w.heap.size < w1.heap.size := by omega
    go_wp2
    go_ret
    exact ⟨rfl, (by repeat (first | exact Below.refl _ _ | assumption | refine Below.step ?_ (by assumption) | refine Below.drew ?_ | refine Below.drewN ?_ _ | refine Below.alloc ?_ (by first | omega | (simp only [World.size_alloc, size_setCell, size_drew, size_drewN]; omega)) _ | refine Below.setCell ?_ (by first | (dsimp only; omega) | (simp only [World.size_alloc, size_setCell, size_drew, size_drewN]; omega)) _))⟩
  case pos =>
    have hs : ¬ szR 1048576 l.length < 0 := by unfold szR; rw [if_neg (by omega)]; omega
    have hLb : (members n l).length ≤ 1048576 := Nat.le_trans (members_len n l) (by omega)
    go_enter Try.func12, Try.ntmps12
    have hB := Below.refl w.heap.size w
    go_wp2_with fail
    obtain ⟨W0, hW0⟩ : ∃ W0, W0 = w.alloc (Obj.cells #[Value.int IntKind.i64 n, Value.slice a l.length cap] 42) := ⟨_, rfl⟩
    have db : Below w.heap.size w W0 := by rw [hW0]; exact (by repeat (first | exact Below.refl _ _ | assumption | refine Below.step ?_ (by assumption) | refine Below.drew ?_ | refine Below.drewN ?_ _ | refine Below.alloc ?_ (by first | omega | (simp only [World.size_alloc, size_setCell, size_drew, size_drewN]; omega)) _ | refine Below.setCell ?_ (by first | (dsimp only; omega) | (simp only [World.size_alloc, size_setCell, size_drew, size_drewN]; omega)) _))
    have dz := db.size
    have f0 : W0.cell? ⟨w.heap.size, 0, none⟩ = some (.int .i64 n) := by rw [hW0]; simp [go_sem]
    have f1 : W0.cell? ⟨w.heap.size, 1, none⟩ = some (.slice a l.length cap) := by rw [hW0]; simp [go_sem]
    have hz0 : W0.heap.size = w.heap.size + 1 := by rw [hW0]; simp
    have zb0 : w.heap.size + 1 ≤ W0.heap.size := by omega
    clear hz0
    rw [← hW0]
    clear hW0
    replace hB := db
    go_wp2_with fail
    refine (szSet_c n a cap l.length 1048576 _ hlm (by omega) (by omega)).mono ?_
    rintro _ w1 ⟨rfl, hb1⟩
    replace f0 := cell_below hb1 f0
    replace f1 := cell_below hb1 f1
    have zb1 := hb1.size
    try simp only [World.size_alloc] at zb1
    replace hB : Below w.heap.size w w1 := (by repeat (first | exact Below.refl _ _ | assumption | refine Below.step ?_ (by assumption) | refine Below.drew ?_ | refine Below.drewN ?_ _ | refine Below.alloc ?_ (by first | omega | (simp only [World.size_alloc, size_setCell, size_drew, size_drewN]; omega)) _ | refine Below.setCell ?_ (by first | (dsimp only; omega) | (simp only [World.size_alloc, size_setCell, size_drew, size_drewN]; omega)) _))
    go_wp2_with fail
    refine (toSet_c _ _ _ _ _ _ (h.below hB) hb).mono ?_
    rintro _ w2 ⟨a2, c2, rfl, ho2, hb2⟩
    replace f0 := cell_below hb2 f0
    replace f1 := cell_below hb2 f1
    have zb2 := hb2.size
    try simp only [World.size_alloc] at zb2
    replace hB : Below w.heap.size w w2 := (by repeat (first | exact Below.refl _ _ | assumption | refine Below.step ?_ (by assumption) | refine Below.drew ?_ | refine Below.drewN ?_ _ | refine Below.alloc ?_ (by first | omega | (simp only [World.size_alloc, size_setCell, size_drew, size_drewN]; omega)) _ | refine Below.setCell ?_ (by first | (dsimp only; omega) | (simp only [World.size_alloc, size_setCell, size_drew, size_drewN]; omega)) _))
    go_wp2_with fail
    refine (specMembers _ _ _ _ _ _ ho2.sl hb).mono ?_
    rintro _ w3 ⟨a3, c3, rfl, ho3', hb3⟩
    replace f0 := cell_below hb3 f0
    replace f1 := cell_below hb3 f1
    have zb3 := hb3.size
    try simp only [World.size_alloc] at zb3
    replace hB : Below w.heap.size w w3 := (by repeat (first | exact Below.refl _ _ | assumption | refine Below.step ?_ (by assumption) | refine Below.drew ?_ | refine Below.drewN ?_ _ | refine Below.alloc ?_ (by first | omega | (simp only [World.size_alloc, size_setCell, size_drew, size_drewN]; omega)) _ | refine Below.setCell ?_ (by first | (dsimp only; omega) | (simp only [World.size_alloc, size_setCell, size_drew, size_drewN]; omega)) _))
    have ho3 := ho3'.mono (S' := fun b => w2.heap.size ≤ b ∧ b < w3.heap.size) fun b hb hS => ⟨hS, hb⟩
    clear ho3' ho2
    have lw3w : w.heap.size < w3.heap.size := by omega
    go_wp2_with fail
    refine (toSet_c _ _ _ _ _ _ (h.below hB) hb).mono ?_
    rintro _ w4 ⟨a4, c4, rfl, ho4', hb4⟩
    replace f0 := cell_below hb4 f0
    replace f1 := cell_below hb4 f1
    replace ho3 := Own.below ho3 hb4
    have zb4 := hb4.size
    try simp only [World.size_alloc] at zb4
    replace hB : Below w.heap.size w w4 := (by repeat (first | exact Below.refl _ _ | assumption | refine Below.step ?_ (by assumption) | refine Below.drew ?_ | refine Below.drewN ?_ _ | refine Below.alloc ?_ (by first | omega | (simp only [World.size_alloc, size_setCell, size_drew, size_drewN]; omega)) _ | refine Below.setCell ?_ (by first | (dsimp only; omega) | (simp only [World.size_alloc, size_setCell, size_drew, size_drewN]; omega)) _))
    have ho4 := ho4'.mono (S' := fun b => w3.heap.size ≤ b ∧ b < w4.heap.size) fun b hb hS => ⟨hS, hb⟩
    clear ho4'
    have lw4w : w.heap.size < w4.heap.size := by omega
    have x0 : (w4.alloc (Obj.cells #[Value.int IntKind.i64 (n), Value.slice a4 (l).length c4] 45)).cell? ⟨w4.heap.size, 0, none⟩ = some (.int .i64 (n)) := by simp [go_sem]
    have x1 : (w4.alloc (Obj.cells #[Value.int IntKind.i64 (n), Value.slice a4 (l).length c4] 45)).cell? ⟨w4.heap.size, 1, none⟩ = some (.slice a4 (l).length c4) := by simp [go_sem]
    go_wp2_with fail
    refine (implMembers _ _ _ _ _ _ (by first | exact ho4.sl | exact ho4.sl.alloc _) hb).mono ?_
    rintro _ w5 ⟨a5, c5, rfl, ho5', hb5⟩
    replace f0 := cell_below hb5 (cell_alloc f0 _)
    replace f1 := cell_below hb5 (cell_alloc f1 _)
    replace x0 := cell_below hb5 x0
    replace x1 := cell_below hb5 x1
    replace ho3 := Own.below (Own.alloc ho3 _) hb5
    replace ho4 := Own.below (Own.alloc ho4 _) hb5
    have zb5 := hb5.size
    try simp only [World.size_alloc] at zb5
    replace hB : Below w.heap.size w w5 := (by repeat (first | exact Below.refl _ _ | assumption | refine Below.step ?_ (by assumption) | refine Below.drew ?_ | refine Below.drewN ?_ _ | refine Below.alloc ?_ (by first | omega | (simp only [World.size_alloc, size_setCell, size_drew, size_drewN]; omega)) _ | refine Below.setCell ?_ (by first | (dsimp only; omega) | (simp only [World.size_alloc, size_setCell, size_drew, size_drewN]; omega)) _))
    have ho5 := ho5'.mono (S' := fun b => w4.heap.size + 1 ≤ b ∧ b < w5.heap.size) fun b hb hS => ⟨by simpa using hS, hb⟩
    clear ho5'
    have lw5w : w.heap.size < w5.heap.size := by omega
    have lw5w4 : w4.heap.size < w5.heap.size := by omega
    go_wp2_with fail
    refine (eqIntS_c _ _ _ _ _ _ _ _ _ ho5.sl ho3.sl).mono ?_
    rintro _ w6 ⟨rfl, hb6⟩
    replace f0 := cell_below hb6 f0
    replace f1 := cell_below hb6 f1
    replace x0 := cell_below hb6 x0
    replace x1 := cell_below hb6 x1
    replace ho3 := Own.below ho3 hb6
    replace ho4 := Own.below ho4 hb6
    replace ho5 := Own.below ho5 hb6
    have zb6 := hb6.size
    try simp only [World.size_alloc] at zb6
    replace hB : Below w.heap.size w w6 := (by repeat (first | exact Below.refl _ _ | assumption | refine Below.step ?_ (by assumption) | refine Below.drew ?_ | refine Below.drewN ?_ _ | refine Below.alloc ?_ (by first | omega | (simp only [World.size_alloc, size_setCell, size_drew, size_drewN]; omega)) _ | refine Below.setCell ?_ (by first | (dsimp only; omega) | (simp only [World.size_alloc, size_setCell, size_drew, size_drewN]; omega)) _))
    clear hb1 hb2 hb3 hb4 hb5 hb6 db
    go_wp2_with fail
    have kk : ∀ w', Below w6.heap.size w6.drew w' → (w'.cell? ⟨w.heap.size, 0, none⟩ = some (.int .i64 n) ∧ w'.cell? ⟨w.heap.size, 1, none⟩ = some (.slice a l.length cap) ∧ w'.cell? ⟨w4.heap.size, 0, none⟩ = some (.int .i64 n) ∧ w'.cell? ⟨w4.heap.size, 1, none⟩ = some (.slice a4 l.length c4)) :=
      fun w' hb => ⟨cell_below (w := w6.drew) hb f0, cell_below (w := w6.drew) hb f1, cell_below (w := w6.drew) hb x0, cell_below (w := w6.drew) hb x1⟩
    have ka : Sl bC (fun b => b < w.heap.size) w6.drew a cap l := (h.below hB).drew1
    have kb : ∀ w', Below w6.heap.size w6.drew w' → Sl bC (fun b => w3.heap.size ≤ b ∧ b < w4.heap.size) w' a4 c4 l := fun w' hb => Sl.below (w := w6.drew) ho4.sl.drew1 hb
    go_region_held3 (fun w' => w'.cell? ⟨w.heap.size, 0, none⟩ = some (.int .i64 n) ∧ w'.cell? ⟨w.heap.size, 1, none⟩ = some (.slice a l.length cap) ∧ w'.cell? ⟨w4.heap.size, 0, none⟩ = some (.int .i64 n) ∧ w'.cell? ⟨w4.heap.size, 1, none⟩ = some (.slice a4 l.length c4))
      (first
        | go_keep
        | exact kk _ hb7
        | exact kk _ (Below.trans hb7 (hb8.mono hb7.size))
        | fail)
      ((first
        | (go_at_call 29; refine (toSet_c _ _ _ _ _ _ ka hb).mono ?_; rintro _ w7 ⟨a7, c7, rfl, ho7, hb7⟩)
        | (go_at_call 31; refine (eqSet_c _ _ _ _ _ _ _ _ _ _ _ (kb _ hb7) ho7.sl).mono ?_; rintro _ w8 ⟨rfl, hb8⟩)
        | fail))
    have hb78 : Below w6.heap.size w6 w8 := (Below.refl _ _).drew.trans (Below.trans hb7 (hb8.mono hb7.size))
    replace f0 := cell_below hb78 f0
    replace f1 := cell_below hb78 f1
    replace x0 := cell_below hb78 x0
    replace x1 := cell_below hb78 x1
    replace ho3 := ho3.below hb78
    replace ho4 := ho4.below hb78
    replace ho5 := ho5.below hb78
    replace hB : Below w.heap.size w w8 := Below.step hB hb78
    have zb8 := hb78.size
    clear kk ka kb hb7 hb8 ho7 hb78
    go_wp2_with fail
    refine (markSet_1 _ n a4 c4 l _ ho4 (by omega)).mono ?_
    rintro _ w9 ⟨rfl, _, hm9⟩
    have zb9 := hm9.size
    replace f0 := cell_same (hm9.block _ (by dsimp only; omega) (by dsimp only; omega)) f0
    replace f1 := cell_same (hm9.block _ (by dsimp only; omega) (by dsimp only; omega)) f1
    replace ho3 := ho3.chg hm9 (fun b _ hS hT => by omega)
    replace ho5 := ho5.chg hm9 (fun b _ hS hT => by omega)
    replace hB : Below w.heap.size w w9 := hB.trans (hm9.below (fun b _ hS => by omega) (by omega))
    clear x0 x1 ho4 hm9
    go_wp2_with fail
    refine (eqIntS_c _ _ _ _ _ _ _ _ _ ho5.sl ho3.sl).mono ?_
    rintro _ w10 ⟨rfl, hb10⟩
    replace f0 := cell_below hb10 f0
    replace f1 := cell_below hb10 f1
    replace ho3 := Own.below ho3 hb10
    replace ho5 := Own.below ho5 hb10
    have zb10 := hb10.size
    try simp only [World.size_alloc] at zb10
    replace hB : Below w.heap.size w w10 := (by repeat (first | exact Below.refl _ _ | assumption | refine Below.step ?_ (by assumption) | refine Below.drew ?_ | refine Below.drewN ?_ _ | refine Below.alloc ?_ (by first | omega | (simp only [World.size_alloc, size_setCell, size_drew, size_drewN]; omega)) _ | refine Below.setCell ?_ (by first | (dsimp only; omega) | (simp only [World.size_alloc, size_setCell, size_drew, size_drewN]; omega)) _))
    go_wp2_with fail
    refine (markIntS_1 _ a5 c5 (members n l) _ ho5 (by omega)).mono ?_
    rintro _ w11 ⟨rfl, ho5', hm11⟩
    have zb11 := hm11.size
    replace f0 := cell_same (hm11.block _ (by dsimp only; omega) (by dsimp only; omega)) f0
    replace f1 := cell_same (hm11.block _ (by dsimp only; omega) (by dsimp only; omega)) f1
    replace ho3 := ho3.chg hm11 (fun b _ hS hT => by omega)
    replace hB : Below w.heap.size w w11 := hB.trans (hm11.below (fun b _ hS => by omega) (by omega))
    clear ho5 hm11 hb10
    go_wp2_with fail
    refine (heldIntS_1 _ a5 c5 (members n l).length _ ho5'.sl (by omega)).mono ?_
    rintro _ w12 ⟨rfl, hb12⟩
    replace f0 := cell_below hb12 f0
    replace f1 := cell_below hb12 f1
    replace ho3 := Own.below ho3 hb12
    replace ho5' := Own.below ho5' hb12
    have zb12 := hb12.size
    try simp only [World.size_alloc] at zb12
    replace hB : Below w.heap.size w w12 := (by repeat (first | exact Below.refl _ _ | assumption | refine Below.step ?_ (by assumption) | refine Below.drew ?_ | refine Below.drewN ?_ _ | refine Below.alloc ?_ (by first | omega | (simp only [World.size_alloc, size_setCell, size_drew, size_drewN]; omega)) _ | refine Below.setCell ?_ (by first | (dsimp only; omega) | (simp only [World.size_alloc, size_setCell, size_drew, size_drewN]; omega)) _))
    go_wp2_with fail
    refine (toSet_c _ _ _ _ _ _ (h.below hB) hb).mono ?_
    rintro _ w13 ⟨a4, c4, rfl, ho4, hb13⟩
    replace f0 := cell_below hb13 f0
    replace f1 := cell_below hb13 f1
    replace ho3 := Own.below ho3 hb13
    replace ho5' := Own.below ho5' hb13
    have zb13 := hb13.size
    try simp only [World.size_alloc] at zb13
    replace hB : Below w.heap.size w w13 := (by repeat (first | exact Below.refl _ _ | assumption | refine Below.step ?_ (by assumption) | refine Below.drew ?_ | refine Below.drewN ?_ _ | refine Below.alloc ?_ (by first | omega | (simp only [World.size_alloc, size_setCell, size_drew, size_drewN]; omega)) _ | refine Below.setCell ?_ (by first | (dsimp only; omega) | (simp only [World.size_alloc, size_setCell, size_drew, size_drewN]; omega)) _))
    go_wp2_with fail
    refine (implMembers _ _ _ _ _ _ (by first | exact ho4.sl | exact ho4.sl.alloc _) hb).mono ?_
    rintro _ w14 ⟨a6, c6, rfl, ho6, hb14⟩
    replace f0 := cell_below hb14 f0
    replace f1 := cell_below hb14 f1
    replace ho3 := Own.below ho3 hb14
    replace ho5' := Own.below ho5' hb14
    have zb14 := hb14.size
    try simp only [World.size_alloc] at zb14
    replace hB : Below w.heap.size w w14 := (by repeat (first | exact Below.refl _ _ | assumption | refine Below.step ?_ (by assumption) | refine Below.drew ?_ | refine Below.drewN ?_ _ | refine Below.alloc ?_ (by first | omega | (simp only [World.size_alloc, size_setCell, size_drew, size_drewN]; omega)) _ | refine Below.setCell ?_ (by first | (dsimp only; omega) | (simp only [World.size_alloc, size_setCell, size_drew, size_drewN]; omega)) _))
    go_wp2_with fail
    refine (eqIntS_c _ _ _ _ _ _ _ _ _ ho6.sl ho3.sl).mono ?_
    rintro _ w15 ⟨rfl, hb15⟩
    replace f0 := cell_below hb15 f0
    replace f1 := cell_below hb15 f1
    replace ho3 := Own.below ho3 hb15
    replace ho5' := Own.below ho5' hb15
    have zb15 := hb15.size
    try simp only [World.size_alloc] at zb15
    replace hB : Below w.heap.size w w15 := (by repeat (first | exact Below.refl _ _ | assumption | refine Below.step ?_ (by assumption) | refine Below.drew ?_ | refine Below.drewN ?_ _ | refine Below.alloc ?_ (by first | omega | (simp only [World.size_alloc, size_setCell, size_drew, size_drewN]; omega)) _ | refine Below.setCell ?_ (by first | (dsimp only; omega) | (simp only [World.size_alloc, size_setCell, size_drew, size_drewN]; omega)) _))
    go_wp2_with fail
    refine (heldIntS_1 _ a5 c5 (members n l).length _ ho5'.sl (by omega)).mono ?_
    rintro _ w16 ⟨rfl, hb16⟩
    have zb16 := hb16.size
    try simp only [World.size_alloc] at zb16
    replace hB : Below w.heap.size w w16 := (by repeat (first | exact Below.refl _ _ | assumption | refine Below.step ?_ (by assumption) | refine Below.drew ?_ | refine Below.drewN ?_ _ | refine Below.alloc ?_ (by first | omega | (simp only [World.size_alloc, size_setCell, size_drew, size_drewN]; omega)) _ | refine Below.setCell ?_ (by first | (dsimp only; omega) | (simp only [World.size_alloc, size_setCell, size_drew, size_drewN]; omega)) _))
    go_wp2
    go_ret
    exact ⟨rfl, hB⟩

theorem FnExactMembers_args {H : Type} {enc : TypeId × Value → H} (W : World) (b0 : Nat) (args : Array Value) (ds : List (DataW H)) (ps : List MemPlace)
    (hval : ∀ (j : Nat) t v, Try.f12.params[j]? = some t → args[j]? = some v → Value.okWide Try.prog W .any b0 t v)
    (hA : DataW.TrodAll enc Try.prog W 0 (fun _ => true) true Try.f12.params.toList args.toList ds ps) :
    Calls Try.prog 12 args W fun e W' => e = .returned (.bool true) ∧ Below W.heap.size W W' := by
  rw [Try.params12] at hA hval
  obtain ⟨v0, vs0, d0, ds0, p0, q0, hargs, rfl, rfl, h0, r0⟩ := trodAll_cons hA
  obtain ⟨rfl, rfl, rfl⟩ := trodAll_nil r0
  obtain rfl : args = #[v0] := by cases args; simp_all
  obtain ⟨cs0, rfl, n0, x0, t0⟩ := arg_struct Try.underlying42 (hval 0 _ _ rfl rfl) h0
  obtain ⟨hl0, m0, hf0⟩ := rd_struct Try.underlying42 t0
  rw [show Try.prog.cellsOf 42 = 2 from by kernel_rfl] at hl0
  obtain ⟨c0x0, c0x1, rfl⟩ := list2 hl0
  obtain ⟨y0x0, g0x0⟩ := hf0 0 _ rfl
  simp [show Try.prog.cellsOf 3 = 1 from by kernel_rfl] at g0x0
  obtain ⟨z0, e0, hz0⟩ := rd_int g0x0
  obtain ⟨y0x1, g0x1⟩ := hf0 1 _ rfl
  simp [show Try.prog.cellsOf 40 = 1 from by kernel_rfl] at g0x1
  obtain ⟨a1, c1, z1, e1, hz1⟩ := rd_bytes Try.underlying40 Try.underlying5 cells_u8 g0x1
  simp only [List.cons.injEq, and_true] at e0 e1
  subst e0 e1
  exact FnExactMembers_walk W z0 hz0 a1 c1 z1 hz1

theorem FnExactMembers_proved : Rows.FnExactMembersSaid :=
  OpenClaim.holds_of_wide 12 Try.f12 rfl rfl rfl rfl rfl rfl rfl ⟨rfl, rfl, rfl, rfl, rfl⟩ rfl rfl rfl rfl rfl (by kernel_rfl) Try.func12 (by kernel_rfl)
    (of_decide_eq_true (by kernel_rfl)) (by unfold Func.isWrapper; first | (rw [if_pos (by decide +kernel)]; kernel_rfl) | (rw [if_neg (by decide +kernel)]; exact ⟨rfl, rfl⟩))
    (fun os started H enc _ => law_lifted 12 Try.f12 Rows.fnExactMembersSpec ⟨rfl, fun H ds h => by match ds, h with | [_], _ => rfl⟩ rfl (by kernel_rfl) (by kernel_rfl) Try.func12 Rows.fnExactMembersRow.domain os started H enc
      (ChangeSpec.witness6 (enc := enc) (C := Try.checked) false ⟨#[], #[.agg #[.int .i64 0, .slice none 0 0]], []⟩ 8 (by kernel_rfl) (by kernel_rfl) (by kernel_rfl) (by kernel_rfl))
      (fun W b0 args ds ps hval hA => FnExactMembers_args W b0 args ds ps hval hA))
#print axioms FnExactMembers_proved

end Go.Proofs.Ytjejhdogbhdgoaa
