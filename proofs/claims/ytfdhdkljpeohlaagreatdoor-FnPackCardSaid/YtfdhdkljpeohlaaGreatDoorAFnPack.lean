/-
  For all arguments the law FnPack returns true: the row, and the card with the tables tied to the program's text. No conditions.
-/
import Derived.Test.YtfdhdkljpeohlaaGreatDoorLV35
import Derived.Test.YtfdhdkljpeohlaaGreatDoorZz1
import Derived.Test.YtfdhdkljpeohlaaGreatDoorCards
import Derived.Test.YtfdhdkljpeohlaaGreatDoorTie
import Derived.Lib.LaidIn
import Derived.SevenTiedAt
import Derived.JoinedOf
import Derived.LaidLaws
namespace Go.Proofs.YtfdhdkljpeohlaaGreatDoor
set_option linter.unusedSimpArgs false
set_option linter.unusedVariables false
set_option linter.unusedSimpArgs false
set_option linter.unusedVariables false
set_option linter.defProp false
set_option maxRecDepth 20000
open Go.RowKit Go.ChangeShapes Go.WideShapes Go.ChangeAt

theorem FnPack_args {H : Type} {enc : TypeId × Value → H} (W : World) (b0 : Nat) (args : Array Value) (ds : List (DataW H)) (ps : List MemPlace)
    (hval : ∀ (j : Nat) t v, Tryz.f3.params[j]? = some t → args[j]? = some v → Value.okWide Tryz.prog W .any b0 t v)
    (hA : DataW.TrodAll enc Tryz.prog W 0 (fun _ => true) true Tryz.f3.params.toList args.toList ds ps) :
    Calls Tryz.prog 3 args W fun e W' => e = .returned (.bool true) ∧ Below W.heap.size W W' := by
  rw [Tryz.params3] at hA hval
  obtain ⟨v0, vs0, d0, ds0, p0, q0, hargs, rfl, rfl, h0, r0⟩ := trodAll_cons hA
  obtain ⟨rfl, rfl, rfl⟩ := trodAll_nil r0
  obtain rfl : args = #[v0] := by cases args; simp_all
  obtain ⟨n0, t0⟩ := h0
  obtain ⟨D0, R0, S0, _⟩ := rd_all 2 22 (by kernel_rfl) _ _ _ t0
  obtain ⟨esz0, rfl, lz0, az0⟩ := sh_slice (Tryz.underlying22) (show Sh Tryz.prog (0 + 2) 22 D0 from S0)
  obtain ⟨z0, rfl, qz0⟩ := list_of (k := bytK) (R := (fun _ => True)) fun el he => sh_bytK (az0 el he)
  have rz0 : (z0).length ≤ maxLen ∧ ∀ y ∈ z0, (fun _ => True) y := ⟨by simpa using lz0, qz0⟩
  rw [show Tryz.prog.cellsOf 5 = 1 from by kernel_rfl] at R0
  obtain ⟨u0, e0, R0'⟩ := one_arg R0
  obtain rfl := arg_sl Tryz.underlying22 (hval 0 _ _ rfl rfl) e0
  exact law_calls (l := [(false, [.sl 5 1 (z0.map bytK)])]) (vs := [_]) ⟨⟨_, rfl, R0'⟩, trivial⟩ (by simp only [impA, impC, List.length_map, List.nil_append, List.cons_append, List.append_nil, Nat.zero_add, Nat.reduceAdd]; exact FnPack_k z0 rz0)

/-- A table's cells. -/
def tabCells : DataW Unit → Array Value
  | .agg l => (l.map fun | .lit (.int k n) => Value.int k n | _ => undef).toArray
  | _ => #[]
/-- A world that meets the row's condition: the settled one, the three tables laid. -/
noncomputable def laidWorld (os : Os) : World :=
  let w0 := World.holding Tryz.prog os ⟨#[], #[], []⟩
  let put (h : Array Obj) (g : Nat) (cs : Array Value) : Array Obj := h.modify g fun
    | .cells _ t frozen => .cells cs t frozen
    | o => o
  { w0 with heap := put (put (put w0.heap 2 (tabCells Rows.laid_math_bits_deBruijn32tab)) 3 (tabCells Rows.laid_math_bits_deBruijn64tab)) 0 (tabCells Rows.laid_internal_strconv_uint64pow10) }
theorem laid_met (os : Os) (args : Array Value) : laidMetH Tryz.prog Rows.fnPackRow.laid ((laidWorld os).forCall (fun _ _ => 0) ⟨#[], args, []⟩).memory :=
  (LaidIn.of_run (l := [("math/bits.deBruijn32tab", Rows.laid_math_bits_deBruijn32tab), ("math/bits.deBruijn64tab", Rows.laid_math_bits_deBruijn64tab), ("internal/strconv.uint64pow10", Rows.laid_internal_strconv_uint64pow10)]) [2, 3, 0] 8 (by kernel_rfl) (by kernel_rfl) (by kernel_rfl) (by kernel_rfl)).met

set_option maxRecDepth 100000 in
theorem pack_lifted (os : Os) (started : os.Started) (H : Type) (enc : TypeId × Value → H) :
    ReturnsInHanded {} Tryz.checked os 3 .any (fun w args => (Rows.fnPackSpec.pre enc Tryz.prog Tryz.f3 Rows.fnPackRow.domain false w args ∧ laidMetH Tryz.prog Rows.fnPackRow.laid w) ∧ sizedMet enc Tryz.prog Tryz.f3 (OpenSpec.ofChange Rows.fnPackSpec) false w args)
      (Rows.fnPackSpec.post enc Tryz.prog Tryz.f3 false true false false) := by
  have hspec : LawSpec Rows.fnPackSpec Tryz.f3.params.size := ⟨rfl, fun H ds h => by match ds, h with | [_], _ => rfl⟩
  have hpar : Tryz.f3.params.toList.all (fun t => Tryz.prog.readableRec t && decide (t < Tryz.prog.types.size)) = true := by kernel_rfl
  refine returnsInHanded_of_change_and (C := Tryz.checked) (X := fun w _ => laidMetH Tryz.prog Rows.fnPackRow.laid w) (fun _ _ _ hh h => h.of_heap hh) own started (by kernel_rfl) Tryz.func3
    (ChangeSpec.witness_at (enc := enc) (C := Tryz.checked) (os := os) (X := fun w _ => laidMetH Tryz.prog Rows.fnPackRow.laid w) false (laidWorld os) #[.slice none 0 0] 8 rfl (by kernel_rfl) (by kernel_rfl) (by kernel_rfl) (by kernel_rfl) (by kernel_rfl) (laid_met os _)) ?_
  intro W base args ds gs before hval hW _ _ _ _
  have hW' := hW
  obtain ⟨p, q, hA, hV, rfl, hfz, hnd⟩ := hW
  rw [hspec.vars] at hV
  cases gs with
  | cons g gs => exact hV.elim
  | nil =>
    obtain rfl : q = [] := hV
    refine (FnPack_args W base args ds p hval hA).mono fun e W' ⟨he, hb⟩ => ?_
    subst he
    refine ⟨_, rfl, ds, [], p ++ [], [], p, [], hW', ?_, ?_, ?_, World.keptBut_mono (fun x hx => hx.elim) (hb.frame (fun _ => False)), fun h => by cases h⟩
    · rw [List.append_nil, hspec.says H ds (by simpa using trodAll_len hA)]
      exact trodAll_mk1 (shut_bool Tryz.underlying4 true)
    · rw [List.append_nil, hspec.says H ds (by simpa using trodAll_len hA)]
      exact trodAll_below laidOut hb _ hpar _ _ _ (fun x hx => hW'.lt x (by simpa using hx)) hA
    · rw [List.append_nil, hspec.says H ds (by simpa using trodAll_len hA), hspec.vars]
      rfl

theorem FnPack_row : Rows.FnPackSaid :=
  OpenClaim.holds_of_wide 3 Tryz.f3 rfl rfl rfl rfl rfl rfl rfl ⟨rfl, rfl, rfl, rfl, rfl⟩ rfl rfl rfl rfl rfl (by kernel_rfl) Tryz.func3 (by kernel_rfl)
    (of_decide_eq_true (by kernel_rfl)) (by unfold Func.isWrapper; first | (rw [if_pos (by decide +kernel)]; kernel_rfl) | (rw [if_neg (by decide +kernel)]; exact ⟨rfl, rfl⟩))
    (fun os started H enc _ => pack_lifted os started H enc)

/-- The card: the row, its three tables tied to the program's text (the tie is given). -/
theorem FnPack_proved : Rows.FnPackCardSaid :=
  Claim7.holds_tied_plain_at .later [] [.data, .data, .data] true (true, "5367d30535d0c731205e91b192ffc160b086beef6551a90839fd103be6f92edc") false
    FnPack_row (fun _ h => by cases h) (by kernel_rfl) (fun _ h => by cases h) fnPack_row_tie rfl ⟨rfl, rfl⟩ (by kernel_rfl) rfl
    (fun f fn hf hfn => by
      obtain rfl : f = 3 := Option.some.inj ((show Tryz.prog.funcNamed "loop.example/g00671/laws.FnPack" = some 3 by kernel_rfl).symm.trans hf) |>.symm
      obtain rfl : fn = Tryz.f3 := (Option.some.inj (Tryz.func3.symm.trans hfn)).symm
      exact ⟨by kernel_rfl, fun j t ht => by
        rw [Tryz.params3] at ht
        have h3 : t = 22 := by
          rcases j with _ | j
          · simpa using ht.symm
          · simp at ht
        subst h3
        exact (show Tryz.prog.wantsStandIn 22 = false by kernel_rfl)⟩)
    (by kernel_rfl)
#print axioms FnPack_proved

end Go.Proofs.YtfdhdkljpeohlaaGreatDoor

