/-
  For all bytes the law FnDisk returns true: a disk stays valid whatever is done to it, what is made durable is what was seen, and behind a power failure a beginning of what waited has been done. No conditions.
-/
import Derived.Test.YtfnhchcgieeedaaMXE
import Derived.Test.YtfnhchcgieeedaaSh
namespace Go.Proofs.Ytfnhchcgieeedaa
set_option linter.unusedSimpArgs false
set_option linter.unusedVariables false
set_option linter.unusedSimpArgs false
set_option linter.unusedVariables false
set_option linter.defProp false
set_option maxRecDepth 20000
open Go.RowKit Go.ChangeShapes Go.WideShapes Go.ChangeAt

theorem FnDisk_args {H : Type} {enc : TypeId × Value → H} (W : World) (b0 : Nat) (args : Array Value) (ds : List (DataW H)) (ps : List MemPlace)
    (hval : ∀ (j : Nat) t v, Try.f7.params[j]? = some t → args[j]? = some v → Value.okWide Try.prog W .any b0 t v)
    (hA : DataW.TrodAll enc Try.prog W 0 (fun _ => true) true Try.f7.params.toList args.toList ds ps) :
    Calls Try.prog 7 args W fun e W' => e = .returned (.bool true) ∧ Below W.heap.size W W' := by
  rw [Try.params7] at hA hval
  obtain ⟨v0, vs0, d0, ds0, p0, q0, hargs, rfl, rfl, h0, r0⟩ := trodAll_cons hA
  obtain ⟨rfl, rfl, rfl⟩ := trodAll_nil r0
  obtain rfl : args = #[v0] := by cases args; simp_all
  obtain ⟨n0, t0⟩ := h0
  obtain ⟨D0, R0, S0, _⟩ := rd_all 2 62 (by kernel_rfl) _ _ _ t0
  obtain ⟨esz0, rfl, lz0, az0⟩ := sh_slice (Try.underlying62) (show Sh Try.prog (0 + 2) 62 D0 from S0)
  obtain ⟨z0, rfl, qz0⟩ := list_of (k := bytK) (R := (fun _ => True)) fun el he => sh_bytK (az0 el he)
  have rz0 : (z0).length ≤ maxLen ∧ ∀ y ∈ z0, (fun _ => True) y := ⟨by simpa using lz0, qz0⟩
  rw [show Try.prog.cellsOf 5 = 1 from by kernel_rfl] at R0
  obtain ⟨u0, e0, R0'⟩ := one_arg R0
  obtain rfl := arg_sl Try.underlying62 (hval 0 _ _ rfl rfl) e0
  exact law_calls (l := [(false, [.sl 5 1 (z0.map bytK)])]) (vs := [_]) ⟨⟨_, rfl, R0'⟩, trivial⟩ (by simp only [impA, impC, List.length_map, List.nil_append, List.cons_append, List.append_nil, Nat.zero_add, Nat.reduceAdd]; exact FnDisk_k z0 rz0)

theorem FnDisk_proved : Rows.FnDiskSaid :=
  OpenClaim.holds_of_wide 7 Try.f7 rfl rfl rfl rfl rfl rfl rfl ⟨rfl, rfl, rfl, rfl, rfl⟩ rfl rfl rfl rfl rfl (by kernel_rfl) Try.func7 (by kernel_rfl)
    (of_decide_eq_true (by kernel_rfl)) (by unfold Func.isWrapper; first | (rw [if_pos (by decide +kernel)]; kernel_rfl) | (rw [if_neg (by decide +kernel)]; exact ⟨rfl, rfl⟩))
    (fun os started H enc _ => law_lifted 7 Try.f7 Rows.fnDiskSpec ⟨rfl, fun H ds h => by match ds, h with | [_], _ => rfl⟩ rfl (by kernel_rfl) (by kernel_rfl) Try.func7 Rows.fnDiskRow.domain os started H enc
      (ChangeSpec.witness6 (enc := enc) (C := Try.checked) false ⟨#[], #[.slice none 0 0], []⟩ 8 (by kernel_rfl) (by kernel_rfl) (by kernel_rfl) (by kernel_rfl))
      (fun W b0 args ds ps hval hA => FnDisk_args W b0 args ds ps hval hA))
#print axioms FnDisk_proved

end Go.Proofs.Ytfnhchcgieeedaa