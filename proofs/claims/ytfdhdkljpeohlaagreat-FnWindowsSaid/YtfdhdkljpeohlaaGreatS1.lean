/-
  First contracts by the engine. No conditions of its own.
-/
import Derived.Test.YtfdhdkljpeohlaaGreatTi
import Derived.Test.YtfdhdkljpeohlaaGreatMC
namespace Go.Proofs.YtfdhdkljpeohlaaGreat
set_option linter.unusedSimpArgs false
set_option linter.unusedVariables false
set_option linter.unusedSimpArgs false
set_option linter.unusedVariables false
set_option linter.defProp false
open Go.RowKit

theorem mixed : Tryz.prog.follows .mixedOrders = true := by kernel_rfl

theorem u8_le (x : UInt8) : (x.toNat : Int) ≤ 9223372036854775807 := by have := x.toNat_lt; omega

theorem ex_p {p : Prop} {q : p → Prop} (h : p) (k : ∀ h, q h) : ∃ h, q h := ⟨h, k h⟩

theorem l09Bit_k (v : Nat) (hv : v ≤ 1099511627776) : FnOK Tryz.prog 149 ⟨0, [], [.c (.v (.int .i64 (v : Int)))], .c (.v (.int .i64 ((2 ^ (v % 8) : Nat) : Int))), [], 0⟩ := by
  refine fnOK_of true mixed Tryz.func149 rfl (by rfl) (by rfl) ?_
  have hres := congrArg Array.toList Tryz.results149
  simp only [Tryz.ntmps149, BGB, seval]
  repeat' (first | (with_reducible first | refine seq_k fun K hK hE hT => ?_ | refine block_k fun K hK hE hT => ?_ | refine lex_nil ?_ | fail) | ((with_reducible refine region_k ?_); simp only [dstsOf, EVB, seval]) | ((with_reducible refine draw_k ?_ fun D hD => ?_); (focus (first | rfl | kernel_rfl)); simp only [dstsOf, EVB, seval]) | ((with_reducible first | refine lex_move ?_ | refine lex_assign ?_); simp only [EVB, seval]) | (with_reducible first | refine lex_cons fun KS hKS => ?_ | refine lexd_cons fun KS hKS => ?_ | refine skip_k ?_ | refine exit_k ?_ | refine ret_k ?_ | fail) | ((with_reducible refine call_go ?_); fail) | ((with_reducible refine step_go ?_); (fail_if_success with_reducible refine call_go ?_); simp only [ENB, seval, tiAll, true_and]) | ((with_reducible refine lexd_nil ?_ ?_); (focus (refine hD _ ?_; first | kernel_rfl | with_unfolding_all rfl)); clear hD; clear D) | ((with_reducible refine guard_go ?_); refine lex_gone rfl rfl ?_; simp only [EVB, seval]) | ((with_reducible refine guardd_go ?_); refine lexd_gone rfl rfl ?_; simp only [EVB, seval]) | ((first | ((with_reducible refine guard_go ?_); refine lex_guard rfl rfl (fun hg KS hKS => ?_) (fun hg => ?_)) | ((with_reducible refine guardd_go ?_); refine lexd_guard rfl rfl (fun hg KS hKS => ?_) (fun hg => ?_)) | ((with_reducible refine cond_go ?_); refine cond_k rfl (fun hg => ?_) (fun hg => ?_)) | (with_reducible refine And.intro (fun hg => ?_) (fun hg => ?_)) | fail) <;> first | ((with_reducible exfalso); exact absurd hg (by decide)) | ((try simp only [CNL] at hg) <;> first | ((with_reducible exfalso); omega) | ((with_reducible exfalso); first | exact tf (by assumption) hg | exact tf hg (by assumption)) | ((try with_reducible (have hT0 : True := hg; clear hT0 hg)); first | (with_reducible refine wpc_go ?_) | (try simp only [EVB, seval])))) | ((with_reducible refine hKS _ _ _ _ ?_); clear hKS; clear KS; simp only [EVB, seval]) | ((with_reducible refine And.intro ?_ ?_); focus (first | omega | exact u8_le _ | exact flat_intK _ | exact flat_bytK _ | (fail) | decide | (simp only [true_and]; done))) | ((with_reducible refine ex_p ?_ (fun hh => ?_)); focus (first | omega | (simp only [true_and]; omega))) | ((with_reducible refine hK _ _ _ ?_); clear hK hE hT; clear K) | ((with_reducible first | refine hE _ _ _ _ ?_ | refine hT _ _ _ ?_ | fail); (first | (clear hK hE hT; clear K) | (clear hR hE hT; clear K) | skip); try simp only [IFB, seval]) | ((with_reducible apply_assumption -symm -exfalso); try simp only [IFB, seval]) | fail)
  refine loop_v (X := {k : Nat // k ≤ v % 8}) [] (fun x => [(3, .c (.v (.int .i64 ((2 ^ x.1 : Nat) : Int)))), (4, .c (.v (.int .i64 ((x.1 : Nat) : Int))))]) (fun x => []) 0 (fun x => v % 8 - x.1) ⟨0, by omega⟩ ?_
  simp only [KPB, seval]
  refine ⟨?_, ?_⟩
  · (refine wk_a ?_; simp only [MAB, seval]; refine ⟨rfl, rfl, (by decide), ?_, ?_⟩; all_goals (first | (simp only [WKB, seval, true_and]; done) | (simp [WKB, seval, true_and]; done) | simp only [WKB, seval]))
  · rintro ⟨k, hk⟩ K hR hE hT
    obtain ⟨m, hm⟩ : ∃ m : Nat, m = 2 ^ k := ⟨_, rfl⟩
    have hp : m ≤ 128 := by rw [hm]; exact Nat.le_trans (Nat.pow_le_pow_right (by omega) (show k ≤ 7 by omega)) (by decide)
    simp only [← hm]
    repeat' (first | (with_reducible first | refine seq_k fun K hK hE hT => ?_ | refine block_k fun K hK hE hT => ?_ | refine lex_nil ?_ | fail) | ((with_reducible refine region_k ?_); simp only [dstsOf, EVB, seval]) | ((with_reducible refine draw_k ?_ fun D hD => ?_); (focus (first | rfl | kernel_rfl)); simp only [dstsOf, EVB, seval]) | ((with_reducible first | refine lex_move ?_ | refine lex_assign ?_); simp only [EVB, seval]) | (with_reducible first | refine lex_cons fun KS hKS => ?_ | refine lexd_cons fun KS hKS => ?_ | refine skip_k ?_ | refine exit_k ?_ | refine ret_k ?_ | fail) | ((with_reducible refine call_go ?_); fail) | ((with_reducible refine step_go ?_); (fail_if_success with_reducible refine call_go ?_); simp only [ENB, seval, tiAll, true_and]) | ((with_reducible refine lexd_nil ?_ ?_); (focus (refine hD _ ?_; first | kernel_rfl | with_unfolding_all rfl)); clear hD; clear D) | ((with_reducible refine guard_go ?_); refine lex_gone rfl rfl ?_; simp only [EVB, seval]) | ((with_reducible refine guardd_go ?_); refine lexd_gone rfl rfl ?_; simp only [EVB, seval]) | ((first | ((with_reducible refine guard_go ?_); refine lex_guard rfl rfl (fun hg KS hKS => ?_) (fun hg => ?_)) | ((with_reducible refine guardd_go ?_); refine lexd_guard rfl rfl (fun hg KS hKS => ?_) (fun hg => ?_)) | ((with_reducible refine cond_go ?_); refine cond_k rfl (fun hg => ?_) (fun hg => ?_)) | (with_reducible refine And.intro (fun hg => ?_) (fun hg => ?_)) | fail) <;> first | ((with_reducible exfalso); exact absurd hg (by decide)) | ((try simp only [CNL] at hg) <;> first | ((with_reducible exfalso); omega) | ((with_reducible exfalso); first | exact tf (by assumption) hg | exact tf hg (by assumption)) | ((try with_reducible (have hT0 : True := hg; clear hT0 hg)); first | (with_reducible refine wpc_go ?_) | (try simp only [EVB, seval])))) | ((with_reducible refine hKS _ _ _ _ ?_); clear hKS; clear KS; simp only [EVB, seval]) | ((with_reducible refine And.intro ?_ ?_); focus (first | omega | exact u8_le _ | exact flat_intK _ | exact flat_bytK _ | (fail) | decide | (simp only [true_and]; done))) | ((with_reducible refine ex_p ?_ (fun hh => ?_)); focus (first | omega | (simp only [true_and]; omega))) | ((with_reducible refine hK _ _ _ ?_); clear hK hE hT; clear K) | ((with_reducible first | refine hE _ _ _ _ ?_ | refine hT _ _ _ ?_ | fail); (first | (clear hK hE hT; clear K) | (clear hR hE hT; clear K) | skip); try simp only [IFB, seval]) | ((with_reducible apply_assumption -symm -exfalso); try simp only [IFB, seval]) | fail)
    · refine hR.out ⟨k + 1, by omega⟩ _ _ _ (by simp only; omega) ?_
      have e : ((m : Int) * 2) = ((2 ^ (k + 1) : Nat) : Int) := by rw [hm, Nat.pow_succ]; push_cast; rfl
      (refine wk_a ?_; simp only [MAB, seval]; refine ⟨rfl, rfl, (by decide), ?_, ?_⟩; all_goals (first | (simp only [WKB, seval, e]; done) | (simp [WKB, seval, e]; done) | simp only [WKB, seval]))
    · have e : k = v % 8 := by omega
      subst e
      subst hm
      (refine post_a hres (.inl rfl) ?_; simp only [RSB, ENB, seval, tiAll, true_and]; simp only [MAB, seval]; refine ⟨rfl, rfl, ?_, ?_, ?_⟩ <;> (first | rfl | (simp [WKB, Nat.add_comm, true_and]; done) | (simp only [WKB, seval])))

def intK (x : Int) : List DC := [.v (.int .i64 x)]

theorem flat_map {α : Type} {k : α → List DC} (h : ∀ x, ∀ c ∈ k x, DC.flat c) (l : List α) : ∀ e ∈ l.map k, ∀ c ∈ e, DC.flat c := by
  intro e he c hc
  obtain ⟨x, _, rfl⟩ := List.mem_map.1 he
  exact h x c hc
theorem flat_intK (l : List Int) : ∀ e ∈ l.map intK, ∀ c ∈ e, DC.flat c := flat_map (fun x c hc => by simp [intK] at hc; subst hc; exact ⟨_, rfl, rfl⟩) l
theorem flat_bytK (l : List UInt8) : ∀ e ∈ l.map bytK, ∀ c ∈ e, DC.flat c := flat_map (fun x c hc => by simp [bytK] at hc; subst hc; exact ⟨_, rfl, rfl⟩) l

section
variable {α : Type}
/-- the first k elements are set anew -/
def setTo (g : Nat → List DC) (f : α → List DC) (l : List α) (k : Nat) : List (List DC) := (List.range k).map g ++ (l.drop k).map f
theorem setTo_len (g : Nat → List DC) (f : α → List DC) (l : List α) (k : Nat) (h : k ≤ l.length) : (setTo g f l k).length = l.length := by simp [setTo]; omega
theorem setTo_get (g : Nat → List DC) (f : α → List DC) (l : List α) (k : Nat) (h : k < l.length) (h' : k < (setTo g f l k).length) : (setTo g f l k)[k] = f l[k] := by
  have : (setTo g f l k)[k]? = some (f l[k]) := by
    unfold setTo
    rw [List.getElem?_append_right (by simp)]
    simp [h]
  rw [List.getElem?_eq_getElem h'] at this
  exact Option.some.inj this
theorem setTo_set (g : Nat → List DC) (f : α → List DC) (l : List α) (k : Nat) (h : k < l.length) : (setTo g f l k).set k (g k) = setTo g f l (k + 1) := by
  unfold setTo
  have hl : ((List.range k).map g).length = k := by simp
  rw [List.set_append_right _ _ (by rw [hl]; exact Nat.le_refl _), hl, Nat.sub_self, List.drop_eq_getElem_cons h, List.map_cons, List.set_cons_zero, List.range_succ, List.map_append, List.append_assoc]
  rfl
theorem setTo_zero (g : Nat → List DC) (f : α → List DC) (l : List α) : setTo g f l 0 = l.map f := by simp [setTo]
theorem setTo_end (g : Nat → List DC) (f : α → List DC) (l : List α) : setTo g f l l.length = (List.range l.length).map g := by simp [setTo]
theorem map_take (f : α → List DC) (l : List α) : (l.map f).take l.length = l.map f := List.take_of_length_le (by simp)
end

end Go.Proofs.YtfdhdkljpeohlaaGreat

