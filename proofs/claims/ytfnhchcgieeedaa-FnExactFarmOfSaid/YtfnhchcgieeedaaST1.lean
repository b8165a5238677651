/-
  A row that the library sorts by a comparison that may lay blocks of its own: calls through values. No conditions of its own.
-/
import Derived.Test.YtfnhchcgieeedaaS1
import Derived.Sort.Defs
import Derived.Sort.Statements
namespace Go.Proofs.Ytfnhchcgieeedaa
set_option linter.unusedSimpArgs false
set_option linter.unusedVariables false
set_option linter.unusedSimpArgs false
set_option linter.unusedVariables false
set_option linter.defProp false
open Go.RowKit

/-- What has become of a world behind a call that changes the blocks S alone. -/
structure CPost (S : List Nat) (φ' : World → Prop) (w w' : World) : Prop where
  fact : φ' w'
  os : w'.os = w.os
  tape : w'.tape = w.tape
  output : w'.output = w.output
  size : w.heap.size ≤ w'.heap.size
  block : ∀ k, k < w.heap.size → k ∉ S → w'.heap[k]? = w.heap[k]?

/-- A function value called at these arguments turns the one fact into the other and answers so. -/
def CloS (P : Program) (fv : Value) (S : List Nat) (φ φ' : World → Prop) (xs : Array Value) (r : Value) : Prop :=
  ∃ g lb, fv = .func (.func g) #[] lb ∧ ∀ w : World, (∀ b ∈ S, b < w.heap.size) → φ w →
    (∃ w', (callFunc g (xs ++ lb)).run P w = .ok (.value r) w' ∧ CPost S φ' w w') ∨
    ((callFunc g (xs ++ lb)).run P w = .ok (.enter g (xs ++ lb)) w ∧ Calls P g (xs ++ lb) w fun e w' => e = .returned r ∧ CPost S φ' w w')

section
variable {P : Program} {dd : Option Tmp} {t : Tmp} {a1 a2 : Operand} {ts : Array TypeId} {tt : TypeId} {pos : String} {af : Array Edge} {gu : Option (Nat × Bool)} {ev : Operand → SV} {H : Heap} {nx : Nat} {KS : Eff → Prop}

theorem clo_k {fv : Value} {S : List Nat} {φ φ' : World → Prop} {x y r : Value} {r' : SV} {f : Nat} (hv : CloS P fv S φ φ' #[x, y] r) (hst : ∀ w w', φ' w → (∀ b ∈ S, w'.heap[b]? = w.heap[b]?) → φ' w') (hr : ∀ V ρ, SVr V ρ r' r)
    (hev : ev (.tmp t) = .c (.v fv)) (h1 : ev a1 = .c (.v x)) (h2 : ev a2 = .c (.v y)) (hH : hget H f = some (.gh S φ)) (hf : f < nx) (h : KS ⟨r', [f], [(f, some (.gh S φ'))], nx⟩) :
    oneK P ⟨dd, .call ⟨.value (.tmp t), #[a1, a2], ts⟩, tt, pos, af, gu⟩ ev H nx KS := by
  refine ⟨_, ⟨Nat.le_refl _, fun k hk => ?_, fun k b hk => ?_, by simp⟩, ?_, h⟩
  · simp only [List.mem_singleton] at hk; subst hk; exact ⟨_, hH⟩
  · simp only [List.mem_singleton, Prod.mk.injEq] at hk
    obtain ⟨rfl, rfl⟩ := hk
    exact ⟨hf, fun _ => ⟨by simp, _, hH, rfl⟩⟩
  intro V ρ a w K Q hV hm0 hm hK
  obtain ⟨hVf, ⟨hS, hφ, _⟩, hsz⟩ := hm.dom f _ (looked_get (by simp) hH)
  obtain ⟨g, lb, rfl, hc⟩ := hv
  have e1 : a.eval a1 = x := by have := hm0 a1; rw [h1] at this; exact this.1
  have e2 : a.eval a2 = y := by have := hm0 a2; rw [h2] at this; exact this.1
  have e3 : a.eval (.tmp t) = .func (.func g) #[] lb := by have := hm0 (.tmp t); rw [hev] at this; exact this.1
  have hexec : (execOp a.eval ⟨dd, .call ⟨.value (.tmp t), #[a1, a2], ts⟩, tt, pos, af, gu⟩).run P w = (callFunc g (#[x, y] ++ lb)).run P w := by
    unfold execOp
    simp only [resolve, e3, Deferred.ofValue, Sem.run_bind, Sem.run_pure, Result.andThen_ok, invoke]
    simp [e1, e2]
  have fin : ∀ w', CPost S φ' w w' → Done V ρ H nx w ⟨r', [f], [(f, some (.gh S φ'))], nx⟩ r ρ w' := fun w' hp => by
    have hw : ∀ k blk, hget [(f, some (Blk.gh S φ'))] k = some blk → k = f ∧ blk = .gh S φ' := fun k blk hb => by
      simp only [hget] at hb
      split at hb
      · rename_i e; exact ⟨e, (Option.some.inj hb).symm⟩
      · cases hb
    refine ⟨same_of fun _ _ => rfl, hr _ _, ⟨fun k blk hb => ?_, fun k k' blk blk' hkk hb hb' => ?_⟩, fun k blk hb b hF => ?_, hp.os, hp.tape, hp.output, hp.size, fun k hk hx => ?_⟩
    · obtain ⟨rfl, rfl⟩ := hw k blk hb
      exact ⟨.inl hVf, ⟨hS, hp.fact, fun w'' hw'' => hst w' w'' hp.fact hw''⟩, fun b hF => Nat.lt_of_lt_of_le (hsz b hF) hp.size⟩
    · exact absurd ((hw k blk hb).1.trans (hw k' blk' hb').1.symm) hkk
    · obtain ⟨rfl, rfl⟩ := hw k blk hb
      exact .inr (.inl ⟨k, some (.gh S φ'), by simp, hf, _, hH, hF⟩)
    · exact hp.block k hk fun hkS => hx f (some (.gh S φ')) (by simp) hf ⟨_, hH, hS k hkS⟩
  unfold Oper.wp
  rw [hexec]
  rcases hc w (fun b hb => hsz b (hS b hb)) hφ with ⟨w', hrun, hp⟩ | ⟨hrun, hcalls⟩
  · rw [hrun]
    exact hK r ρ w' (fin w' hp)
  · rw [hrun, Oper.upon_enter]
    refine hcalls.mono fun e w' he => ?_
    obtain ⟨rfl, hp⟩ := he
    exact hK r ρ w' (fin w' hp)
end

/-- A comparison and a swap over rows of n elements. -/
structure SrtC (P : Program) {α : Type} [Inhabited α] (lt : α → α → Bool) (S : List Nat) (Φ : Array α → World → Prop) (LF SF : Value) (n : Nat) : Prop where
  one1 : LF.oneCell' = true
  one2 : SF.oneCell' = true
  st : ∀ d w w', Φ d w → (∀ b ∈ S, w'.heap[b]? = w.heap[b]?) → Φ d w'
  less : ∀ d : Array α, d.size = n → ∀ i j : Nat, i < n → j < n → CloS P LF S (Φ d) (Φ d) #[.int .i64 i, .int .i64 j] (.bool (lt d[i]! d[j]!))
  swap : ∀ d : Array α, d.size = n → ∀ i j : Nat, i < n → j < n → CloS P SF S (Φ d) (Φ (Go.Sort.swp d i j)) #[.int .i64 i, .int .i64 j] (.tuple #[])

section
variable {P : Program} {α : Type} [Inhabited α] {lt : α → α → Bool} {S : List Nat} {Φ : Array α → World → Prop} {LF SF : Value} {n : Nat}
variable {dd : Option Tmp} {t : Tmp} {a1 a2 : Operand} {ts : Array TypeId} {tt : TypeId} {pos : String} {af : Array Edge} {gu : Option (Nat × Bool)} {ev : Operand → SV} {H : Heap} {nx : Nat} {KS : Eff → Prop}

theorem less_k (hC : SrtC P lt S Φ LF SF n) {d : Array α} {i j f : Nat} {x y : Int} (hd : d.size = n) (hi : i < n) (hj : j < n) (ei : x = (i : Int)) (ej : y = (j : Int)) (hev : ev (.tmp t) = .c (.v LF)) (h1 : ev a1 = .c (.v (.int .i64 x))) (h2 : ev a2 = .c (.v (.int .i64 y)))
    (hH : hget H f = some (.gh S (Φ d))) (hf : f < nx) (h : KS ⟨.c (.v (.bool (lt d[i]! d[j]!))), [f], [(f, some (.gh S (Φ d)))], nx⟩) : oneK P ⟨dd, .call ⟨.value (.tmp t), #[a1, a2], ts⟩, tt, pos, af, gu⟩ ev H nx KS := by
  subst ei ej
  exact clo_k (r' := .c (.v (.bool (lt d[i]! d[j]!)))) (hC.less d hd i j hi hj) (hC.st d) (fun _ _ => ⟨rfl, rfl⟩) hev h1 h2 hH hf h
theorem swap_k (hC : SrtC P lt S Φ LF SF n) {d : Array α} {i j f : Nat} {x y : Int} (hd : d.size = n) (hi : i < n) (hj : j < n) (ei : x = (i : Int)) (ej : y = (j : Int)) (hev : ev (.tmp t) = .c (.v SF)) (h1 : ev a1 = .c (.v (.int .i64 x))) (h2 : ev a2 = .c (.v (.int .i64 y)))
    (hH : hget H f = some (.gh S (Φ d))) (hf : f < nx) (h : KS ⟨.tup [], [f], [(f, some (.gh S (Φ (Go.Sort.swp d i j))))], nx⟩) : oneK P ⟨dd, .call ⟨.value (.tmp t), #[a1, a2], ts⟩, tt, pos, af, gu⟩ ev H nx KS := by
  subst ei ej
  exact clo_k (r' := .tup []) (hC.swap d hd i j hi hj) (hC.st _) (fun _ _ => ⟨[], rfl, trivial⟩) hev h1 h2 hH hf h
end

end Go.Proofs.Ytfnhchcgieeedaa
