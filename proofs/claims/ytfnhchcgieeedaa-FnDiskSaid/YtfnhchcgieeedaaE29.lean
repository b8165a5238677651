/-
  The engine, twenty-ninth part: functions that answer by one of a family of contracts. No conditions of its own.
-/
import Derived.Test.YtfnhchcgieeedaaE28
namespace Go.Proofs.Ytfnhchcgieeedaa
set_option linter.unusedSimpArgs false
set_option linter.unusedVariables false
set_option linter.unusedSimpArgs false
set_option linter.unusedVariables false
set_option linter.defProp false
open Go.RowKit

theorem fnF_of0 {P : Program} {f : FuncId} {fn : Func} {code : Code} {n0 n : Nat} {pre : Heap} {args : List SV} {I : Type} {r : I → SV} {wr : I → Heap} {ck : Bool} {dr : Array Oper → List SV → Heap → Nat → (List SV → Heap → Nat → Prop) → Prop} (hdr : DrOK P dr) (hfn : P.funcs[f]? = some fn) (hb : fn.body = some code)
    (hc : ∀ ι, ConOK (Con.mk n0 pre args (r ι) (wr ι) n)) (hd : ∀ f ∈ pre.map (·.1), ∃ blk, hget pre f = some blk)
    (h : wpC P ck dr n0 code (args ++ List.replicate (fn.ntmps - args.length) .any) pre n0 fun e sl H nx => ∃ ι, Post P fn (Con.mk n0 pre args (r ι) (wr ι) n) e sl H nx) : FnF P f n0 pre args r wr n := by
  refine ⟨fun ι => (hc ι).fit hd, fun ρ vs w hargs hmem => calls_of_wp hfn hb ?_⟩
  let X : Ctx := ⟨w.heap.size, fun b => ∃ i blk, i < n0 ∧ hget pre i = some blk ∧ blk.exc (ρ i) b, fun b => ∃ i blk, i < n0 ∧ hget pre i = some blk ∧ (ρ i).F b ∧ ¬ blk.exc (ρ i) b, w, n0, ρ⟩
  refine wpC_ok (X := X) hdr rfl code _ _ _ _ _ _ w (fun e sl H nx a w' he hs => ?_) h ⟨(· < n0), ρ, fun f hf => hf, ⟨Nat.le_refl _, fun f _ => rfl⟩, ⟨?_, rfl, hmem, fun i blk hb b hF => .inr ⟨i, blk, (hmem.dom i blk hb).1, hb, hF⟩, fun i blk hb b hF => by
    by_cases hx : blk.exc (ρ i) b
    · exact .inr (.inl ⟨i, blk, (hmem.dom i blk hb).1, hb, hx⟩)
    · exact .inr (.inr ⟨i, blk, (hmem.dom i blk hb).1, hb, hF, hx⟩), rfl, rfl, rfl, Nat.le_refl _, fun _ _ _ _ => rfl, Nat.le_refl _⟩⟩
  · obtain ⟨ι, he⟩ := he
    obtain ⟨hex, A, hwk, xs, σ, h1, h2, h3, h4, h5, h6⟩ := he
    have hs := hwk X a w' rfl hs
    obtain ⟨V, ρf, hV, ⟨hn, h0⟩, hst⟩ := hs
    obtain ⟨u, g1, g2⟩ := res_ok hst h1
    obtain ⟨hm, hF⟩ := wk_mem σ hst.mem h4 h5
    rw [h2] at g1
    have g3 := msv_r h3 g1
    have hc2 : ∀ i, i < n0 → vwAt ρf (σ i) = ρf i := fun i hi => by rw [h6 i hi]; rfl
    let ρ2 : Nat → At := fun i => if i < n0 ∧ i ∉ (wr ι).map (·.1) then ρ i else if i < n then vwAt ρf (σ i) else ρ i
    have hρ : ∀ i, i < n → newV (· < n0) n0 n i ∧ (ρ2 i).nf = (vwAt ρf (σ i)).nf := by
      intro i hi
      refine ⟨if h : i < n0 then .inl h else .inr (by omega), ?_⟩
      by_cases hlt : i < n0 ∧ i ∉ (wr ι).map (·.1)
      · simp only [ρ2, if_pos hlt]
        rw [hc2 i hlt.1]
        exact (h0 i hlt.1).symm
      · simp only [ρ2, if_neg hlt, if_pos hi]
    have hρF : ∀ i, i < n → i ∈ (wr ι).map (·.1) → ρ2 i = vwAt ρf (σ i) := by
      intro i hi hk
      simp only [ρ2, if_neg (fun h : i < n0 ∧ i ∉ (wr ι).map (·.1) => h.2 hk), if_pos hi]
    have hdone : Done (· < n0) ρ pre n0 w (Con.mk n0 pre args (r ι) (wr ι) n).eff u ρ2 w' := by
      refine ⟨fun i hi => ?_, g3.mono hρ, ⟨fun i blk hb => ?_, fun i j blk blk' hne hb hb' b hFb hFb' => ?_⟩, fun i blk hb b hFb => ?_, hst.os, hst.tape, hst.output, hst.size, fun k hk hnot => ?_⟩
      · have e : (Con.mk n0 pre args (r ι) (wr ι) n).eff.nx = n := rfl
        rw [e] at hi
        have e2 : (Con.mk n0 pre args (r ι) (wr ι) n).eff.wr = (wr ι) := rfl
        rw [e2]
        refine ⟨?_, fun hk => ?_⟩
        · simp only [ρ2]
          split
          · rfl
          · split
            · rw [hc2 i (by omega)]
              exact h0 i (by show i < n0; omega)
            · rfl
        · simp only [ρ2]
          split
          · rfl
          · rename_i hn
            rw [if_neg (fun h => hn ⟨by omega, hk⟩)]
      · obtain ⟨q1, q2, q3⟩ := hm.dom i blk hb
        rw [hρF i q1 (hget_key hb)]
        exact ⟨(hρ i q1).1, q2.keep hρ (fun _ _ => rfl), q3⟩
      · rw [hρF i (hm.dom i blk hb).1 (hget_key hb)] at hFb
        rw [hρF j (hm.dom j blk' hb').1 (hget_key hb')] at hFb'
        exact hm.sep i j blk blk' hne hb hb' b hFb hFb'
      · rw [hρF i (hm.dom i blk hb).1 (hget_key hb)] at hFb
        obtain ⟨k, blk', q1, q2, q3⟩ := hF i blk hb b hFb
        by_cases hx : blk.exc (vwAt ρf (σ i)) b
        · rcases hst.base k blk' q1 b ((q2 b).2 hx) with q4 | ⟨j, blk2, q4, q5, q6⟩
          · exact .inl q4
          · obtain ⟨⟨j', x⟩, r1, r2⟩ := List.mem_map.1 ((hc ι).all j blk2 q5 (exc_own q6))
            simp only at r2
            subst r2
            exact .inr (.inl ⟨_, x, r1, q4, blk2, q5, q6⟩)
        · rcases hst.foot k blk' q1 b q3 with q4 | ⟨j, blk2, q4, q5, q6⟩ | ⟨j, blk2, q4, q5, q6, q7⟩
          · exact .inl q4
          · obtain ⟨⟨j', x⟩, r1, r2⟩ := List.mem_map.1 ((hc ι).all j blk2 q5 (exc_own q6))
            simp only at r2
            subst r2
            exact .inr (.inl ⟨_, x, r1, q4, blk2, q5, q6⟩)
          · exact .inr (.inr ⟨by rw [hρF i (hm.dom i blk hb).1 (hget_key hb)]; exact hx, j, hget_key q5, blk2, q5, q6, q7⟩)
      · refine hst.block k hk hk ?_
        rintro ⟨j, blk2, q4, q5, q6⟩
        obtain ⟨⟨j', x⟩, r1, r2⟩ := List.mem_map.1 ((hc ι).all j blk2 q5 (exc_own q6))
        simp only at r2
        subst r2
        exact hnot _ x r1 q4 ⟨blk2, q5, q6⟩
    rcases hex with rfl | rfl
    · exact ⟨hst.defers, u, g2, ι, u, ρ2, rfl, hdone⟩
    · exact ⟨hst.defers, u, g2, ι, u, ρ2, rfl, hdone⟩
  · have e : (vs.toArray ++ Array.replicate (fn.ntmps - vs.toArray.size) undef).toList = vs ++ List.replicate (fn.ntmps - vs.length) undef := by simp
    rw [e, ← hargs.length]
    exact hargs.append (All2.replicate trivial _)

theorem fnF_of {P : Program} {f : FuncId} {fn : Func} {code : Code} {n0 n : Nat} {pre : Heap} {args : List SV} {I : Type} {r : I → SV} {wr : I → Heap} (ck : Bool) (hmix : P.follows .mixedOrders = true) (hfn : P.funcs[f]? = some fn) (hb : fn.body = some code) (hname : (fn.name == "runtime.NumGoroutine") = false) (i0 : I)
    (hc : ∀ ι, conB (Con.mk n0 pre args (r ι) (wr ι) n) = true)
    (h : wpC P ck (drawK P ck) n0 code (args ++ List.replicate (fn.ntmps - args.length) .any) pre n0 fun e sl H nx => ∃ ι, Post P fn (Con.mk n0 pre args (r ι) (wr ι) n) e sl H nx) : FnF P f n0 pre args r wr n ∧ Callable P f :=
  ⟨fnF_of0 (draw_ok hmix) hfn hb (fun ι => (conB_ok (hc ι)).1) (conB_ok (hc i0)).2 h, fn, hfn, hname, by rw [hb]; rfl⟩

/-- A call of such a function. -/
theorem lex_fam {P : Program} {ck : Bool} {ds : List (Option Tmp)} {sl : List SV} {H : Heap} {nx : Nat} {K : List SV → Heap → Nat → Prop} {d : Option Tmp} {cl : Call} {t : TypeId} {pos : String} {af : Array Edge} {l : List Oper} {f : FuncId} {n0 n : Nat} {pre : Heap} {args : List SV} {I : Type} {r : I → SV} {wr : I → Heap} (vs : List Vw)
    (hfn : FnF P f n0 pre args r wr n ∧ Callable P f) (hcl : cl.callee = .value (.func f)) (i0 : I) (hargs : cl.args.toList.map (evS sl) = args.map (·.map (mcv (vwl vs)))) (hf : ∀ i, Fits H (Con.mk n0 pre args (r i) (wr i) n) (vwl vs))
    (h : ∀ i, lexK P ck ds l (putS sl d ((Con.mk n0 pre args (r i) (wr i) n).effAt (vwl vs) nx).r) (hputs H ((Con.mk n0 pre args (r i) (wr i) n).effAt (vwl vs) nx).wr) ((Con.mk n0 pre args (r i) (wr i) n).effAt (vwl vs) nx).nx K) :
    lexK P ck ds (⟨d, .call cl, t, pos, af, none⟩ :: l) sl H nx K := by
  refine lex_esc fun KS hKS hB => ⟨I, fun i => (Con.mk n0 pre args (r i) (wr i) n).effAt (vwl vs) nx, _, fun i => call_fit0 hB (hf i) (hfn.1.1 i), call_fam rfl hcl hargs hB i0 hf hfn.1 hfn.2, fun i => hKS _ _ _ _ (h i)⟩

end Go.Proofs.Ytfnhchcgieeedaa
