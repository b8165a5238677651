/-
  What is drawn for FnPack: small graphs, and values that are in range. Plain, no conditions of its own.
-/
import Derived.Test.YtfdhdkljpeohlaaGreatDoorZz7
import Derived.Test.YtfdhdkljpeohlaaGreatDoorZz6
import Derived.Test.YtfdhdkljpeohlaaGreatDoorDF2
import Derived.Test.YtfdhdkljpeohlaaGreatDoorMD
import Derived.Test.YtfdhdkljpeohlaaGreatDoorZz3
namespace Go.Proofs.YtfdhdkljpeohlaaGreatDoor
set_option linter.unusedSimpArgs false
set_option linter.unusedVariables false
set_option linter.unusedSimpArgs false
set_option linter.unusedVariables false
set_option linter.defProp false
set_option maxRecDepth 20000
open Go.RowKit

/-- All numbers of a graph have one digit. -/
def dgG (g : GraphD) : Prop := graphOk g = true ∧ g.N < 10 ∧ ∀ e ∈ g.Edges, e.W < 10

theorem egTo_w (b : List UInt8) (n : Int) (c : Cu) : ∀ k, ∀ e ∈ (egTo b n c k).1, e.W < 10
  | 0, e, h => by cases h
  | k + 1, e, h => by
    have h : e ∈ (egTo b n c k).1 ++ [edV b n (egTo b n c k).2] := h
    rcases List.mem_append.1 h with h | h
    · exact egTo_w b n c k e h
    · rw [List.mem_singleton] at h
      subst h
      have := bwV_rng b (bwC b (bwC b (egTo b n c k).2 n) n) (n := 8) (by decide)
      unfold edV
      dsimp only
      omega
theorem gdG_dg (b : List UInt8) (c : Cu) : dgG (gdG b c) := by
  refine ⟨(gdG_ok b c).1, ?_, ?_⟩
  · have := bwV_rng b c (n := 9) (by decide)
    unfold gdG
    split
    · show (0 : Int) < 10; decide
    · show bwV b c 9 < 10; omega
  · unfold gdG
    split
    · intro e he; cases he
    · exact egTo_w b _ _ _

theorem edgesL_skE (m : Nat) (L : List SEdgeD) : edgesL m L = edgesL m (L.map skE) := by
  unfold edgesL
  rw [List.foldl_map]
  rfl
theorem fg_skS {f g : FarmD} (hf : FarmOk f) (hg : FarmOk g) (hn : f.N = g.N) (h : f.Shards.map skS = g.Shards.map skS) : fgR f = fgR g := by
  rw [fg_eq hf, fg_eq hg, hn, sk_sum h, edgesL_skE _ (allE f.Shards), sk_allE h, ← edgesL_skE]
theorem sk_ok {f : FarmD} (hf : FarmOk f) : FarmOk ⟨f.N, f.Ends, f.Shards.map skS⟩ := farm_sk hf (by rw [List.map_map]; exact List.map_congr_left fun s _ => skS_idem s) fun s hs e he => by
  obtain ⟨t, _, rfl⟩ := List.mem_map.1 hs
  unfold skS at he
  obtain ⟨y, _, rfl⟩ := List.mem_map.1 he
  show 0 ≤ (0 : Int) ∧ (0 : Int) ≤ 1099511627776
  omega
theorem fg_sk1 {f : FarmD} (hf : FarmOk f) : fgR ⟨f.N, f.Ends, f.Shards.map skS⟩ = fgR f :=
  fg_skS (sk_ok hf) hf rfl (by rw [List.map_map]; exact List.map_congr_left fun s _ => skS_idem s)
theorem fdF_dg (b : List UInt8) (c : Cu) : dgG (fgR (fdF b c)) := by
  obtain ⟨h1, _, _⟩ := fdA_ok b c
  obtain ⟨e1, h2, _⟩ := fgM_eq h1
  have e : fgR (fdF b c) = gdG b c := by
    unfold fdF
    by_cases h : FwOk (fdA b c) (fdV b c)
    · rw [pB_t h, if_pos rfl]
      obtain ⟨q1, q2, _, q4, _⟩ := fw_farm h
      rw [← e1]
      refine fg_skS q1 h2 q2 ?_
      rw [(fw_yes h).1]
      show ((fdA b c).Shards.map (shW (fdV b c))).map skS = _
      rw [List.map_map]
      exact List.map_congr_left fun s _ => shW_sk (fdV b c) s
    · rw [pB_f h, if_neg (by simp)]
      exact e1
  rw [e]
  exact gdG_dg b c

/-- A shard without its values has the same encoding. -/
theorem edB_sk : ∀ {l : List SEdgeD} {z z' : SEdgeD}, skE z = skE z' → edB z' (l.map skE) = edB z l
  | [], _, _, _ => rfl
  | y :: l, z, z', h => by
    obtain ⟨f1, f2, f3, f4⟩ := skE_out h
    rw [List.map_cons, edB, edB, edB_sk (z := y) (z' := skE y) rfl]
    congr 1
    unfold sEB skE
    rw [f1, f2, f4]
theorem shB_sk (s : ShardD) : shB (skS s) = shB s := by
  unfold shB
  have e1 : shH (skS s) = shH s := by unfold shH skS; simp
  have e2 : s0 (skS s) = s0 s := rfl
  rw [e1, e2]
  congr 1
  exact edB_sk rfl
theorem sk_shOk {s : ShardD} (h : ShOk s) : ShOk (skS s) := sk_sh (skS_idem s) h fun e he => by
  unfold skS at he
  obtain ⟨y, _, rfl⟩ := List.mem_map.1 he
  show 0 ≤ (0 : Int) ∧ (0 : Int) ≤ 1099511627776
  omega
theorem pv_val {l : List Int} (h : l.all valOk = true) (hl : l.length ≤ 400) : lbO l = true := by
  unfold lbO
  rw [decide_eq_true hl, Bool.true_and, List.all_eq_true]
  intro x hx
  have := valOk_out (List.all_eq_true.1 h x hx)
  unfold pvO
  rw [decide_eq_true_eq]
  omega
theorem run_vfO {g : GraphD} {r : RunD} (h : runOk g r = true) : vfO r.vals := by
  obtain ⟨hin, hit, _⟩ := runOk_in h
  have hs := runOk_small h
  have hj := hin.jo
  unfold jobOk at hj
  rw [decide_eq_true_eq] at hj
  have hg := (graphOk_out hin.go).1
  obtain ⟨j1, j2, j3, j4⟩ := hj
  have j5 : 0 ≤ r.Job.Src ∧ r.Job.Src ≤ 150 := by
    by_cases h3 : r.Job.Prog = 3
    · have := j3 h3; omega
    · have := j4 h3; omega
  refine ⟨⟨j1, j2, j5.1, j5.2, hit.1, hit.2⟩, hin.vo, hin.eo, ?_, pv_val hin.vo (by show r.Vals.length ≤ 400; omega), pv_val hin.eo (by show r.EVals.length ≤ 400; omega)⟩
  show setOk r.Next.N r.Next.Bits = true
  rw [hin.sn]
  exact hin.so

/-- Texts of small numbers, of lines, of graphs. -/
def dgT (n : Int) : List UInt8 := [UInt8.ofNat (48 + n.toNat)]
def lnT (e : EdgeD) : List UInt8 := dgT e.From ++ [32] ++ dgT e.To ++ [32] ++ dgT e.W ++ [10]
def gxT (g : GraphD) (k : Nat) : List UInt8 := dgT g.N ++ [10] ++ (g.Edges.take k).flatMap lnT
theorem gxT_zero (g : GraphD) : gxT g 0 = dgT g.N ++ [10] := by simp [gxT]
theorem gxT_succ {g : GraphD} {k : Nat} (h : k < g.Edges.length) : gxT g (k + 1) = gxT g k ++ lnT g.Edges[k] := by
  unfold gxT
  rw [List.take_succ_eq_append_getElem h, List.flatMap_append, ← List.append_assoc]
  simp
theorem gxT_len (g : GraphD) : ∀ k, (gxT g k).length ≤ 2 + 6 * k
  | 0 => by rw [gxT_zero]; simp [dgT]
  | k + 1 => by
    have ih := gxT_len g k
    rcases Nat.lt_or_ge k g.Edges.length with h | h
    · rw [gxT_succ h, List.length_append]
      simp only [lnT, dgT, List.length_append, List.length_cons, List.length_nil]
      omega
    · unfold gxT at ih ⊢
      rw [List.take_of_length_le (by omega)] at ih ⊢
      omega
theorem dg_edge {g : GraphD} (h : dgG g) {e : EdgeD} (he : e ∈ g.Edges) : (0 ≤ e.From ∧ e.From < 10) ∧ (0 ≤ e.To ∧ e.To < 10) ∧ 0 ≤ e.W ∧ e.W < 10 := by
  obtain ⟨h1, h2, h3⟩ := h
  have := (graphOk_out h1).2 e he
  have := h3 e he
  omega
theorem txt_app (a b : List UInt8) : txt a ++ txt b = txt (a ++ b) := by
  apply ByteArray.ext
  simp [txt]
theorem txt_size (a : List UInt8) : (txt a).size = a.length := by simp [txt, ByteArray.size]

end Go.Proofs.YtfdhdkljpeohlaaGreatDoor

