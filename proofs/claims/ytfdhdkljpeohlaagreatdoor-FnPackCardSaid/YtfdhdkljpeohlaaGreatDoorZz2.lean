/-
  Texts MDQ MG H1 MGD MGE MH R2 in one. No conditions of its own.
-/
import Derived.Test.YtfdhdkljpeohlaaGreatDoorGO
import Derived.Test.YtfdhdkljpeohlaaGreatDoorZz1
import Derived.Laws.StructEq
namespace Go.Proofs.YtfdhdkljpeohlaaGreatDoor
set_option linter.unusedSimpArgs false
set_option linter.unusedVariables false
set_option linter.unusedSimpArgs false
set_option linter.unusedVariables false
set_option linter.defProp false
open Go.RowKit

end Go.Proofs.YtfdhdkljpeohlaaGreatDoor

namespace Go.Proofs.YtfdhdkljpeohlaaGreatDoor
set_option linter.unusedSimpArgs false
set_option linter.unusedVariables false
set_option linter.defProp false
open Go.RowKit

set_option maxHeartbeats 2000000 in
theorem sameInts_k (l : List Int) (hl : l.length ≤ 1048576) : FnOK Tryz.prog 19 ⟨2, [(0, some (.ro (l.map intK))), (1, some (.ro (l.map intK)))], [.c (.sl 0 1 0 l.length), .c (.sl 1 1 0 l.length)], .c (.v (.bool true)), [], 2⟩ := by
  refine fnOK_of true mixed Tryz.func19 rfl (by rfl) (by rfl) ?_
  have hres := congrArg Array.toList Tryz.results19
  simp only [Tryz.ntmps19, BGB, seval]
  (have gx := @List.length_map.{0,0}; refine go ?_; (repeat' first | exact Ef.mk | apply Lf.mk | refine fun (K : KT) hK hE hT => ?_ | refine fun (KS : KE) hKS => ?_ | refine fun (D : KD) hD => ?_ | refine fun (hg : (_ : Prop)) => ?_ | fail); all_goals (first | (refine Wr.mk ?_; (try clear gx); repeat first | clear hK hE hT K | clear hR hE hT K) | assumption | skip))
  refine loop_v (X := {k : Nat // k ≤ l.length}) [] (fun x => [(13, .c (.v (.int .i64 ((x.1 : Nat) : Int))))]) (fun x => [(0, some (.ro (l.map intK))), (1, some (.ro (l.map intK)))]) 2 (fun x => l.length - x.1) ⟨0, by omega⟩ ?_
  simp only [KPB, seval]
  refine ⟨?_, ?_⟩
  · (refine wk_a ?_; simp only [MAB, seval]; refine ⟨rfl, rfl, (by decide), ?_, ?_⟩; all_goals (first | (simp only [WKB, seval, true_and]; done) | (simp [WKB, seval, true_and]; done) | simp only [WKB, seval]))
  · rintro ⟨k, hk⟩ K hR hE hT
    (have gx := And.intro (@List.length_map.{0,0}) (And.intro @List.getElem_map.{0,0} @intK.eq_1); refine go ?_; (repeat' first | exact Ef.mk | apply Lf.mk | refine fun (K : KT) hK hE hT => ?_ | refine fun (KS : KE) hKS => ?_ | refine fun (D : KD) hD => ?_ | refine fun (hg : (_ : Prop)) => ?_ | fail); all_goals (first | (refine Wr.mk ?_; (try clear gx); repeat first | clear hK hE hT K | clear hR hE hT K) | assumption | skip))
    all_goals first
      | (refine hR.out ⟨k + 1, by omega⟩ _ _ _ (by simp only; omega) ?_; (refine wk_a ?_; simp only [MAB, seval]; refine ⟨rfl, rfl, (by decide), ?_, ?_⟩; all_goals (first | (simp only [WKB, seval, true_and]; done) | (simp [WKB, seval, true_and]; done) | simp only [WKB, seval])))
      | (refine post_a hres (.inl rfl) ?_; simp only [RSB, ENB, seval, tiAll, true_and]; simp only [MAB, seval]; refine ⟨rfl, rfl, ?_, ?_, ?_⟩ <;> (first | rfl | (simp [WKB, Nat.add_comm, true_and]; done) | (simp only [WKB, seval])))
      | fail

end Go.Proofs.YtfdhdkljpeohlaaGreatDoor


namespace Go.Proofs.YtfdhdkljpeohlaaGreatDoor
set_option linter.unusedSimpArgs false
set_option linter.unusedVariables false
set_option linter.unusedSimpArgs false
set_option linter.unusedVariables false
set_option linter.defProp false
open Go.RowKit

end Go.Proofs.YtfdhdkljpeohlaaGreatDoor
namespace Go.Proofs.YtfdhdkljpeohlaaGreatDoor
set_option linter.unusedSimpArgs false
set_option linter.unusedVariables false
set_option linter.defProp false
open Go.RowKit

structure SEdgeD where
  From : Int
  To : Int
  W : Int
  Index : Int
  Val : Int
deriving DecidableEq

def SEdgeD.k (x : SEdgeD) : List DC := [.v (.int .i64 x.From), .v (.int .i64 x.To), .v (.int .i64 x.W), .v (.int .i64 x.Index), .v (.int .i64 x.Val)]
def SEdgeD.s (x : SEdgeD) : List CV := [.v (.int .i64 x.From), .v (.int .i64 x.To), .v (.int .i64 x.W), .v (.int .i64 x.Index), .v (.int .i64 x.Val)]
theorem flat_SEdge (l : List SEdgeD) : ∀ e ∈ l.map SEdgeD.k, ∀ c ∈ e, DC.flat c := flat_map (fun x c hc => by simp only [SEdgeD.k, List.mem_cons, List.not_mem_nil, or_false] at hc; rcases hc with rfl | rfl | rfl | rfl | rfl <;> exact ⟨_, rfl, rfl⟩) l
/-- marked cells -/
def SEdgeD.q (q : Nat) : List DC := [.v (.int .i64 ((q : Int))), .v (.int .i64 ((q : Int) + 1)), .v (.int .i64 ((q : Int) + 1 + 1)), .v (.int .i64 ((q : Int) + 1 + 1 + 1)), .v (.int .i64 ((q : Int) + 1 + 1 + 1 + 1))]
def SEdgeD.g (k i : Nat) : List DC := SEdgeD.q (k + 5 * i)

end Go.Proofs.YtfdhdkljpeohlaaGreatDoor
namespace Go.Proofs.YtfdhdkljpeohlaaGreatDoor
set_option linter.unusedSimpArgs false
set_option linter.unusedVariables false
set_option linter.defProp false
set_option maxRecDepth 20000
open Go.RowKit

structure LocD where
  Shard : Int
  At : Int
  Edge : SEdgeD
deriving DecidableEq

def LocD.k (x : LocD) : List DC := [.v (.int .i64 x.Shard), .v (.int .i64 x.At), .v (.int .i64 x.Edge.From), .v (.int .i64 x.Edge.To), .v (.int .i64 x.Edge.W), .v (.int .i64 x.Edge.Index), .v (.int .i64 x.Edge.Val)]
def LocD.s (x : LocD) : List CV := [.v (.int .i64 x.Shard), .v (.int .i64 x.At), .v (.int .i64 x.Edge.From), .v (.int .i64 x.Edge.To), .v (.int .i64 x.Edge.W), .v (.int .i64 x.Edge.Index), .v (.int .i64 x.Edge.Val)]
theorem flat_Loc (l : List LocD) : ∀ e ∈ l.map LocD.k, ∀ c ∈ e, DC.flat c := flat_map (fun x c hc => by simp only [LocD.k, List.mem_cons, List.not_mem_nil, or_false] at hc; rcases hc with rfl | rfl | rfl | rfl | rfl | rfl | rfl <;> exact ⟨_, rfl, rfl⟩) l
/-- marked cells -/
def LocD.q (q : Nat) : List DC := [.v (.int .i64 ((q : Int))), .v (.int .i64 ((q : Int) + 1)), .v (.int .i64 ((q : Int) + 1 + 1)), .v (.int .i64 ((q : Int) + 1 + 1 + 1)), .v (.int .i64 ((q : Int) + 1 + 1 + 1 + 1)), .v (.int .i64 ((q : Int) + 1 + 1 + 1 + 1 + 1)), .v (.int .i64 ((q : Int) + 1 + 1 + 1 + 1 + 1 + 1))]
def LocD.g (k i : Nat) : List DC := LocD.q (k + 7 * i)

end Go.Proofs.YtfdhdkljpeohlaaGreatDoor

namespace Go.Proofs.YtfdhdkljpeohlaaGreatDoor
set_option linter.unusedSimpArgs false
set_option linter.unusedVariables false
set_option linter.unusedSimpArgs false
set_option linter.unusedVariables false
set_option linter.defProp false
set_option maxRecDepth 20000
open Go.RowKit

structure SubD where
  P : Int
  Lo : Int
  Hi : Int
  Locs : List LocD
  Reads : Int
deriving DecidableEq

end Go.Proofs.YtfdhdkljpeohlaaGreatDoor

namespace Go.Proofs.YtfdhdkljpeohlaaGreatDoor
set_option linter.unusedSimpArgs false
set_option linter.unusedVariables false
set_option linter.unusedSimpArgs false
set_option linter.unusedVariables false
set_option linter.defProp false
open Go.RowKit

end Go.Proofs.YtfdhdkljpeohlaaGreatDoor

namespace Go.Proofs.YtfdhdkljpeohlaaGreatDoor
set_option linter.unusedSimpArgs false
set_option linter.unusedVariables false
set_option linter.defProp false
open Go.RowKit

end Go.Proofs.YtfdhdkljpeohlaaGreatDoor


namespace Go.Proofs.YtfdhdkljpeohlaaGreatDoor
set_option linter.unusedSimpArgs false
set_option linter.unusedVariables false
set_option linter.unusedSimpArgs false
set_option linter.unusedVariables false
set_option linter.defProp false
open Go.RowKit

end Go.Proofs.YtfdhdkljpeohlaaGreatDoor

namespace Go.Proofs.YtfdhdkljpeohlaaGreatDoor
set_option linter.unusedSimpArgs false
set_option linter.unusedVariables false
set_option linter.defProp false
open Go.RowKit

end Go.Proofs.YtfdhdkljpeohlaaGreatDoor


namespace Go.Proofs.YtfdhdkljpeohlaaGreatDoor
set_option linter.unusedSimpArgs false
set_option linter.unusedVariables false
set_option linter.unusedSimpArgs false
set_option linter.unusedVariables false
set_option linter.defProp false
open Go.RowKit

structure ShardD where
  Lo : Int
  Hi : Int
  Edges : List SEdgeD
deriving DecidableEq

end Go.Proofs.YtfdhdkljpeohlaaGreatDoor
namespace Go.Proofs.YtfdhdkljpeohlaaGreatDoor
set_option linter.unusedSimpArgs false
set_option linter.unusedVariables false
set_option linter.defProp false
open Go.RowKit

/-- A shard's cells; T: the type of its edges. -/
def ShardD.k (T : Nat) (x : ShardD) : List DC := [.v (.int .i64 x.Lo), .v (.int .i64 x.Hi), .sl T 5 (x.Edges.map SEdgeD.k)]
/-- A marked shard's cells. -/
def ShardD.q (T q n : Nat) : List DC := [.v (.int .i64 (q : Int)), .v (.int .i64 ((q : Int) + 1)), .sl T 5 ((List.range n).map (SEdgeD.g (q + 2)))]
def edSum : List ShardD → Nat
  | [] => 0
  | s :: l => s.Edges.length + edSum l
theorem edSum_snoc : ∀ {l : List ShardD} {k : Nat} (h : k < l.length), edSum (l.take (k + 1)) = edSum (l.take k) + l[k].Edges.length
  | s :: l, 0, h => by simp [edSum]
  | s :: l, k + 1, h => by
    have := edSum_snoc (l := l) (k := k) (by simpa using h)
    simp only [List.take_succ_cons, edSum, List.getElem_cons_succ, this]; omega
theorem edSum_le : ∀ (l : List ShardD) (k : Nat), edSum (l.take k) ≤ edSum l
  | [], k => by simp
  | s :: l, 0 => by simp [edSum]
  | s :: l, k + 1 => by have := edSum_le l k; simp only [List.take_succ_cons, edSum]; omega
end Go.Proofs.YtfdhdkljpeohlaaGreatDoor

namespace Go.Proofs.YtfdhdkljpeohlaaGreatDoor
set_option linter.unusedSimpArgs false
set_option linter.unusedVariables false
set_option linter.defProp false
open Go.RowKit

structure FarmD where
  N : Int
  Ends : List Int
  Shards : List ShardD
deriving DecidableEq

end Go.Proofs.YtfdhdkljpeohlaaGreatDoor

namespace Go.Proofs.YtfdhdkljpeohlaaGreatDoor
set_option linter.unusedSimpArgs false
set_option linter.unusedVariables false
set_option linter.unusedSimpArgs false
set_option linter.unusedVariables false
set_option linter.defProp false
open Go.RowKit

/-- What GetVar answers, at a place that is none below nought. -/
def gvO (b : List UInt8) (p : Nat) : Option (Nat × Nat) := if p < b.length then getD7 (b.drop p) else none
def gvN (b : List UInt8) (p : Nat) : Int := ((gvO b p).map fun q => ((q.1 : Nat) : Int)).getD 0
def gvP (b : List UInt8) (p : Nat) : Int := ((gvO b p).map fun q => (((p + q.2 : Nat)) : Int)).getD 0
def gvK (b : List UInt8) (p : Nat) : Bool := (gvO b p).isSome

theorem gv_none {b : List UInt8} {p : Nat} (h : gvO b p = none) : gvN b p = 0 ∧ gvP b p = 0 ∧ gvK b p = false := by
  unfold gvN gvP gvK; rw [h]; exact ⟨rfl, rfl, rfl⟩
theorem gv_some {b : List UInt8} {p n k : Nat} (h : gvO b p = some (n, k)) : gvN b p = n ∧ gvP b p = ((p + k : Nat) : Int) ∧ gvK b p = true := by
  unfold gvN gvP gvK; rw [h]; exact ⟨rfl, rfl, rfl⟩

theorem drop_getD {b : List UInt8} {p i : Nat} (h : p + i < b.length) : (b.drop p).getD i 0 = b[p + i] := by
  simp [List.getD, List.getElem?_drop, h]

/-- The first k digits all bear the eighth bit. -/
def hiTo (b : List UInt8) (p k : Nat) : Prop := ∀ i, i < k → 128 ≤ ((b.drop p).getD i 0).toNat

theorem hiTo_zero (b : List UInt8) (p : Nat) : hiTo b p 0 := fun i hi => by omega
theorem hiTo_succ {b : List UInt8} {p k : Nat} (h : hiTo b p k) (hk : p + k < b.length) (hx : 128 ≤ b[p + k].toNat) : hiTo b p (k + 1) := by
  intro i hi
  by_cases e : i = k
  · subst e; rw [drop_getD hk]; exact hx
  · exact h i (by omega)

def dig (b : List UInt8) (p k : Nat) : Nat := digV ((b.drop p).take k)
theorem dig_zero (b : List UInt8) (p : Nat) : dig b p 0 = 0 := by simp [dig, digV]
theorem dig_succ {b : List UInt8} {p k : Nat} (h : p + k < b.length) : dig b p (k + 1) = dig b p k + b[p + k].toNat % 128 * 128 ^ k := by
  have hk : k < (b.drop p).length := by rw [List.length_drop]; omega
  have e : (b.drop p)[k] = b[p + k] := by rw [List.getElem_drop]
  unfold dig
  rw [List.take_succ_eq_append_getElem hk, digV_snoc, e, List.length_take, Nat.min_eq_left (by omega)]
theorem dig_lt {b : List UInt8} {p : Nat} : ∀ {k : Nat}, p + k ≤ b.length → dig b p k < 128 ^ k
  | 0, _ => by rw [dig_zero]; simp
  | k + 1, h => by
    have ih := dig_lt (b := b) (p := p) (k := k) (by omega)
    rw [dig_succ (by omega), Nat.pow_succ]
    have h1 : b[p + k].toNat % 128 ≤ 127 := by omega
    have h2 := Nat.mul_le_mul_right (128 ^ k) h1
    omega

theorem gvO_end {b : List UInt8} {p k : Nat} (hp : p < b.length) (hk : k < 7) (hl : p + k < b.length) (hi : hiTo b p k) (hx : b[p + k].toNat < 128) :
    gvO b p = if (b[p + k].toNat = 0 ∧ 0 < k) ∨ 281474976710655 < dig b p (k + 1) then none else some (dig b p (k + 1), k + 1) := by
  have hd : k < (b.drop p).length := by rw [List.length_drop]; omega
  have e : endI (b.drop p) = some k := endI_some hk hd (by rw [drop_getD hl]; exact hx) hi
  unfold gvO
  rw [if_pos hp]
  unfold getD7
  rw [e]
  simp only [drop_getD hl]
  have e0 : (b[p + k] = 0) ↔ (b[p + k].toNat = 0) := ⟨fun h => by rw [h]; rfl, fun h => by rw [← u8_of h]; rfl⟩
  simp only [e0]
  rfl
theorem gvO_none {b : List UInt8} {p k : Nat} (hi : hiTo b p k) (hk : k = 7 ∨ b.length ≤ p + k) : gvO b p = none := by
  unfold gvO
  split
  · unfold getD7
    rw [endI_none fun i h7 hl => hi i (by rw [List.length_drop] at hl; omega)]
  · rfl

theorem pow7 {k : Nat} (h : k < 7) : (2 : Int) ^ (7 * k) = ((128 ^ k : Nat) : Int) := by
  rcases (by omega : k = 0 ∨ k = 1 ∨ k = 2 ∨ k = 3 ∨ k = 4 ∨ k = 5 ∨ k = 6) with rfl | rfl | rfl | rfl | rfl | rfl | rfl <;> rfl

theorem shl7 (x : Nat) {k : Nat} (h : k < 7) : ((x : Int) % 128) * 2 ^ (min (7 * (k : Int)).toNat IntKind.i64.bits) = ((x % 128 * 128 ^ k : Nat) : Int) := by
  have h1 : (7 * (k : Int)).toNat = 7 * k := by omega
  have h2 : min (7 * k) IntKind.i64.bits = 7 * k := Nat.min_eq_left (by have : IntKind.i64.bits = 64 := rfl; omega)
  rw [h1, h2, pow7 h]
  push_cast
  rfl

theorem dig_max {b : List UInt8} {p k : Nat} (hk : k ≤ 7) (h : p + k ≤ b.length) : dig b p k < 562949953421312 := by
  have h1 := dig_lt h
  have h2 : 128 ^ k ≤ 128 ^ 7 := Nat.pow_le_pow_right (by decide) hk
  omega

set_option maxHeartbeats 8000000 in
theorem implGetVar_k (b : List UInt8) (p : Nat) (hb : b.length ≤ 1099511627776) (hp : p ≤ 1099511627776) : FnOK Tryz.prog 67 ⟨1, [(0, some (.ro (b.map bytK)))], [.c (.sl 0 1 0 b.length), .c (.v (.int .i64 (p : Int)))],
    .tup [.inl (.v (.int .i64 (gvN b p))), .inl (.v (.int .i64 (gvP b p))), .inl (.v (.bool (gvK b p)))], [], 1⟩ := by
  rcases Nat.lt_or_ge p b.length with hl | hl
  case inr =>
    obtain ⟨e1, e2, e3⟩ := gv_none (show gvO b p = none by unfold gvO; rw [if_neg (by omega)])
    rw [e1, e2, e3]
    refine fnOK_of true mixed Tryz.func67 rfl (by rfl) (by rfl) ?_
    have hres := congrArg Array.toList Tryz.results67
    simp only [Tryz.ntmps67, BGB, seval]
    (have gx := And.intro (@List.length_map.{0,0}) (And.intro @List.getElem_map.{0,0} @bytK.eq_1); refine go ?_; (repeat' first | exact Ef.mk | apply Lf.mk | refine fun (K : KT) hK hE hT => ?_ | refine fun (KS : KE) hKS => ?_ | refine fun (D : KD) hD => ?_ | refine fun (hg : (_ : Prop)) => ?_ | fail); all_goals (first | (refine Wr.mk ?_; (try clear gx); repeat first | clear hK hE hT K | clear hR hE hT K) | assumption | skip))
    all_goals (refine post_a hres (.inl rfl) ?_; simp only [RSB, ENB, seval, tiAll, true_and]; simp only [MAB, seval]; refine ⟨rfl, rfl, ?_, ?_, ?_⟩ <;> (first | rfl | (simp [WKB, Nat.add_comm, true_and]; done) | (simp only [WKB, seval])))
  case inl =>
    refine fnOK_of true mixed Tryz.func67 rfl (by rfl) (by rfl) ?_
    have hres := congrArg Array.toList Tryz.results67
    simp only [Tryz.ntmps67, BGB, seval]
    (have gx := And.intro (@List.length_map.{0,0}) (And.intro @List.getElem_map.{0,0} @bytK.eq_1); refine go ?_; (repeat' first | exact Ef.mk | apply Lf.mk | refine fun (K : KT) hK hE hT => ?_ | refine fun (KS : KE) hKS => ?_ | refine fun (D : KD) hD => ?_ | refine fun (hg : (_ : Prop)) => ?_ | fail); all_goals (first | (refine Wr.mk ?_; (try clear gx); repeat first | clear hK hE hT K | clear hR hE hT K) | assumption | skip))
    refine loop_v (X := {k : Nat // (k ≤ 7 ∧ p + k ≤ b.length) ∧ Rnd (hiTo b p k)}) [] (fun x => [(7, .c (.v (.int .i64 ((dig b p x.1 : Nat) : Int)))), (8, .c (.v (.int .i64 ((x.1 : Nat) : Int))))]) (fun x => [(0, some (.ro (b.map bytK)))]) 1 (fun x => 7 - x.1) ⟨0, by omega, ⟨hiTo_zero b p⟩⟩ ?_
    simp only [KPB, seval]
    refine ⟨?_, ?_⟩
    · (refine wk_a ?_; simp only [MAB, seval]; refine ⟨rfl, rfl, (by decide), ?_, ?_⟩; all_goals (first | (simp only [WKB, seval, dig_zero]; done) | (simp [WKB, seval, dig_zero]; done) | simp only [WKB, seval]))
    · rintro ⟨k, ⟨hk, hpk⟩, hi⟩ K hR hE hT
      have q0 : ((p : Int) + (k : Int)).toNat = p + k := by omega
      by_cases hstop : k = 7 ∨ b.length ≤ p + k
      · obtain ⟨e1, e2, e3⟩ := gv_none (gvO_none hi.out hstop)
        (have gx := And.intro (@List.length_map.{0,0}) (And.intro @List.getElem_map.{0,0} @bytK.eq_1); refine go ?_; (repeat' first | exact Ef.mk | apply Lf.mk | refine fun (K : KT) hK hE hT => ?_ | refine fun (KS : KE) hKS => ?_ | refine fun (D : KD) hD => ?_ | refine fun (hg : (_ : Prop)) => ?_ | fail); all_goals (first | (refine Wr.mk ?_; (try clear gx); repeat first | clear hK hE hT K | clear hR hE hT K) | assumption | skip))
        all_goals (refine post_a hres (.inl rfl) ?_; simp only [RSB, ENB, seval, tiAll, e1, e2, e3]; simp only [MAB, seval]; refine ⟨rfl, rfl, ?_, ?_, ?_⟩ <;> (first | rfl | (simp [WKB, Nat.add_comm, e1, e2, e3]; done) | (simp only [WKB, seval])))
      · have hlt : p + k < b.length := by omega
        have hd := dig_succ hlt
        have hlow := dig_max (b := b) (p := p) (k := k + 1) (by omega) (by omega)
        have hx := b[p + k].toNat_lt
        have q5 := shl7 b[p + k].toNat (k := k) (by omega)
        have hend := gvO_end (b := b) (p := p) (k := k) (by omega) (by omega) hlt hi.out
        obtain ⟨t, ht⟩ : ∃ t, t = b[p + k].toNat % 128 * 128 ^ k := ⟨_, rfl⟩
        rw [← ht] at hd q5
        clear ht
        have e : ((dig b p (k + 1) : Nat) : Int) = (dig b p k : Int) + (t : Int) := by rw [hd]; push_cast; rfl
        (have gx := And.intro (@List.length_map.{0,0}) (And.intro (@List.getElem_map.{0,0}) (And.intro (@bytK.eq_1) (And.intro @q0 @q5))); refine go ?_; (repeat' first | exact Ef.mk | apply Lf.mk | refine fun (K : KT) hK hE hT => ?_ | refine fun (KS : KE) hKS => ?_ | refine fun (D : KD) hD => ?_ | refine fun (hg : (_ : Prop)) => ?_ | fail); all_goals (first | (refine Wr.mk ?_; (try clear gx); repeat first | clear hK hE hT K | clear hR hE hT K) | assumption | skip))
        all_goals first
          | (have h2 := hend (by omega)
             rw [if_pos (by omega)] at h2
             obtain ⟨e1, e2, e3⟩ := gv_none h2
             (refine post_a hres (.inl rfl) ?_; simp only [RSB, ENB, seval, tiAll, e1, e2, e3]; simp only [MAB, seval]; refine ⟨rfl, rfl, ?_, ?_, ?_⟩ <;> (first | rfl | (simp [WKB, Nat.add_comm, e1, e2, e3]; done) | (simp only [WKB, seval]))))
          | (have h2 := hend (by omega)
             rw [if_neg (by omega)] at h2
             obtain ⟨e1, e2, e3⟩ := gv_some h2
             have e2' : gvP b p = (p : Int) + (k : Int) + 1 := by rw [e2]; push_cast; omega
             rw [e] at e1
             (refine post_a hres (.inl rfl) ?_; simp only [RSB, ENB, seval, tiAll, e1, e2', e3]; simp only [MAB, seval]; refine ⟨rfl, rfl, ?_, ?_, ?_⟩ <;> (first | rfl | (simp [WKB, Nat.add_comm, e1, e2', e3]; done) | (simp only [WKB, seval]))))
          | ((refine hR.out ⟨k + 1, by omega, ⟨hiTo_succ hi.out hlt (by omega)⟩⟩ _ _ _ (by simp only; omega) ?_; (refine wk_a ?_; simp only [MAB, seval]; refine ⟨rfl, rfl, (by decide), ?_, ?_⟩; all_goals (first | (simp only [WKB, seval, e]; done) | (simp [WKB, seval, e]; done) | simp only [WKB, seval]))))

end Go.Proofs.YtfdhdkljpeohlaaGreatDoor

