/-
  Contracts of the laws' own functions on []byte and []int: to, eq, mark, held, sz.
-/
import Derived.Test.YtjejhdogbhdgoaaBase
namespace Go.Proofs.Ytjejhdogbhdgoaa
set_option linter.unusedSimpArgs false
set_option linter.unusedVariables false
open Go.RowKit

set_option maxHeartbeats 400000 in
theorem toByteS_c (w : World) (S : Nat → Prop) (a : Option Addr) (cap : Nat) (l : List UInt8) (h : Sl bC S w a cap l) (hl : l.length ≤ 1048576) :
    Calls Try.prog 57 #[.slice a l.length cap] w fun e w' => ∃ a' cap', e = .returned (.slice a' l.length cap') ∧ Own bC 5 (w.heap.size ≤ ·) w' a' cap' l ∧ Below w.heap.size w w' := by
  obtain ⟨i0, hi, hz0, hz1, hz2⟩ := info_parts infoU8
  have hle := h.le
  go_enter Try.func57, Try.ntmps57
  go_wp2_with (at_make; refine wpList_make_full _ rfl _ _ 40 rfl w.heap.size 5 i0 (.int .u8 0) 1 Try.underlying40 hi hz0 hz1 _ _ _ _ l.length rfl rfl (by rfl) (by rfl) (by rw [hz2]; omega) (by unfold maxLen; omega) (Nat.le_refl _) ?_)
  intro w0 hown0 hgrow0
  go_wp2
  go_loopw [4] (fun i wr => ∃ (k : Nat) (xs : List Value), k ≤ l.length ∧ i = .int .i64 k ∧ xs.length = l.length ∧ (∀ j, j < k → xs[j]? = (l.map bC)[j]?) ∧
      wr.ownsRow w.heap.size 5 1 (.slice (some ⟨w.heap.size, 0, none⟩) l.length l.length) l.length xs ∧ Below w.heap.size w wr)
    (fun i _ => l.length - (intOf i).toNat)
  case atStart => exact ⟨0, _, Nat.zero_le _, rfl, by simpa using hown0.1, fun j hj => by omega, hown0, (Below.refl _ _).grown hgrow0 (Nat.le_refl _) (fun k h => by cases h)⟩
  case round =>
    obtain ⟨k, xs, hk, rfl, hxl, hx, hown, hbl⟩ := hrel
    by_cases hlt : k < l.length
    · obtain ⟨b, off, rfl, hS, hbw, hcell⟩ := h.get (by omega)
      have g1 : wr.cell? ⟨b, off + k, none⟩ = some (bC l[k]) := (hbl.cell (p := ⟨b, off + k, none⟩) hbw).trans (hcell k hlt)
      have g2 : wr.cell? ⟨w.heap.size, k, none⟩ = some xs[k] := by rw [hown.cellAt k (by omega)]; simp [hxl, hlt]
      have g3 : wr.frozen? ⟨w.heap.size, k, none⟩ = false := hown.frozenAt k
      have hst := hown.stored k (bC l[k])
      clear hcell
      unfold bC at g1
      go_wp2
      go_roundw
      case rel => exact ⟨k + 1, xs.set k (bC l[k]), by omega, by go_num, by simp [hxl], fun j hj => by
          rw [List.getElem?_set]
          by_cases hjk : k = j
          · subst hjk; simp [hxl, hlt]
          · rw [if_neg hjk]; exact hx j (by omega), hst.1, hbl.grown hst.2 (by have := hbl.size; omega) (fun k h => by cases h; exact Nat.le_refl _)⟩
      case measure => simp [intOf]; omega
    · go_wp2
      go_ret
      have he : xs = l.map bC := List.ext_getElem? fun j => by
        by_cases hj : j < k
        · exact hx j hj
        · rw [List.getElem?_eq_none (by omega), List.getElem?_eq_none (by simp; omega)]
      subst he
      exact ⟨_, _, rfl, Own.of_owns hown fun b _ hb => hb, hbl⟩
set_option maxHeartbeats 400000 in
theorem eqByteS_c (w : World) (S T : Nat → Prop) (a b : Option Addr) (ca cb : Nat) (l m : List UInt8) (h : Sl bC S w a ca l) (h' : Sl bC T w b cb m) :
    Calls Try.prog 59 #[.slice a l.length ca, .slice b m.length cb] w fun e w' => e = .returned (.bool (decide (l = m))) ∧ Below w.heap.size w w' := by
  have hle := Nat.le_trans h.le h.lt
  have hle' := Nat.le_trans h'.le h'.lt
  unfold maxLen at hle hle'
  by_cases hlen : l.length = m.length
  case neg =>
    have hb : ((l.length : Int) != (m.length : Int)) = true := by rw [bne_iff_ne]; omega
    go_enter Try.func59, Try.ntmps59
    go_wp2
    go_ret
    exact ⟨ret_bool (by simp; intro e; exact hlen (by rw [e])), Below.refl _ _⟩
  case pos =>
    have hb : ((l.length : Int) != (m.length : Int)) = false := by rw [bne_eq_false_iff_eq]; omega
    have HL := Lib.hid hlen
    clear hlen
    go_enter Try.func59, Try.ntmps59
    go_wp2
    go_loopw [5] (fun i wr => ∃ (k : Nat), k ≤ l.length ∧ i = .int .i64 k ∧ (∀ j, j < k → l[j]? = m[j]?) ∧ Below w.heap.size w wr)
      (fun i _ => l.length - (intOf i).toNat)
    case atStart => exact ⟨0, Nat.zero_le _, rfl, fun j hj => by omega, Below.refl _ _⟩
    case round =>
      obtain ⟨k, hk, rfl, hx, hbl⟩ := hrel
      have HX := Lib.hid hx
      clear hx
      by_cases hlt : k < l.length
      · have hlt' : k < m.length := by have := HL.out; omega
        obtain ⟨b1, off1, rfl, hS, hbw, hcell⟩ := h.get (by omega)
        obtain ⟨b2, off2, rfl, hS', hbw', hcell'⟩ := h'.get (by omega)
        have g1 : wr.cell? ⟨b1, off1 + k, none⟩ = some (bC l[k]) := (hbl.cell (p := ⟨b1, off1 + k, none⟩) hbw).trans (hcell k hlt)
        have g2 : wr.cell? ⟨b2, off2 + k, none⟩ = some (bC m[k]) := (hbl.cell (p := ⟨b2, off2 + k, none⟩) hbw').trans (hcell' k hlt')
        clear hcell hcell'
        unfold bC at g1 g2
        by_cases he : l[k] = m[k]
        · have he' : ((l[k].toNat : Int) != (m[k].toNat : Int)) = false := by rw [he]; simp
          have HE := Lib.hid he
          clear he
          go_wp2
          go_quiet (fail)
          go_wp2
          go_roundw
          case rel => exact ⟨k + 1, by omega, by go_num, fun j hj => by
              by_cases hjk : j = k
              · subst hjk; simp [hlt, hlt', HE.out]
              · exact HX.out j (by omega), ⟨hbl.os, hbl.tape, hbl.output, hbl.size, hbl.block⟩⟩
          case measure => simp [intOf]; omega
        · have he' : ((l[k].toNat : Int) != (m[k].toNat : Int)) = true := by
            rw [bne_iff_ne]; intro e; exact he (UInt8.toNat_inj.1 (by exact_mod_cast e))
          go_wp2
          go_quiet (fail)
          go_wp2
          go_ret
          exact ⟨ret_bool (by simp; intro e; subst e; exact he rfl), ⟨hbl.os, hbl.tape, hbl.output, hbl.size, hbl.block⟩⟩
      · go_wp2
        go_ret
        exact ⟨ret_bool (by simp; exact list_ext HL.out fun i hi => HX.out i (by omega)), hbl⟩
set_option maxHeartbeats 400000 in
theorem eqIntS_c (w : World) (S T : Nat → Prop) (a b : Option Addr) (ca cb : Nat) (l m : List Int) (h : Sl iC S w a ca l) (h' : Sl iC T w b cb m) :
    Calls Try.prog 42 #[.slice a l.length ca, .slice b m.length cb] w fun e w' => e = .returned (.bool (decide (l = m))) ∧ Below w.heap.size w w' := by
  have hle := Nat.le_trans h.le h.lt
  have hle' := Nat.le_trans h'.le h'.lt
  unfold maxLen at hle hle'
  by_cases hlen : l.length = m.length
  case neg =>
    have hb : ((l.length : Int) != (m.length : Int)) = true := by rw [bne_iff_ne]; omega
    go_enter Try.func42, Try.ntmps42
    go_wp2
    go_ret
    exact ⟨ret_bool (by simp; intro e; exact hlen (by rw [e])), Below.refl _ _⟩
  case pos =>
    have hb : ((l.length : Int) != (m.length : Int)) = false := by rw [bne_eq_false_iff_eq]; omega
    have HL := Lib.hid hlen
    clear hlen
    go_enter Try.func42, Try.ntmps42
    go_wp2
    go_loopw [5] (fun i wr => ∃ (k : Nat), k ≤ l.length ∧ i = .int .i64 k ∧ (∀ j, j < k → l[j]? = m[j]?) ∧ Below w.heap.size w wr)
      (fun i _ => l.length - (intOf i).toNat)
    case atStart => exact ⟨0, Nat.zero_le _, rfl, fun j hj => by omega, Below.refl _ _⟩
    case round =>
      obtain ⟨k, hk, rfl, hx, hbl⟩ := hrel
      have HX := Lib.hid hx
      clear hx
      by_cases hlt : k < l.length
      · have hlt' : k < m.length := by have := HL.out; omega
        obtain ⟨b1, off1, rfl, hS, hbw, hcell⟩ := h.get (by omega)
        obtain ⟨b2, off2, rfl, hS', hbw', hcell'⟩ := h'.get (by omega)
        have g1 : wr.cell? ⟨b1, off1 + k, none⟩ = some (iC l[k]) := (hbl.cell (p := ⟨b1, off1 + k, none⟩) hbw).trans (hcell k hlt)
        have g2 : wr.cell? ⟨b2, off2 + k, none⟩ = some (iC m[k]) := (hbl.cell (p := ⟨b2, off2 + k, none⟩) hbw').trans (hcell' k hlt')
        clear hcell hcell'
        unfold iC at g1 g2
        by_cases he : l[k] = m[k]
        · have he' : (l[k] != m[k]) = false := by rw [he]; simp
          have HE := Lib.hid he
          clear he
          go_wp2
          go_quiet (fail)
          go_wp2
          go_roundw
          case rel => exact ⟨k + 1, by omega, by go_num, fun j hj => by
              by_cases hjk : j = k
              · subst hjk; simp [hlt, hlt', HE.out]
              · exact HX.out j (by omega), ⟨hbl.os, hbl.tape, hbl.output, hbl.size, hbl.block⟩⟩
          case measure => simp [intOf]; omega
        · have he' : (l[k] != m[k]) = true := by
            rw [bne_iff_ne]; intro e; exact he (e)
          go_wp2
          go_quiet (fail)
          go_wp2
          go_ret
          exact ⟨ret_bool (by simp; intro e; subst e; exact he rfl), ⟨hbl.os, hbl.tape, hbl.output, hbl.size, hbl.block⟩⟩
      · go_wp2
        go_ret
        exact ⟨ret_bool (by simp; exact list_ext HL.out fun i hi => HX.out i (by omega)), hbl⟩

def mkB (q n : Nat) : List UInt8 := (List.range n).map fun i => UInt8.ofNat (q + i)
def mkI (q n : Nat) : List Int := (List.range n).map fun i => ((q + i : Nat) : Int)

set_option maxHeartbeats 400000 in
theorem markByteS_c (w : World) (S : Nat → Prop) (a : Option Addr) (cap : Nat) (l : List UInt8) (h : Own bC 5 S w a cap l) (q : Nat) (hq : q + l.length ≤ 1099511627776) :
    Calls Try.prog 61 #[.slice a l.length cap, .int .i64 (q : Int)] w fun e w' => e = .returned (.int .i64 ((q + l.length : Nat) : Int)) ∧ Own bC 5 S w' a cap (mkB q l.length) ∧ Chg S w w' := by
  have hle := Nat.le_trans h.le h.lt
  unfold maxLen at hle
  go_enter Try.func61, Try.ntmps61
  go_wp2
  go_loopw [1, 5] (fun q' i wr => ∃ (k : Nat) (xs : List UInt8), k ≤ l.length ∧ i = .int .i64 k ∧ q' = .int .i64 ((q : Int) + (k : Int)) ∧ xs.length = l.length ∧ (∀ j, j < k → xs[j]? = (mkB q l.length)[j]?) ∧
      Own bC 5 S wr a cap xs ∧ Chg S w wr)
    (fun _ i _ => l.length - (intOf i).toNat)
  case atStart => exact ⟨0, l, Nat.zero_le _, rfl, by go_num, rfl, fun j hj => by omega, h, Chg.refl _ _⟩
  case round =>
    obtain ⟨k, xs, hk, rfl, rfl, hxl, hx, hown, hbl⟩ := hrel
    have HX := Lib.hid hx
    have HL := Lib.hid hxl
    clear hx hxl
    by_cases hlt : k < l.length
    · have hlt' : k < xs.length := by have := HL.out; omega
      obtain ⟨b1, off1, rfl, hS, hbw, hcell⟩ := hown.sl.get (by omega)
      obtain ⟨rfl, _, g1, g2, hst⟩ := hown.set rfl hlt' (UInt8.ofNat (q + k))
      clear hcell
      have gx : w.heap.size ≤ wr.heap.size := hbl.size
      unfold bC at g1
      go_wp2
      go_roundw
      case rel => exact ⟨k + 1, xs.set k (UInt8.ofNat (q + k)), by omega, by go_num, by go_num, by simp [HL.out], fun j hj => by
          rw [List.getElem?_set]
          by_cases hjk : k = j
          · subst hjk; simp [hlt, hlt', mkB]
          · rw [if_neg hjk]; exact HX.out j (by omega), hst, hbl.setCell hS _⟩
      case measure => simp [intOf]; omega
    · go_wp2
      go_ret
      have he : xs = mkB q l.length := list_ext (by rw [HL.out]; simp [mkB]) fun i hi => HX.out i (by have := HL.out; omega)
      subst he
      exact ⟨ret_int (by omega), hown, hbl⟩
set_option maxHeartbeats 400000 in
theorem markIntS_c (w : World) (S : Nat → Prop) (a : Option Addr) (cap : Nat) (l : List Int) (h : Own iC 3 S w a cap l) (q : Nat) (hq : q + l.length ≤ 1099511627776) :
    Calls Try.prog 43 #[.slice a l.length cap, .int .i64 (q : Int)] w fun e w' => e = .returned (.int .i64 ((q + l.length : Nat) : Int)) ∧ Own iC 3 S w' a cap (mkI q l.length) ∧ Chg S w w' := by
  have hle := Nat.le_trans h.le h.lt
  unfold maxLen at hle
  go_enter Try.func43, Try.ntmps43
  go_wp2
  go_loopw [1, 5] (fun q' i wr => ∃ (k : Nat) (xs : List Int), k ≤ l.length ∧ i = .int .i64 k ∧ q' = .int .i64 ((q : Int) + (k : Int)) ∧ xs.length = l.length ∧ (∀ j, j < k → xs[j]? = (mkI q l.length)[j]?) ∧
      Own iC 3 S wr a cap xs ∧ Chg S w wr)
    (fun _ i _ => l.length - (intOf i).toNat)
  case atStart => exact ⟨0, l, Nat.zero_le _, rfl, by go_num, rfl, fun j hj => by omega, h, Chg.refl _ _⟩
  case round =>
    obtain ⟨k, xs, hk, rfl, rfl, hxl, hx, hown, hbl⟩ := hrel
    have HX := Lib.hid hx
    have HL := Lib.hid hxl
    clear hx hxl
    by_cases hlt : k < l.length
    · have hlt' : k < xs.length := by have := HL.out; omega
      obtain ⟨b1, off1, rfl, hS, hbw, hcell⟩ := hown.sl.get (by omega)
      obtain ⟨rfl, _, g1, g2, hst⟩ := hown.set rfl hlt' (((q + k : Nat) : Int))
      clear hcell
      have gx : w.heap.size ≤ wr.heap.size := hbl.size
      unfold iC at g1
      go_wp2
      go_roundw
      case rel => exact ⟨k + 1, xs.set k (((q + k : Nat) : Int)), by omega, by go_num, by go_num, by simp [HL.out], fun j hj => by
          rw [List.getElem?_set]
          by_cases hjk : k = j
          · subst hjk; simp [hlt, hlt', mkI]
          · rw [if_neg hjk]; exact HX.out j (by omega), hst, hbl.setCell hS _⟩
      case measure => simp [intOf]; omega
    · go_wp2
      go_ret
      have he : xs = mkI q l.length := list_ext (by rw [HL.out]; simp [mkI]) fun i hi => HX.out i (by have := HL.out; omega)
      subst he
      exact ⟨ret_int (by omega), hown, hbl⟩
set_option maxHeartbeats 400000 in
theorem heldByteS_c (w : World) (S : Nat → Prop) (a : Option Addr) (cap n : Nat) (q : Nat) (h : Sl bC S w a cap (mkB q n)) (hq : q + n ≤ 1099511627776) :
    Calls Try.prog 62 #[.slice a n cap, .int .i64 (q : Int)] w fun e w' => e = .returned (.int .i64 ((q + n : Nat) : Int)) ∧ Below w.heap.size w w' := by
  have hn : (mkB q n).length = n := by simp [mkB]
  have hle := Nat.le_trans h.le h.lt
  unfold maxLen at hle
  rw [hn] at hle
  have HN := Lib.hid hn
  clear hn
  go_enter Try.func62, Try.ntmps62
  go_wp2
  go_loopw [1, 5] (fun q' i wr => ∃ (k : Nat), k ≤ n ∧ i = .int .i64 k ∧ q' = .int .i64 ((q : Int) + (k : Int)) ∧ Below w.heap.size w wr)
    (fun _ i _ => n - (intOf i).toNat)
  case atStart => exact ⟨0, Nat.zero_le _, rfl, by go_num, Below.refl _ _⟩
  case round =>
    obtain ⟨k, hk, rfl, rfl, hbl⟩ := hrel
    by_cases hlt : k < n
    · have hlt' : k < (mkB q n).length := by have := HN.out; omega
      obtain ⟨b1, off1, rfl, hS, hbw, hcell⟩ := h.get (by omega)
      have hv : bC (mkB q n)[k] = .int .u8 (((q + k) % 256 : Nat) : Int) := by simp [mkB, bC]
      have g1 : wr.cell? ⟨b1, off1 + k, none⟩ = some (.int .u8 (((q + k) % 256 : Nat) : Int)) := (hbl.cell (p := ⟨b1, off1 + k, none⟩) hbw).trans ((hcell k hlt').trans (by rw [hv]))
      clear hcell hv
      go_wp2
      go_roundw
      case rel => exact ⟨k + 1, by omega, by go_num, by go_num, hbl⟩
      case measure => simp [intOf]; omega
    · go_wp2
      go_ret
      exact ⟨ret_int (by omega), hbl⟩
set_option maxHeartbeats 400000 in
theorem heldIntS_c (w : World) (S : Nat → Prop) (a : Option Addr) (cap n : Nat) (q : Nat) (h : Sl iC S w a cap (mkI q n)) (hq : q + n ≤ 1099511627776) :
    Calls Try.prog 44 #[.slice a n cap, .int .i64 (q : Int)] w fun e w' => e = .returned (.int .i64 ((q + n : Nat) : Int)) ∧ Below w.heap.size w w' := by
  have hn : (mkI q n).length = n := by simp [mkI]
  have hle := Nat.le_trans h.le h.lt
  unfold maxLen at hle
  rw [hn] at hle
  have HN := Lib.hid hn
  clear hn
  go_enter Try.func44, Try.ntmps44
  go_wp2
  go_loopw [1, 5] (fun q' i wr => ∃ (k : Nat), k ≤ n ∧ i = .int .i64 k ∧ q' = .int .i64 ((q : Int) + (k : Int)) ∧ Below w.heap.size w wr)
    (fun _ i _ => n - (intOf i).toNat)
  case atStart => exact ⟨0, Nat.zero_le _, rfl, by go_num, Below.refl _ _⟩
  case round =>
    obtain ⟨k, hk, rfl, rfl, hbl⟩ := hrel
    by_cases hlt : k < n
    · have hlt' : k < (mkI q n).length := by have := HN.out; omega
      obtain ⟨b1, off1, rfl, hS, hbw, hcell⟩ := h.get (by omega)
      have hv : iC (mkI q n)[k] = .int .i64 ((q + k : Nat) : Int) := by simp [mkI, iC]
      have g1 : wr.cell? ⟨b1, off1 + k, none⟩ = some (.int .i64 ((q + k : Nat) : Int)) := (hbl.cell (p := ⟨b1, off1 + k, none⟩) hbw).trans ((hcell k hlt').trans (by rw [hv]))
      clear hcell hv
      go_wp2
      go_roundw
      case rel => exact ⟨k + 1, by omega, by go_num, by go_num, hbl⟩
      case measure => simp [intOf]; omega
    · go_wp2
      go_ret
      exact ⟨ret_int (by omega), hbl⟩
/-- what is left of a purse q behind n elements -/
def szR (q : Int) (n : Nat) : Int := if q < n then -1 else q - n

theorem szByteS_c (w : World) (a : Option Addr) (cap n : Nat) (q : Int) (hn : n ≤ maxLen) (hq : q ≤ 1099511627776) (h0 : 0 ≤ q) :
    Calls Try.prog 55 #[.slice a n cap, .int .i64 q] w fun e w' => e = .returned (.int .i64 (szR q n)) ∧ w = w' := by
  unfold maxLen at hn
  by_cases hlt : q < n
  · go_enter Try.func55, Try.ntmps55
    go_wp2
    go_ret
    exact ⟨ret_int (by unfold szR; rw [if_pos hlt]), rfl⟩
  · go_enter Try.func55, Try.ntmps55
    go_wp2
    go_ret
    exact ⟨ret_int (by unfold szR; rw [if_neg (by omega)]), rfl⟩

end Go.Proofs.Ytjejhdogbhdgoaa
