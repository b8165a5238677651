/-
  Contracts: graphs as texts; shards and lists read by themselves. No conditions of its own.
-/
import Derived.Test.YtfdhdkljpeohlaaGreatDoorGO
import Derived.Test.YtfdhdkljpeohlaaGreatDoorSv
import Derived.Test.YtfdhdkljpeohlaaGreatDoorPK3
import Derived.Test.YtfdhdkljpeohlaaGreatDoorGR5
import Derived.Test.YtfdhdkljpeohlaaGreatDoorZz5
import Derived.Test.YtfdhdkljpeohlaaGreatDoorVR2
import Derived.Test.YtfdhdkljpeohlaaGreatDoorZz3
import Derived.Test.YtfdhdkljpeohlaaGreatDoorF2
import Derived.Test.YtfdhdkljpeohlaaGreatDoorZz4
namespace Go.Proofs.YtfdhdkljpeohlaaGreatDoor
set_option linter.unusedSimpArgs false
set_option linter.unusedVariables false
set_option linter.unusedSimpArgs false
set_option linter.unusedVariables false
set_option linter.defProp false
set_option maxRecDepth 20000
open Go.RowKit

theorem fnOK_val {P : Program} {f : FuncId} {x v : Value} (hv : v.oneCell' = true) (hc : Callable P f) (h : ∀ w, Calls P f #[x] w fun e w' => e = .returned v ∧ Below w.heap.size w w') : FnOK P f ⟨0, [], [.c (.v x)], .c (.v v), [], 0⟩ := by
  refine ⟨⟨⟨Nat.le_refl _, fun f hf => (by cases hf), fun f b hb => (by cases hb), by simp [Con.eff]⟩, fun ρ vs w hargs hmem => ?_⟩, hc⟩
  cases vs with
  | nil => exact hargs.elim
  | cons u us =>
    cases us with
    | cons u' us => exact hargs.2.elim
    | nil =>
      obtain ⟨rfl, _⟩ := hargs.1
      refine (h w).mono fun e w' he => ?_
      obtain ⟨rfl, hb⟩ := he
      exact ⟨v, ρ, rfl, ⟨same_of fun _ _ => rfl, ⟨rfl, hv⟩, ⟨fun f blk hb => (by cases hb), fun f g blk blk' _ hb => (by cases hb)⟩, fun f blk hb => (by cases hb), hb.os, hb.tape, hb.output, hb.size, fun k hk _ => hb.block k hk⟩⟩

theorem dec_one : ∀ i : Fin 10, Lib.decDigits i.val = [UInt8.ofNat (48 + i.val)] := fun i => by rw [Lib.decDigits, dif_pos i.isLt]
theorem itoa_k (n : Int) (h : 0 ≤ n ∧ n < 10) : FnOK Tryz.prog 69 ⟨0, [], [.c (.v (.int .i64 n))], .c (.v (.string (txt (dgT n)))), [], 0⟩ := by
  obtain ⟨m, rfl⟩ := Int.eq_ofNat_of_zero_le h.1
  refine fnOK_val rfl ⟨_, Tryz.func69, by rfl, by rfl⟩ fun w => ?_
  have := Any.strconv_Itoa_small itoaLays m (by omega) w
  have e := dec_one ⟨m, by omega⟩
  dsimp only at e
  rw [e] at this
  refine Calls.mono this fun e w' he => ?_
  obtain ⟨rfl, rfl⟩ := he
  exact ⟨by simp [txt, dgT], Below.refl _ _⟩

set_option maxHeartbeats 2000000 in
theorem implNumText_k (n : Int) (h : 0 ≤ n ∧ n < 10) : FnOK Tryz.prog 32 ⟨0, [], [.c (.v (.int .i64 n))], .c (.v (.string (txt (dgT n)))), [], 0⟩ := by
  have c1 := isNumber_k n
  have c2 := itoa_k n h
  rw [decide_eq_true (by omega)] at c1
  refine fnOK_of true mixed Tryz.func32 rfl (by rfl) (by rfl) ?_
  have hres := congrArg Array.toList Tryz.results32
  simp only [Tryz.ntmps32, BGB, seval]
  (have gx := true_and True; have q1 := c1; have q2 := c2; refine go ?_; (repeat' first | exact Ef.mk | apply Lf.mk | refine fun (K : KT) hK hE hT => ?_ | refine fun (KS : KE) hKS => ?_ | refine fun (D : KD) hD => ?_ | refine fun (hg : (_ : Prop)) => ?_ | fail); all_goals (first | (refine Wr.mk ?_; (try clear gx q1 q2); repeat first | clear hK hE hT K | clear hR hE hT K) | assumption | skip))
  all_goals (refine post_a hres (.inl rfl) ?_; simp only [RSB, ENB, seval, tiAll, true_and]; simp only [MAB, seval]; refine ⟨rfl, rfl, ?_, ?_, ?_⟩ <;> (first | rfl | (simp [WKB, Nat.add_comm, true_and]; done) | (simp only [WKB, seval])))

theorem dgT_byte {n : Int} (h : 0 ≤ n ∧ n < 10) : IntKind.u8.wrap (48 + n) = ((UInt8.ofNat (48 + n.toNat)).toNat : Int) := by
  rw [IntWalk.u8_in _ ⟨by omega, by omega⟩, UInt8.toNat_ofNat']
  omega
set_option maxHeartbeats 2000000 in
theorem specNumText_k (n : Int) (h : 0 ≤ n ∧ n < 10) : FnOK Tryz.prog 36 ⟨0, [], [.c (.v (.int .i64 n))], .c (.v (.string (txt (dgT n)))), [], 0⟩ := by
  have c1 := l01Num_k n
  have hb := dgT_byte h
  rw [decide_eq_true (by omega)] at c1
  refine fnOK_of true mixed Tryz.func36 rfl (by rfl) (by rfl) ?_
  have hres := congrArg Array.toList Tryz.results36
  simp only [Tryz.ntmps36, BGB, seval]
  (have gx := And.intro (@List.length_map.{0,0}) (And.intro (@List.getElem_map.{0,0}) (And.intro @bytK.eq_1 @hb)); have q1 := c1; refine go ?_; (repeat' first | exact Ef.mk | apply Lf.mk | refine fun (K : KT) hK hE hT => ?_ | refine fun (KS : KE) hKS => ?_ | refine fun (D : KD) hD => ?_ | refine fun (hg : (_ : Prop)) => ?_ | fail); all_goals (first | (refine Wr.mk ?_; (try clear gx q1); repeat first | clear hK hE hT K | clear hR hE hT K) | assumption | skip))
  refine ⟨dgT n, by simp [dgT, bytK], rfl, ?_⟩
  (have gx := And.intro (@List.length_map.{0,0}) (And.intro (@List.getElem_map.{0,0}) (And.intro @bytK.eq_1 @hb)); refine go ?_; (repeat' first | exact Ef.mk | apply Lf.mk | refine fun (K : KT) hK hE hT => ?_ | refine fun (KS : KE) hKS => ?_ | refine fun (D : KD) hD => ?_ | refine fun (hg : (_ : Prop)) => ?_ | fail); all_goals (first | (refine Wr.mk ?_; (try clear gx); repeat first | clear hK hE hT K | clear hR hE hT K) | assumption | skip))
  all_goals (refine post_a hres (.inl rfl) ?_; simp only [RSB, ENB, seval, tiAll, true_and]; simp only [MAB, seval]; refine ⟨rfl, rfl, ?_, ?_, ?_⟩ <;> (first | rfl | (simp [WKB, Nat.add_comm, true_and]; done) | (simp only [WKB, seval])))

def strR (l : List UInt8) : List DC := [.v (.string (txt l))]
theorem join_k (xs : List (List UInt8)) (sep : List UInt8) (hx : 0 < xs.length) (hl : xs.length ≤ 1048576) (hj : (Lib.join xs sep).length ≤ 1048576) : FnOK Tryz.prog 70 ⟨1, [(0, some (.ro (xs.map strR)))], [.c (.sl 0 1 0 xs.length), .c (.v (.string (txt sep)))], .c (.v (.string (txt (Lib.join xs sep)))), [], 1⟩ := by
  refine ⟨⟨⟨Nat.le_refl _, fun f hf => ?_, fun f b hb => (by cases hb), by simp [Con.eff]⟩, fun ρ vs w hargs hmem => ?_⟩, _, Tryz.func70, by rfl, by rfl⟩
  · simp only [Con.eff, List.map_cons, List.map_nil, List.mem_singleton] at hf
    subst hf
    exact ⟨_, rfl⟩
  match vs, hargs with
  | [u1, u2], ⟨h1, h2, _⟩ =>
    obtain ⟨rfl, _⟩ := h2
    obtain ⟨hV, hsz, a, cp, rfl, h3, h4, h5, h6, h7⟩ := h1
    obtain ⟨bb, q1, rfl⟩ := h7 hx
    obtain ⟨_, ⟨_, _, _, hs, hne, hcell⟩, hlt⟩ := hmem.dom 0 _ rfl
    have hF : (ρ 0).F bb := by
      obtain ⟨b2, r1, r2⟩ := hne (by intro e; have := congrArg List.length e; rw [List.length_map, List.length_nil] at this; omega)
      rw [q1] at r1; cases r1; exact r2
    have hc : ∀ (j : Nat) x, (xs.map txt)[j]? = some x → w.cell? ⟨bb, (ρ 0).off + 0 * 1 + j, none⟩ = some (.string x) := by
      intro j x hj
      rw [List.getElem?_map] at hj
      obtain ⟨l, hl, rfl⟩ := Option.map_eq_some_iff.1 hj
      obtain ⟨u, r1, r2⟩ := hcell j (strR l) 0 (.v (.string (txt l))) bb (by rw [List.getElem?_map, hl]; rfl) rfl q1
      rw [hsz] at r1
      cases r2
      rw [← r1]; congr 2; omega
    have e0 : ((xs.map txt).map (·.data.toList)) = xs := by
      rw [List.map_map]
      conv => rhs; rw [← List.map_id xs]
      exact List.map_congr_left fun l _ => by simp [txt]
    have := Any.strings_Join joinLays joinX bb ((ρ 0).off + 0 * 1) cp (xs.map txt) (txt sep) w hc (hlt bb hF) (by simp; omega) (by simpa using h3) (by rw [e0]; simp [txt]; omega)
    rw [e0, List.length_map] at this
    refine Calls.mono this fun e w' he => ?_
    obtain ⟨rfl, hb⟩ := he
    exact ⟨_, ρ, rfl, ⟨same_of fun _ _ => rfl, ⟨by simp [txt], rfl⟩, ⟨fun f blk hb => (by cases hb), fun f g blk blk' _ hb => (by cases hb)⟩, fun f blk hb => (by cases hb), hb.os, hb.tape, hb.output, hb.size, fun k hk _ => hb.block k hk⟩⟩

def dgR (n : Int) : List DC := strR (dgT n)
theorem dgR_map (l : List Int) : l.map dgR = (l.map dgT).map strR := by rw [List.map_map]; rfl
set_option maxHeartbeats 4000000 in
theorem words_k (l : List Int) (hl : l.length = 3) (hd : ∀ n ∈ l, 0 ≤ n ∧ n < 10) (hj : (Lib.join (l.map dgT) [32]).length ≤ 1048576) : FnOK Tryz.prog 33 ⟨1, [(0, some (.ro (l.map intK)))], [.c (.sl 0 1 0 l.length)], .c (.v (.string (txt (Lib.join (l.map dgT) [32])))), [], 1⟩ := by
  have cj := join_k (l.map dgT) [32] (by simp; omega) (by simp; omega) hj
  rw [← dgR_map, List.length_map] at cj
  have c32 : ({ data := #[32] } : ByteArray) = txt [32] := rfl
  refine fnOK_of true mixed Tryz.func33 rfl (by rfl) (by rfl) ?_
  have hres := congrArg Array.toList Tryz.results33
  simp only [Tryz.ntmps33, BGB, seval]
  (have gx := @List.length_map.{0,0}; refine go ?_; (repeat' first | exact Ef.mk | apply Lf.mk | refine fun (K : KT) hK hE hT => ?_ | refine fun (KS : KE) hKS => ?_ | refine fun (D : KD) hD => ?_ | refine fun (hg : (_ : Prop)) => ?_ | fail); all_goals (first | (refine Wr.mk ?_; (try clear gx); repeat first | clear hK hE hT K | clear hR hE hT K) | assumption | skip))
  refine loop_v (X := {k : Nat // k ≤ l.length}) [] (fun x => [(3, .c (.sl 1 1 0 (l.take x.1).length)), (8, .c (.v (.int .i64 ((x.1 : Nat) : Int))))]) (fun x => [(0, some (.ro (l.map intK))), (1, some (.row 9 ((l.take x.1).map dgR)))]) 2 (fun x => l.length - x.1) ⟨0, by omega⟩ ?_
  simp only [KPB, seval]
  refine ⟨?_, ?_⟩
  · (refine wk_a ?_; simp only [MAB, seval]; refine ⟨rfl, rfl, (by decide), ?_, ?_⟩; all_goals (first | (simp only [WKB, seval, List.take_zero, List.map_nil, List.length_nil]; done) | (simp [WKB, seval, List.take_zero, List.map_nil, List.length_nil]; done) | simp only [WKB, seval]))
  · rintro ⟨k, hk⟩ K hR hE hT
    have l1 : (l.take k).length = k := by rw [List.length_take]; omega
    rcases Nat.lt_or_ge k l.length with hlt | hge
    case inr =>
      obtain rfl : k = l.length := by omega
      rw [List.take_length]
      (have gx := And.intro @List.length_map.{0,0} @c32; have q1 := cj; refine go ?_; (repeat' first | exact Ef.mk | apply Lf.mk | refine fun (K : KT) hK hE hT => ?_ | refine fun (KS : KE) hKS => ?_ | refine fun (D : KD) hD => ?_ | refine fun (hg : (_ : Prop)) => ?_ | fail); all_goals (first | (refine Wr.mk ?_; (try clear gx q1); repeat first | clear hK hE hT K | clear hR hE hT K) | assumption | skip))
      (refine post_a hres (.inl rfl) ?_; simp only [RSB, ENB, seval, tiAll, true_and]; simp only [MAB, seval]; refine ⟨rfl, rfl, ?_, ?_, ?_⟩ <;> (first | rfl | (simp [WKB, Nat.add_comm, true_and]; done) | (simp only [WKB, seval])))
    case inl =>
      have c := implNumText_k l[k] (hd _ (List.getElem_mem hlt))
      have e := take_succ_map dgR hlt
      have e2 : (l.take (k + 1)).length = k + 1 := by rw [List.length_take]; omega
      (have gx := And.intro (@List.length_map.{0,0}) (And.intro (@List.getElem_map.{0,0}) (And.intro @intK.eq_1 @l1)); have q1 := c; refine go ?_; (repeat' first | exact Ef.mk | apply Lf.mk | refine fun (K : KT) hK hE hT => ?_ | refine fun (KS : KE) hKS => ?_ | refine fun (D : KD) hD => ?_ | refine fun (hg : (_ : Prop)) => ?_ | fail); all_goals (first | (refine Wr.mk ?_; (try clear gx q1); repeat first | clear hK hE hT K | clear hR hE hT K) | assumption | skip))
      (refine hR.out ⟨k + 1, by omega⟩ _ _ _ (by simp only; omega) ?_; (refine wk_a ?_; simp only [MAB, seval]; refine ⟨rfl, rfl, (by decide), ?_, ?_⟩; all_goals (first | (simp only [WKB, seval, e, e2, dgR, strR]; done) | (simp [WKB, seval, e, e2, dgR, strR]; done) | simp only [WKB, seval])))

theorem join3 (e : EdgeD) : Lib.join ([e.From, e.To, e.W].map dgT) [32] ++ [10] = lnT e := by
  simp [Lib.join, lnT]
set_option maxHeartbeats 4000000 in
theorem implGraphText_k (g : GraphD) (h : dgG g) : FnOK Tryz.prog 7 ⟨1, [(0, some (.ro ((g.Edges).map EdgeD.k)))], [.agg [.v (.int .i64 g.N), .sl 0 3 0 (g.Edges).length]], .c (.v (.string (txt (gxT g g.Edges.length)))), [], 1⟩ := by
  have hg := (graphOk_out h.1).1
  have c0 := implGraphOk_k g (by omega)
  rw [h.1] at c0
  have c1 := implNumText_k g.N ⟨by omega, h.2.1⟩
  have c10 : ({ data := #[10] } : ByteArray) = txt [10] := rfl
  have ld : ∀ n, (dgT n).length = 1 := fun n => rfl
  refine fnOK_of true mixed Tryz.func7 rfl (by rfl) (by rfl) ?_
  have hres := congrArg Array.toList Tryz.results7
  simp only [Tryz.ntmps7, BGB, seval]
  (have gx := And.intro (@List.length_map.{0,0}) (And.intro (@c10) (And.intro (@txt_app) (And.intro @txt_size @ld))); have q1 := c0; have q2 := c1; refine go ?_; (repeat' first | exact Ef.mk | apply Lf.mk | refine fun (K : KT) hK hE hT => ?_ | refine fun (KS : KE) hKS => ?_ | refine fun (D : KD) hD => ?_ | refine fun (hg : (_ : Prop)) => ?_ | fail); all_goals (first | (refine Wr.mk ?_; (try clear gx q1 q2); repeat first | clear hK hE hT K | clear hR hE hT K) | assumption | skip))
  refine loop_v (X := {k : Nat // k ≤ g.Edges.length}) [] (fun x => [(3, .c (.v (.string (txt (gxT g x.1))))), (16, .c (.v (.int .i64 ((x.1 : Nat) : Int))))]) (fun x => [(0, some (.ro ((g.Edges).map EdgeD.k))), (1, some (.box 35 [.v (.int .i64 g.N), .sl 0 3 0 (g.Edges).length]))]) 2 (fun x => g.Edges.length - x.1) ⟨0, by omega⟩ ?_
  simp only [KPB, seval]
  refine ⟨?_, ?_⟩
  · (refine wk_a ?_; simp only [MAB, seval]; refine ⟨rfl, rfl, (by decide), ?_, ?_⟩; all_goals (first | (simp only [WKB, seval, gxT_zero]; done) | (simp [WKB, seval, gxT_zero]; done) | simp only [WKB, seval]))
  · rintro ⟨k, hk⟩ K hR hE hT
    have lk := gxT_len g k
    rcases Nat.lt_or_ge k g.Edges.length with hlt | hge
    case inr =>
      obtain rfl : k = g.Edges.length := by omega
      (have gx := @List.length_map.{0,0}; refine go ?_; (repeat' first | exact Ef.mk | apply Lf.mk | refine fun (K : KT) hK hE hT => ?_ | refine fun (KS : KE) hKS => ?_ | refine fun (D : KD) hD => ?_ | refine fun (hg : (_ : Prop)) => ?_ | fail); all_goals (first | (refine Wr.mk ?_; (try clear gx); repeat first | clear hK hE hT K | clear hR hE hT K) | assumption | skip))
      (refine post_a hres (.inl rfl) ?_; simp only [RSB, ENB, seval, tiAll, true_and]; simp only [MAB, seval]; refine ⟨rfl, rfl, ?_, ?_, ?_⟩ <;> (first | rfl | (simp [WKB, Nat.add_comm, true_and]; done) | (simp only [WKB, seval])))
    case inl =>
      obtain ⟨d1, d2, d3⟩ := dg_edge h (List.getElem_mem hlt)
      have e := gxT_succ hlt
      obtain ⟨y, hy⟩ : ∃ y, y = g.Edges[k] := ⟨_, rfl⟩
      rw [← hy] at d1 d2 d3 e
      have ej := join3 y
      have lj : (Lib.join ([y.From, y.To, y.W].map dgT) [32]).length = 5 := by simp [Lib.join, dgT]
      have ll : (lnT y).length = 6 := rfl
      have cw := words_k [y.From, y.To, y.W] rfl (fun n hn => by simp at hn; rcases hn with rfl | rfl | rfl <;> assumption) (by rw [lj]; decide)
      simp only [List.map_cons, List.map_nil, intK, List.length_cons, List.length_nil] at cw
      simp only [List.map_cons, List.map_nil] at ej lj
      (have gx := And.intro (@List.length_map.{0,0}) (And.intro (@List.getElem_map.{0,0}) (And.intro ((hy).symm) (And.intro (@EdgeD.k.eq_1) (And.intro (@c10) (And.intro (@txt_app) (And.intro (@txt_size) (And.intro (@ej) (And.intro (@lj) (And.intro @ll @e.symm))))))))); have q1 := cw; refine go ?_; (repeat' first | exact Ef.mk | apply Lf.mk | refine fun (K : KT) hK hE hT => ?_ | refine fun (KS : KE) hKS => ?_ | refine fun (D : KD) hD => ?_ | refine fun (hg : (_ : Prop)) => ?_ | fail); all_goals (first | (refine Wr.mk ?_; (try clear gx q1); repeat first | clear hK hE hT K | clear hR hE hT K) | assumption | skip))
      (refine hR.out ⟨k + 1, by omega⟩ _ _ _ (by simp only; omega) ?_; (refine wk_a ?_; simp only [MAB, seval]; refine ⟨rfl, rfl, (by decide), ?_, ?_⟩; all_goals (first | (simp only [WKB, seval, e]; done) | (simp [WKB, seval, e]; done) | simp only [WKB, seval])))

/-- A line as the reference writes it: the first k numbers. -/
def lnS (l : List Int) : Nat → List UInt8
  | 0 => []
  | k + 1 => (if 0 < k then lnS l k ++ [32] else lnS l k) ++ dgT (l.getD k 0)
theorem lnS3 (e : EdgeD) : lnS [e.From, e.To, e.W] 3 ++ [10] = lnT e := by simp [lnS, lnT]
theorem lnS_len (l : List Int) : ∀ k, (lnS l k).length ≤ 2 * k
  | 0 => by simp [lnS]
  | k + 1 => by
    have := lnS_len l k
    rw [lnS]
    split <;> simp only [List.length_append, dgT, List.length_cons, List.length_nil] <;> omega
set_option maxHeartbeats 4000000 in
theorem l04Line_k (l : List Int) (hl : l.length = 3) (hd : ∀ n ∈ l, 0 ≤ n ∧ n < 10) : FnOK Tryz.prog 37 ⟨1, [(0, some (.ro (l.map intK)))], [.c (.sl 0 1 0 l.length)], .c (.v (.string (txt (lnS l l.length)))), [], 1⟩ := by
  have c32 : ({ data := #[32] } : ByteArray) = txt [32] := rfl
  have c0 : ({ data := #[] } : ByteArray) = txt [] := rfl
  have ld : ∀ n, (dgT n).length = 1 := fun n => rfl
  refine fnOK_of true mixed Tryz.func37 rfl (by rfl) (by rfl) ?_
  have hres := congrArg Array.toList Tryz.results37
  simp only [Tryz.ntmps37, BGB, seval]
  (have gx := And.intro @List.length_map.{0,0} @c0; refine go ?_; (repeat' first | exact Ef.mk | apply Lf.mk | refine fun (K : KT) hK hE hT => ?_ | refine fun (KS : KE) hKS => ?_ | refine fun (D : KD) hD => ?_ | refine fun (hg : (_ : Prop)) => ?_ | fail); all_goals (first | (refine Wr.mk ?_; (try clear gx); repeat first | clear hK hE hT K | clear hR hE hT K) | assumption | skip))
  refine loop_v (X := {k : Nat // k ≤ l.length}) [] (fun x => [(3, .c (.v (.string (txt (lnS l x.1))))), (8, .c (.v (.int .i64 ((x.1 : Nat) : Int))))]) (fun x => [(0, some (.ro (l.map intK)))]) 1 (fun x => l.length - x.1) ⟨0, by omega⟩ ?_
  simp only [KPB, seval]
  refine ⟨?_, ?_⟩
  · (refine wk_a ?_; simp only [MAB, seval]; refine ⟨rfl, rfl, (by decide), ?_, ?_⟩; all_goals (first | (simp only [WKB, seval, lnS, c0]; done) | (simp [WKB, seval, lnS, c0]; done) | simp only [WKB, seval]))
  · rintro ⟨k, hk⟩ K hR hE hT
    have lk := lnS_len l k
    rcases Nat.lt_or_ge k l.length with hlt | hge
    case inr =>
      obtain rfl : k = l.length := by omega
      (have gx := @List.length_map.{0,0}; refine go ?_; (repeat' first | exact Ef.mk | apply Lf.mk | refine fun (K : KT) hK hE hT => ?_ | refine fun (KS : KE) hKS => ?_ | refine fun (D : KD) hD => ?_ | refine fun (hg : (_ : Prop)) => ?_ | fail); all_goals (first | (refine Wr.mk ?_; (try clear gx); repeat first | clear hK hE hT K | clear hR hE hT K) | assumption | skip))
      (refine post_a hres (.inl rfl) ?_; simp only [RSB, ENB, seval, tiAll, true_and]; simp only [MAB, seval]; refine ⟨rfl, rfl, ?_, ?_, ?_⟩ <;> (first | rfl | (simp [WKB, Nat.add_comm, true_and]; done) | (simp only [WKB, seval])))
    case inl =>
      have c := specNumText_k l[k] (hd _ (List.getElem_mem hlt))
      have e : lnS l (k + 1) = (if 0 < k then lnS l k ++ [32] else lnS l k) ++ dgT l[k] := by
        rw [lnS, List.getD_eq_getElem?_getD, List.getElem?_eq_getElem hlt, Option.getD_some]
      rcases Nat.eq_zero_or_pos k with h0 | h0
      · rw [if_neg (by omega)] at e
        (have gx := And.intro (@List.length_map.{0,0}) (And.intro (@List.getElem_map.{0,0}) (And.intro (@intK.eq_1) (And.intro (@c32) (And.intro (@txt_app) (And.intro @txt_size @ld))))); have q1 := c; refine go ?_; (repeat' first | exact Ef.mk | apply Lf.mk | refine fun (K : KT) hK hE hT => ?_ | refine fun (KS : KE) hKS => ?_ | refine fun (D : KD) hD => ?_ | refine fun (hg : (_ : Prop)) => ?_ | fail); all_goals (first | (refine Wr.mk ?_; (try clear gx q1); repeat first | clear hK hE hT K | clear hR hE hT K) | assumption | skip))
        all_goals (refine hR.out ⟨k + 1, by omega⟩ _ _ _ (by simp only; omega) ?_; (refine wk_a ?_; simp only [MAB, seval]; refine ⟨rfl, rfl, (by decide), ?_, ?_⟩; all_goals (first | (simp only [WKB, seval, e]; done) | (simp [WKB, seval, e]; done) | simp only [WKB, seval])))
      · rw [if_pos h0] at e
        (have gx := And.intro (@List.length_map.{0,0}) (And.intro (@List.getElem_map.{0,0}) (And.intro (@intK.eq_1) (And.intro (@c32) (And.intro (@txt_app) (And.intro (@txt_size) (And.intro (@ld) (And.intro @List.length_append.{0} @List.length_singleton.{0}))))))); have q1 := c; refine go ?_; (repeat' first | exact Ef.mk | apply Lf.mk | refine fun (K : KT) hK hE hT => ?_ | refine fun (KS : KE) hKS => ?_ | refine fun (D : KD) hD => ?_ | refine fun (hg : (_ : Prop)) => ?_ | fail); all_goals (first | (refine Wr.mk ?_; (try clear gx q1); repeat first | clear hK hE hT K | clear hR hE hT K) | assumption | skip))
        all_goals (refine hR.out ⟨k + 1, by omega⟩ _ _ _ (by simp only; omega) ?_; (refine wk_a ?_; simp only [MAB, seval]; refine ⟨rfl, rfl, (by decide), ?_, ?_⟩; all_goals (first | (simp only [WKB, seval, e]; done) | (simp [WKB, seval, e]; done) | simp only [WKB, seval])))
set_option maxHeartbeats 4000000 in
theorem specGraphText_k (g : GraphD) (h : dgG g) : FnOK Tryz.prog 9 ⟨1, [(0, some (.ro ((g.Edges).map EdgeD.k)))], [.agg [.v (.int .i64 g.N), .sl 0 3 0 (g.Edges).length]], .c (.v (.string (txt (gxT g g.Edges.length)))), [], 1⟩ := by
  have hg := (graphOk_out h.1).1
  have c0 := specGraphOk_k g (by omega)
  rw [h.1] at c0
  have c1 := specNumText_k g.N ⟨by omega, h.2.1⟩
  have c10 : ({ data := #[10] } : ByteArray) = txt [10] := rfl
  have ld : ∀ n, (dgT n).length = 1 := fun n => rfl
  refine fnOK_of true mixed Tryz.func9 rfl (by rfl) (by rfl) ?_
  have hres := congrArg Array.toList Tryz.results9
  simp only [Tryz.ntmps9, BGB, seval]
  (have gx := And.intro (@List.length_map.{0,0}) (And.intro (@c10) (And.intro (@txt_app) (And.intro @txt_size @ld))); have q1 := c0; have q2 := c1; refine go ?_; (repeat' first | exact Ef.mk | apply Lf.mk | refine fun (K : KT) hK hE hT => ?_ | refine fun (KS : KE) hKS => ?_ | refine fun (D : KD) hD => ?_ | refine fun (hg : (_ : Prop)) => ?_ | fail); all_goals (first | (refine Wr.mk ?_; (try clear gx q1 q2); repeat first | clear hK hE hT K | clear hR hE hT K) | assumption | skip))
  refine loop_v (X := {k : Nat // k ≤ g.Edges.length}) [] (fun x => [(3, .c (.v (.string (txt (gxT g x.1))))), (16, .c (.v (.int .i64 ((x.1 : Nat) : Int))))]) (fun x => [(0, some (.ro ((g.Edges).map EdgeD.k))), (1, some (.box 35 [.v (.int .i64 g.N), .sl 0 3 0 (g.Edges).length]))]) 2 (fun x => g.Edges.length - x.1) ⟨0, by omega⟩ ?_
  simp only [KPB, seval]
  refine ⟨?_, ?_⟩
  · (refine wk_a ?_; simp only [MAB, seval]; refine ⟨rfl, rfl, (by decide), ?_, ?_⟩; all_goals (first | (simp only [WKB, seval, gxT_zero]; done) | (simp [WKB, seval, gxT_zero]; done) | simp only [WKB, seval]))
  · rintro ⟨k, hk⟩ K hR hE hT
    have lk := gxT_len g k
    rcases Nat.lt_or_ge k g.Edges.length with hlt | hge
    case inr =>
      obtain rfl : k = g.Edges.length := by omega
      (have gx := @List.length_map.{0,0}; refine go ?_; (repeat' first | exact Ef.mk | apply Lf.mk | refine fun (K : KT) hK hE hT => ?_ | refine fun (KS : KE) hKS => ?_ | refine fun (D : KD) hD => ?_ | refine fun (hg : (_ : Prop)) => ?_ | fail); all_goals (first | (refine Wr.mk ?_; (try clear gx); repeat first | clear hK hE hT K | clear hR hE hT K) | assumption | skip))
      (refine post_a hres (.inl rfl) ?_; simp only [RSB, ENB, seval, tiAll, true_and]; simp only [MAB, seval]; refine ⟨rfl, rfl, ?_, ?_, ?_⟩ <;> (first | rfl | (simp [WKB, Nat.add_comm, true_and]; done) | (simp only [WKB, seval])))
    case inl =>
      obtain ⟨d1, d2, d3⟩ := dg_edge h (List.getElem_mem hlt)
      have e := gxT_succ hlt
      obtain ⟨y, hy⟩ : ∃ y, y = g.Edges[k] := ⟨_, rfl⟩
      rw [← hy] at d1 d2 d3 e
      have ej := lnS3 y
      have lj : (lnS [y.From, y.To, y.W] 3).length = 5 := by simp [lnS, dgT]
      have cw := l04Line_k [y.From, y.To, y.W] rfl (fun n hn => by simp at hn; rcases hn with rfl | rfl | rfl <;> assumption)
      simp only [List.map_cons, List.map_nil, intK, List.length_cons, List.length_nil] at cw
      have e3 : gxT g k ++ lnS [y.From, y.To, y.W] 3 ++ [10] = gxT g (k + 1) := by rw [List.append_assoc, ej, e]
      (have gx := And.intro (@List.length_map.{0,0}) (And.intro (@List.getElem_map.{0,0}) (And.intro ((hy).symm) (And.intro (@EdgeD.k.eq_1) (And.intro (@c10) (And.intro (@txt_app) (And.intro (@txt_size) (And.intro (@lj) (And.intro (@List.length_append.{0}) (And.intro @List.length_singleton.{0} @e3))))))))); have q1 := cw; refine go ?_; (repeat' first | exact Ef.mk | apply Lf.mk | refine fun (K : KT) hK hE hT => ?_ | refine fun (KS : KE) hKS => ?_ | refine fun (D : KD) hD => ?_ | refine fun (hg : (_ : Prop)) => ?_ | fail); all_goals (first | (refine Wr.mk ?_; (try clear gx q1); repeat first | clear hK hE hT K | clear hR hE hT K) | assumption | skip))
      (refine hR.out ⟨k + 1, by omega⟩ _ _ _ (by simp only; omega) ?_; (refine wk_a ?_; simp only [MAB, seval]; refine ⟨rfl, rfl, (by decide), ?_, ?_⟩; all_goals (first | (simp only [WKB, seval, true_and]; done) | (simp [WKB, seval, true_and]; done) | simp only [WKB, seval])))

/-- nil for an empty row of the call's own. -/
theorem nil_arg {P : Program} {f : FuncId} {T T' k m n' : Nat} {a b : Value} {es es' : List (List DC)} (h : FnOK P f ⟨2, [(0, some (.row T [])), (1, some (.ro es))], [.c (.sl 0 1 0 0), .agg [.v a, .v b, .sl 1 k 0 n']], .c (.sl 2 1 0 m), [(0, none), (2, some (.row T' es'))], 3⟩) :
    FnOK P f ⟨1, [(0, some (.ro es))], [.c .nil, .agg [.v a, .v b, .sl 0 k 0 n']], .c (.sl 1 1 0 m), [(1, some (.row T' es'))], 2⟩ := by
  obtain ⟨⟨_, hr⟩, hc⟩ := h
  refine ⟨⟨⟨Nat.le_succ 1, fun g hg => ?_, fun g blk hg => ?_, by simp [Con.eff]⟩, fun ρ vs w hargs hmem => ?_⟩, hc⟩
  · simp only [Con.eff, List.map_cons, List.map_nil, List.mem_singleton] at hg
    subst hg; exact ⟨_, rfl⟩
  · simp only [Con.eff, List.mem_singleton, Prod.mk.injEq] at hg
    obtain ⟨rfl, rfl⟩ := hg
    exact ⟨Nat.lt_succ_self 1, fun h => absurd h (Nat.lt_irrefl 1)⟩
  match vs, hargs with
  | [u1, _], ⟨h1, ⟨[x, y, z], rfl, p, q, r, _⟩, _⟩ =>
    have h1 : u1 = .slice none 0 0 := h1
    have key : ∀ g blk, hget [(0, some (Blk.row T [])), (1, some (Blk.ro es))] g = some blk → (g = 0 ∧ blk = .row T []) ∨ (g = 1 ∧ blk = .ro es) := fun g blk hg => by
      simp only [hget] at hg
      split at hg
      · cases hg; exact .inl ⟨by assumption, rfl⟩
      · split at hg
        · cases hg; exact .inr ⟨by assumption, rfl⟩
        · cases hg
    obtain ⟨hV1, hh1, hs1⟩ := hmem.dom 0 (.ro es) rfl
    obtain ⟨ρ0, hρ0, hρ1⟩ : ∃ ρ0 : Nat → At, ρ0 0 = ⟨none, 0, 1, 0, True, fun _ => False⟩ ∧ ρ0 1 = ρ 0 := ⟨fun i => if i = 0 then ⟨none, 0, 1, 0, True, fun _ => False⟩ else ρ 0, rfl, rfl⟩
    have hm : Mem (· < 2) ρ0 (hget [(0, some (.row T [])), (1, some (.ro es))]) w := by
      refine ⟨fun g blk hg => ?_, fun g g' blk blk' hne hg hg' b hF hF' => ?_⟩
      · rcases key g blk hg with ⟨rfl, rfl⟩ | ⟨rfl, rfl⟩
        · rw [hρ0]
          exact ⟨by decide, ⟨⟨rfl, trivial⟩, Nat.zero_le _, Nat.le_refl _, fun e he => (by cases he), fun e he => (by cases he), fun _ => rfl, fun b hb => (by cases hb)⟩, fun b hb => hb.elim⟩
        · rw [hρ1]
          exact ⟨by decide, hh1, hs1⟩
      · rcases key g blk hg with ⟨rfl, rfl⟩ | ⟨rfl, rfl⟩
        · rw [hρ0] at hF
          exact hF.elim
        · exact hF.elim
    refine (hr ρ0 [u1, .agg [x, y, z].toArray] w ⟨⟨show (0 : Nat) < 2 by decide, by rw [hρ0], none, 0, h1, Nat.le_refl _, Nat.zero_le _, fun _ => rfl, fun _ _ => by rw [hρ0]; exact ⟨rfl, rfl⟩, fun h => absurd h (Nat.lt_irrefl 0)⟩, ⟨[x, y, z], rfl, p, q, ⟨show (1 : Nat) < 2 by decide, by rw [hρ1]; exact r.2⟩, trivial⟩, trivial⟩ hm).mono fun e w' he => ?_
    obtain ⟨u, ρ', rfl, hd⟩ := he
    obtain ⟨c1, c2, c3⟩ := hd.mem.dom 2 (.row T' es') rfl
    obtain ⟨ρ2, e0, e1, e2⟩ : ∃ ρ2 : Nat → At, ρ2 0 = ρ 0 ∧ ρ2 1 = ρ' 2 ∧ ∀ g, 2 ≤ g → ρ2 g = ρ g := ⟨fun i => if i = 1 then ρ' 2 else ρ i, rfl, rfl, fun g hg => if_neg (by omega)⟩
    have hv : CVr _ ρ' (.sl 2 1 0 m) u := hd.val
    refine ⟨u, ρ2, rfl, ⟨fun g hg => ?_, ⟨.inr ⟨Nat.le_refl 1, Nat.lt_succ_self 1⟩, by rw [e1]; exact hv.2⟩, ⟨fun g blk hg => ?_, fun g g' blk blk' hne hg hg' b hF hF' => ?_⟩, fun g blk hg b hF => ?_, hd.os, hd.tape, hd.output, hd.size, fun j hj hn => hd.block j hj fun g x hgx hlt hex => ?_⟩⟩
    · have hg : g < 1 ∨ 2 ≤ g := hg
      have : ρ2 g = ρ g := by
        rcases hg with hg | hg
        · obtain rfl : g = 0 := by omega
          exact e0
        · exact e2 g hg
      rw [this]; exact ⟨rfl, fun _ => rfl⟩
    · simp only [Con.eff, hget] at hg
      split at hg
      · rename_i e; subst e; cases hg
        rw [e1]
        exact ⟨.inr ⟨Nat.le_refl 1, Nat.lt_succ_self 1⟩, c2, c3⟩
      · cases hg
    · simp only [Con.eff, hget] at hg hg'
      split at hg
      · split at hg'
        · omega
        · cases hg'
      · cases hg
    · simp only [Con.eff, hget] at hg
      split at hg
      · rename_i e; subst e; cases hg
        rw [e1] at hF
        rcases hd.foot 2 (.row T' es') rfl b hF with h | ⟨g, x, h1, h2, h3⟩ | ⟨h1, _⟩
        · exact .inl h
        · exfalso
          simp only [Con.eff, List.mem_cons, Prod.mk.injEq, List.not_mem_nil, or_false] at h1
          rcases h1 with ⟨rfl, rfl⟩ | ⟨rfl, rfl⟩
          · obtain ⟨blk, h4, h5⟩ := h3
            cases h4
            rw [hρ0] at h5
            exact h5.elim
          · exact absurd h2 (Nat.lt_irrefl 2)
        · exact absurd hF h1
      · cases hg
    · simp only [Con.eff, List.mem_cons, Prod.mk.injEq, List.not_mem_nil, or_false] at hgx
      rcases hgx with ⟨rfl, rfl⟩ | ⟨rfl, rfl⟩
      · obtain ⟨blk, h4, h5⟩ := hex
        cases h4
        rw [hρ0] at h5
        exact h5.elim
      · exact absurd hlt (Nat.lt_irrefl 2)

set_option maxHeartbeats 4000000 in
theorem implShardBytes_k (s : ShardD) (h : ShOk s) : FnOK Tryz.prog 11 ⟨1, [(0, some (.ro ((s.Edges).map SEdgeD.k)))], [.agg [.v (.int .i64 s.Lo), .v (.int .i64 s.Hi), .sl 0 5 0 (s.Edges).length]], .tup [.inl (.sl 1 1 0 (shB s).length), .inl (.v (.bool true))], [(1, some (.row 5 ((shB s).map bytK)))], 2⟩ := by
  have hh := h.1
  unfold shHead at hh
  have co := implShardOk_k s (by omega)
  rw [pB_t h] at co
  have cs := shardBytes_k [] s h (by simp)
  rw [List.nil_append, List.map_nil, List.length_nil] at cs
  have cs := nil_arg cs
  refine fnOK_of true mixed Tryz.func11 rfl (by rfl) (by rfl) ?_
  have hres := congrArg Array.toList Tryz.results11
  simp only [Tryz.ntmps11, BGB, seval]
  (have gx := @List.length_map.{0,0}; have q1 := co; have q2 := cs; refine go ?_; (repeat' first | exact Ef.mk | apply Lf.mk | refine fun (K : KT) hK hE hT => ?_ | refine fun (KS : KE) hKS => ?_ | refine fun (D : KD) hD => ?_ | refine fun (hg : (_ : Prop)) => ?_ | fail); all_goals (first | (refine Wr.mk ?_; (try clear gx q1 q2); repeat first | clear hK hE hT K | clear hR hE hT K) | assumption | skip))
  all_goals (refine post_a hres (.inl rfl) ?_; simp only [RSB, ENB, seval, tiAll, true_and]; simp only [MAB, seval]; refine ⟨rfl, rfl, ?_, ?_, ?_⟩ <;> (first | rfl | (simp [WKB, Nat.add_comm, true_and]; done) | (simp only [WKB, seval])))

set_option maxHeartbeats 4000000 in
theorem implShardRead_k (b : List UInt8) (p : Nat) (hb : b.length ≤ 60000) (hp : p ≤ b.length) : FnOK Tryz.prog 12 ⟨1, [(0, some (.row 5 (b.map bytK)))], [.c (.sl 0 1 0 b.length), .c (.v (.int .i64 (p : Int)))],
    .tup [.inr [.v (.int .i64 (shD b p).Lo), .v (.int .i64 (shD b p).Hi), .sl 1 5 0 ((shD b p).Edges).length], .inl (.v (.int .i64 (shP b p : Int))), .inl (.v (.bool (shK b p)))], [(0, some (.row 5 (b.map bytK))), (1, some (.row 108 (((shD b p).Edges).map SEdgeD.k)))], 2⟩ := by
  have c := shardI_k b ⟨p, true⟩ hb hp
  have hk : (siS b ⟨p, true⟩).ok = shK b p := rfl
  have hl := siD_len b ⟨p, true⟩
  cases h : shK b p with
  | false =>
    obtain ⟨e1, e2⟩ := sh_no h
    rw [h] at hk
    rw [e1, e2]
    refine fnOK_of true mixed Tryz.func12 rfl (by rfl) (by rfl) ?_
    have hres := congrArg Array.toList Tryz.results12
    simp only [Tryz.ntmps12, BGB, seval]
    (have gx := And.intro (@List.length_map.{0,0}) (And.intro (@List.getElem_map.{0,0}) (And.intro @bytK.eq_1 @hk)); have q1 := c; refine go ?_; (repeat' first | exact Ef.mk | apply Lf.mk | refine fun (K : KT) hK hE hT => ?_ | refine fun (KS : KE) hKS => ?_ | refine fun (D : KD) hD => ?_ | refine fun (hg : (_ : Prop)) => ?_ | fail); all_goals (first | (refine Wr.mk ?_; (try clear gx q1); repeat first | clear hK hE hT K | clear hR hE hT K) | assumption | skip))
    all_goals (refine post_a hres (.inl rfl) ?_; simp only [RSB, ENB, seval, tiAll, true_and]; simp only [MAB, seval]; refine ⟨rfl, rfl, ?_, ?_, ?_⟩ <;> (first | rfl | (simp [WKB, Nat.add_comm, true_and]; done) | (simp only [WKB, seval])))
  | true =>
    obtain ⟨e1, e2⟩ := sh_yes h
    rw [h] at hk
    rw [e1, e2]
    refine fnOK_of true mixed Tryz.func12 rfl (by rfl) (by rfl) ?_
    have hres := congrArg Array.toList Tryz.results12
    simp only [Tryz.ntmps12, BGB, seval]
    (have gx := And.intro (@List.length_map.{0,0}) (And.intro (@List.getElem_map.{0,0}) (And.intro @bytK.eq_1 @hk)); have q1 := c; refine go ?_; (repeat' first | exact Ef.mk | apply Lf.mk | refine fun (K : KT) hK hE hT => ?_ | refine fun (KS : KE) hKS => ?_ | refine fun (D : KD) hD => ?_ | refine fun (hg : (_ : Prop)) => ?_ | fail); all_goals (first | (refine Wr.mk ?_; (try clear gx q1); repeat first | clear hK hE hT K | clear hR hE hT K) | assumption | skip))
    all_goals (refine post_a hres (.inl rfl) ?_; simp only [RSB, ENB, seval, tiAll, true_and]; simp only [MAB, seval]; refine ⟨rfl, rfl, ?_, ?_, ?_⟩ <;> (first | rfl | (simp [WKB, Nat.add_comm, true_and]; done) | (simp only [WKB, seval])))

set_option maxHeartbeats 4000000 in
theorem implListRead_k (b : List UInt8) (l : List Int) (q : Nat) (hb : b.length ≤ 1048576) (hr : lsR b ⟨0, true⟩ = (l, ⟨q, true⟩)) (hl : l.length ≤ 1048576) : FnOK Tryz.prog 18 ⟨1, [(0, some (.row 5 (b.map bytK)))], [.c (.sl 0 1 0 b.length), .c (.v (.int .i64 0))],
    .tup [.inl (.sl 1 1 0 l.length), .inl (.v (.int .i64 (q : Int))), .inl (.v (.bool true))], [(0, some (.row 5 (b.map bytK))), (1, some (.row 3 (l.map intK)))], 2⟩ := by
  have c := list_k b ⟨0, true⟩ hb (Nat.zero_le _)
  rw [hr] at c
  dsimp only at c
  rw [show (((0 : Nat) : Int)) = 0 from rfl] at c
  refine fnOK_of true mixed Tryz.func18 rfl (by rfl) (by rfl) ?_
  have hres := congrArg Array.toList Tryz.results18
  simp only [Tryz.ntmps18, BGB, seval]
  (have gx := And.intro (@List.length_map.{0,0}) (And.intro @List.getElem_map.{0,0} @bytK.eq_1); have q1 := c; refine go ?_; (repeat' first | exact Ef.mk | apply Lf.mk | refine fun (K : KT) hK hE hT => ?_ | refine fun (KS : KE) hKS => ?_ | refine fun (D : KD) hD => ?_ | refine fun (hg : (_ : Prop)) => ?_ | fail); all_goals (first | (refine Wr.mk ?_; (try clear gx q1); repeat first | clear hK hE hT K | clear hR hE hT K) | assumption | skip))
  all_goals (refine post_a hres (.inl rfl) ?_; simp only [RSB, ENB, seval, tiAll, true_and]; simp only [MAB, seval]; refine ⟨rfl, rfl, ?_, ?_, ?_⟩ <;> (first | rfl | (simp [WKB, Nat.add_comm, true_and]; done) | (simp only [WKB, seval])))

set_option maxHeartbeats 2000000 in
theorem specDigest_k (n : Int) (l : List UInt8) (ho : setOk n l = true) : FnOK Tryz.prog 21 ⟨1, [(0, some (.ro (l.map bytK)))], [.agg [.v (.int .i64 n), .sl 0 1 0 l.length]], .c (.v (.int .i64 (digS n l))), [], 1⟩ := by
  obtain ⟨h1, h2, h3, h4⟩ := setOk_len ho
  have hs := specSetOk_k n l (by omega)
  rw [ho] at hs
  obtain ⟨m, rfl⟩ := Int.eq_ofNat_of_zero_le h1
  have kp := specPutVar_k [] (m : Int) (by simp)
  obtain ⟨e1, e2⟩ := pvL_yes (l := []) (m := m) (by omega)
  rw [e1, e2, List.nil_append] at kp
  have hv := varB_len7 (n := m) (by omega)
  have kc := specCrc_k (varB m ++ l) (by rw [List.length_append]; omega)
  refine fnOK_of true mixed Tryz.func21 rfl (by rfl) (by rfl) ?_
  have hres := congrArg Array.toList Tryz.results21
  simp only [Tryz.ntmps21, BGB, seval]
  (have gx := And.intro (@List.length_map.{0,0}) (And.intro (@List.getElem_map.{0,0}) (And.intro @bytK.eq_1 @map_take)); have q1 := hs; have q2 := kp; have q3 := kc; refine go ?_; (repeat' first | exact Ef.mk | apply Lf.mk | refine fun (K : KT) hK hE hT => ?_ | refine fun (KS : KE) hKS => ?_ | refine fun (D : KD) hD => ?_ | refine fun (hg : (_ : Prop)) => ?_ | fail); all_goals (first | (refine Wr.mk ?_; (try clear gx q1 q2 q3); repeat first | clear hK hE hT K | clear hR hE hT K) | assumption | skip))
  (refine post_a hres (.inl rfl) ?_; simp only [RSB, ENB, seval, tiAll, digS, ho, if_true, Int.toNat_natCast]; simp only [MAB, seval]; refine ⟨rfl, rfl, ?_, ?_, ?_⟩ <;> (first | rfl | (simp [WKB, Nat.add_comm, digS, ho, if_true, Int.toNat_natCast]; done) | (simp only [WKB, seval])))

set_option maxHeartbeats 2000000 in
theorem makeRunP_k (b : List UInt8) (hb : b.length ≤ 1048576) : FnOK Tryz.prog 13 ⟨1, [(0, some (.ro (b.map bytK)))], [.c (.sl 0 1 0 b.length)],
    .tup [.inr [.v (.int .i64 (mrG b (newC b)).N), .sl 1 3 0 ((mrG b (newC b)).Edges).length], .inr [.v (.int .i64 (mrR b (newC b)).Job.Prog), .v (.int .i64 (mrR b (newC b)).Job.Src), .v (.int .i64 (mrR b (newC b)).Iter), .v (.bool (mrR b (newC b)).Done), .sl 2 1 0 ((mrR b (newC b)).Vals).length, .sl 3 1 0 ((mrR b (newC b)).EVals).length, .v (.int .i64 (mrR b (newC b)).Next.N), .sl 4 1 0 ((mrR b (newC b)).Next.Bits).length]], [(1, some (.row 80 (((mrG b (newC b)).Edges).map EdgeD.k))), (2, some (.row 3 (((mrR b (newC b)).Vals).map intK))), (3, some (.row 3 (((mrR b (newC b)).EVals).map intK))), (4, some (.row 5 (((mrR b (newC b)).Next.Bits).map bytK)))], 5⟩ := by
  have k0 := l01New_k b hb
  have k1 := l11Draw_k b (newC b) hb (newC_le b)
  refine fnOK_of true mixed Tryz.func13 rfl (by rfl) (by rfl) ?_
  have hres := congrArg Array.toList Tryz.results13
  simp only [Tryz.ntmps13, BGB, seval]
  (have gx := true_and True; have q1 := k0; have q2 := k1; refine go ?_; (repeat' first | exact Ef.mk | apply Lf.mk | refine fun (K : KT) hK hE hT => ?_ | refine fun (KS : KE) hKS => ?_ | refine fun (D : KD) hD => ?_ | refine fun (hg : (_ : Prop)) => ?_ | fail); all_goals (first | (refine Wr.mk ?_; (try clear gx q1 q2); repeat first | clear hK hE hT K | clear hR hE hT K) | assumption | skip))
  (refine post_a hres (.inl rfl) ?_; simp only [RSB, ENB, seval, tiAll, true_and]; simp only [MAB, seval]; refine ⟨rfl, rfl, ?_, ?_, ?_⟩ <;> (first | rfl | (simp [WKB, Nat.add_comm, true_and]; done) | (simp only [WKB, seval])))

end Go.Proofs.YtfdhdkljpeohlaaGreatDoor

