/-
  The engine, texts SO4 SO6 SO7 in one. No conditions of its own.
-/
import Derived.Test.YtfdhdkljpeohlaaGreatMSA
import Derived.Test.YtfdhdkljpeohlaaGreatSy
import Derived.Deep.QuietTactic
import Derived.Test.YtfdhdkljpeohlaaGreatMG
namespace Go.Proofs.YtfdhdkljpeohlaaGreat
set_option linter.unusedSimpArgs false
set_option linter.unusedVariables false
set_option linter.unusedSimpArgs false
set_option linter.unusedVariables false
set_option linter.defProp false
open Go.Shelf Go.RowKit Go.Lib

noncomputable def locTi : TypeInfo := (Tryz.prog.info? 68).get (by kernel_rfl)
noncomputable def locEi : TypeInfo := (Tryz.prog.info? 114).get (by kernel_rfl)

theorem locK (n : Nat) (h2 : 2 ≤ n) : swapperK n locEi 25 = 9 := by
  have a : locEi.hasPointers = false := by kernel_rfl
  have b : locEi.bytes = 56 := by kernel_rfl
  have c : (n == 0) = false := by simp; omega
  have d : (n == 1) = false := by simp; omega
  simp [swapperK, a, b, c, d]

theorem locK1 (n : Nat) (h : n ≤ 1) : swapperK n locEi 25 = n + 1 := by
  rcases n with _ | _ | n
  · simp [swapperK]
  · simp [swapperK]
  · omega

theorem srtLoc : Srt Tryz.prog 68 114 7 where
  ti := ⟨locTi, by kernel_rfl, by kernel_rfl⟩
  un := ⟨_, Tryz.underlying68, fun m h => by cases h⟩
  pk := by kernel_rfl
  el := ⟨locEi, 25, 136, false, by kernel_rfl, fun _ => by kernel_rfl, by kernel_rfl, fun n h2 => by rw [locK n h2]; kernel_rfl,
    fun args W => run_callFunc_extern Tryz.func136 (by kernel_rfl) (by kernel_rfl) (by kernel_rfl) (e := Extern.ReflectliteSwapper.swap false) (by kernel_rfl) args W,
    fun n h1 => by
      rcases (show n = 0 ∨ n = 1 by omega) with rfl | rfl
      · exact ⟨128, by rw [locK1 0 (by omega)]; kernel_rfl⟩
      · exact ⟨129, by rw [locK1 1 (by omega)]; kernel_rfl⟩⟩
  agg := fun _ => by kernel_rfl

/-- The index of a place. -/
def lix (e : List DC) : Int := match (e[5]? : Option DC) with
  | some (.v (.int _ z)) => z
  | _ => 0

def lixP (e : List DC) : Prop := ∃ z : Int, e[5]? = some (.v (.int .i64 z))
def lixLt (x y : El 7 lixP) : Bool := decide (lix x.1 < lix y.1)

instance : Inhabited (El 7 lixP) := ⟨⟨List.replicate 7 (.v (.int .i64 0)), ⟨by simp, fun c hc => by rw [List.eq_of_mem_replicate hc]; exact ⟨_, rfl, rfl⟩⟩, 0, rfl⟩⟩

theorem lixSwo : Sort.SWO lixLt where
  irrefl x := by simp [lixLt]
  trans x y z h1 h2 := by simp [lixLt] at *; omega
  ntrans x y z h1 h2 := by simp [lixLt] at *; omega

theorem load_less_enters : ∀ args w, (callFunc 62 args).run Tryz.prog w = .ok (.enter 62 args) w := enters_of Tryz.func62 (by kernel_rfl) rfl

set_option maxHeartbeats 2000000 in
theorem load_less_at (blk c Bs size : Nat) (W : World) (G : Nat → Int) (hs : W.cell? ⟨Bs, 3, none⟩ = some (.slice (some ⟨blk, 0, none⟩) size c))
    (hc : ∀ t, t < size → W.cell? ⟨blk, t * 7 + 5, none⟩ = some (.int .i64 (G t))) (i j : Nat) (hi : i < size) (hj : j < size) (_hsz : size < 4611686018427387904) :
    Calls Tryz.prog 62 #[.int .i64 i, .int .i64 j, .pointer (some ⟨Bs, 0, none⟩)] W fun e w' => e = .returned (.bool (decide (G i < G j))) ∧ ∃ q, w' = W.drewN q := by
  have ci := hc i hi
  have cj := hc j hj
  go_enter Tryz.func62, Tryz.ntmps62
  go_wp2
  go_quiet (fail)
  go_wp2
  go_ret
  exact ⟨rfl, nq, rfl⟩

theorem load_less (blk Bs c n : Nat) (W : World) (dk : Array (El 7 lixP)) (hdk : dk.size = n) (hn : n < 4611686018427387904) (hs : W.cell? ⟨Bs, 3, none⟩ = some (.slice (some ⟨blk, 0, none⟩) n c)) (hH : Sort.HoldsK El.enc 7 W blk 0 dk) (i j : Nat) (hi : i < n) (hj : j < n) :
    Calls Tryz.prog 62 #[.int .i64 i, .int .i64 j, .pointer (some ⟨Bs, 0, none⟩)] W fun ex w' => ex = .returned (.bool (lixLt dk[i]! dk[j]!)) ∧ ∃ q, w' = W.drewN q := by
  refine load_less_at blk c Bs n W (fun t => lix dk[t]!.1) hs (fun t ht => ?_) i j hi hj hn
  have h1 := (hH.cell (i := t) (c := 5) (by omega) (by omega)).1
  rw [Nat.zero_add] at h1
  rw [h1]
  obtain ⟨z, hz⟩ := dk[t]!.2.2
  have h2 : 5 < (dk[t]!).enc.length := by rw [El.enc_len]; omega
  rw [getElem!_pos (dk[t]!).enc 5 h2]
  have h3 : (dk[t]!).enc[5]? = some (.int .i64 z) := by
    unfold El.enc
    rw [List.getElem?_map, hz]; rfl
  rw [List.getElem?_eq_getElem h2] at h3
  rw [Option.some.inj h3]
  simp [lix, hz]

end Go.Proofs.YtfdhdkljpeohlaaGreat

namespace Go.Proofs.YtfdhdkljpeohlaaGreat
set_option linter.unusedSimpArgs false
set_option linter.unusedVariables false
set_option linter.defProp false
open Go.RowKit

/-- Two lists of places, ascending by index, of which one permutes the other, are one where no index comes twice. -/
theorem locs_one : ∀ {l m : List LocD}, l.Perm m → l.Pairwise (fun a b => a.Edge.Index ≤ b.Edge.Index) → m.Pairwise (fun a b => a.Edge.Index ≤ b.Edge.Index) → (m.map (·.Edge.Index)).Nodup → l = m
  | [], m, h, _, _, _ => h.nil_eq
  | a :: l, [], h, _, _, _ => absurd h.length_eq (by simp)
  | a :: l, b :: m, h, h1, h2, h3 => by
    have ha : a ∈ b :: m := h.subset (.head _)
    have hb : b ∈ a :: l := h.symm.subset (.head _)
    have e : a = b := by
      rcases List.mem_cons.1 ha with rfl | ha
      · rfl
      rcases List.mem_cons.1 hb with rfl | hb
      · rfl
      have q1 := (List.pairwise_cons.1 h1).1 b hb
      have q2 := (List.pairwise_cons.1 h2).1 a ha
      simp only [List.map_cons, List.nodup_cons] at h3
      exact absurd (List.mem_map.2 ⟨a, ha, by omega⟩) h3.1
    subst e
    simp only [List.map_cons, List.nodup_cons] at h3
    rw [locs_one (List.perm_cons _ |>.1 h) (List.pairwise_cons.1 h1).2 (List.pairwise_cons.1 h2).2 h3.2]

def LocD.un (e : List DC) : LocD := match e with
  | [.v (.int _ a), .v (.int _ b), .v (.int _ c), .v (.int _ d), .v (.int _ x), .v (.int _ y), .v (.int _ z)] => ⟨a, b, ⟨c, d, x, y, z⟩⟩
  | _ => ⟨0, 0, ⟨0, 0, 0, 0, 0⟩⟩
theorem LocD.un_k (x : LocD) : LocD.un x.k = x := rfl

theorem perm_of_map {l : List (List DC)} {m : List LocD} (h : l.Perm (m.map LocD.k)) : (l.map LocD.un).Perm m ∧ l = (l.map LocD.un).map LocD.k := by
  constructor
  · have := h.map LocD.un
    rw [List.map_map] at this
    simpa [Function.comp_def, LocD.un_k] using this
  · rw [List.map_map]
    refine (List.map_id' l).symm.trans (List.map_congr_left fun e he => ?_)
    obtain ⟨x, _, rfl⟩ := List.mem_map.1 (h.subset he)
    rfl

theorem lixP_k (x : LocD) : lixP x.k := ⟨_, rfl⟩

/-- What the sort leaves is the sorted list. -/
theorem sorted_locs {d : Array (El 7 lixP)} {L S : List LocD} (h : (rowOf d).Perm (L.map LocD.k)) (hs : Go.Sort.SortedIn lixLt 0 L.length d) (hn : d.size = L.length) (hS : S.Perm L) (hSs : S.Pairwise (fun a b => a.Edge.Index ≤ b.Edge.Index)) (hd : (L.map (·.Edge.Index)).Nodup) :
    rowOf d = S.map LocD.k := by
  obtain ⟨h1, h2⟩ := perm_of_map h
  have hl : ((rowOf d).map LocD.un).length = d.size := by simp [rowOf]
  have hp : ((rowOf d).map LocD.un).Pairwise (fun a b => a.Edge.Index ≤ b.Edge.Index) := by
    rw [List.pairwise_iff_getElem]
    intro i j hi hj hij
    have hj' : j < d.size := by rw [← hl]; exact hj
    have q := hs i j (Nat.zero_le _) hij (by omega)
    have ex : ∀ t (ht : t < d.size) (ht2 : t < ((rowOf d).map LocD.un).length), lix d[t]!.1 = (((rowOf d).map LocD.un)[t]).Edge.Index := fun t ht ht2 => by
      have e0 : (rowOf d)[t]? = some d[t]!.1 := by simp [rowOf, ht]
      have e1 : ((rowOf d).map LocD.un)[t] = LocD.un d[t]!.1 := by
        have := List.getElem?_map (f := LocD.un) (l := rowOf d) (i := t)
        rw [e0, List.getElem?_eq_getElem ht2] at this
        exact Option.some.inj this
      obtain ⟨x, _, hx⟩ := List.mem_map.1 (h.subset (List.mem_of_getElem? e0))
      rw [e1, ← hx]; rfl
    have e1 := ex i (by omega) hi
    have e2 := ex j hj' hj
    simp only [lixLt, decide_eq_false_iff_not] at q
    omega
  rw [h2, locs_one (h1.trans hS.symm) hp hSs ((hS.map _).nodup_iff.2 hd)]

end Go.Proofs.YtfdhdkljpeohlaaGreat

namespace Go.Proofs.YtfdhdkljpeohlaaGreat
set_option linter.unusedSimpArgs false
set_option linter.unusedVariables false
set_option linter.defProp false
open Go.RowKit

/-- The sort of the places: whatever comes behind it is asked for the one sorted list. -/
theorem locs_tail {X : Ctx} {ops : Array Oper} {Q : Exit → Act → World → Prop} {K : List SV → Heap → Nat → Prop} {ds db d1 d2 gr gb Tb : Nat} {d3 : Option Tmp} {L S : List LocD} {cs : List CV} {sl : List SV} {H : Heap} {nx T : Nat} {a : Act} {w : World}
    {t1 t2 t3 : TypeId} {p1 p2 p3 : String} {a1 a2 a3 : Array Edge} {at3 : Array TypeId}
    (hmax : L.length < 4611686018427387904) (hs : Sat X sl H nx a w) (h1 : sl[ds]? = some (.c (.sl gr 7 0 L.length))) (h2 : hget H gr = some (.row T (L.map LocD.k)))
    (h3 : sl[db]? = some (.c (.ptr gb 0 0))) (h4 : hget H gb = some (.box Tb cs)) (h5 : cs[3]? = some (.sl gr 7 0 L.length)) (hne : gb ≠ gr) (hdd : d1 ≠ d2) (hbd : db ≠ d1) (hl1 : d1 < sl.length) (hl2 : d2 < sl.length)
    (hS : S.Perm L) (hSs : S.Pairwise (fun a b => a.Edge.Index ≤ b.Edge.Index)) (hd : (L.map (·.Edge.Index)).Nodup)
    (hQ : K (putS ((sl.set d1 .any).set d2 .any) d3 (.tup [])) (hput H gr (some (.row T (S.map LocD.k)))) nx)
    (hK : ∀ sl H nx a w, K sl H nx → Sat X sl H nx a w → Q .normal a w) :
    wpList Tryz.prog ops Q [⟨some d1, .makeInterface 68 (.tmp ds), t1, p1, a1, none⟩, ⟨some d2, .makeFunc (.func 62) #[] #[.tmp db], t2, p2, a2, none⟩, ⟨d3, .call ⟨.value (.func 61), #[.tmp d1, .tmp d2], at3⟩, t3, p3, a3, none⟩] a w := by
  refine sort_tail (p := lixP) (lt := lixLt) sortLays srtLoc (by omega) lixSwo rfl ⟨_, Tryz.func61, by kernel_rfl, by kernel_rfl⟩ load_less_enters hmax hs h1 h2 (by simp) (fun x hx => ?_) h3 h4 h5 hne hdd hbd hl1 hl2 (fun blk Bs c W dk hdk hn hs hH i j hi hj => load_less blk Bs c _ W dk hdk hn hs hH i j hi hj) ?_ hK
  · obtain ⟨y, _, rfl⟩ := List.mem_map.1 hx
    exact lixP_k y
  · intro d' hp hso hn
    rw [sorted_locs hp hso hn hS hSs hd]
    exact hQ

end Go.Proofs.YtfdhdkljpeohlaaGreat

