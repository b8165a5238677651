/-
  Texts PK1 PK2 in one. No conditions of its own.
-/
import Derived.Test.YtfdhdkljpeohlaaGreatDoorZz6
namespace Go.Proofs.YtfdhdkljpeohlaaGreatDoor
set_option linter.unusedSimpArgs false
set_option linter.unusedVariables false
set_option linter.unusedSimpArgs false
set_option linter.unusedVariables false
set_option linter.defProp false
set_option maxRecDepth 20000
open Go.RowKit

theorem varB_w : ∀ (n : Nat), digW (varB n) ∧ digV (varB n) = n := by
  intro n
  induction n using Nat.strongRecOn with
  | _ n ih =>
    by_cases h : n < 128
    · rw [varB_lt h]
      have e : (UInt8.ofNat n).toNat = n := by rw [UInt8.toNat_ofNat']; omega
      refine ⟨?_, ?_⟩
      · show (UInt8.ofNat n).toNat < 128
        omega
      · simp only [digV, e]; omega
    · rw [varB_ge h]
      obtain ⟨h1, h2⟩ := ih (n / 128) (by omega)
      have e : (UInt8.ofNat (n % 128 + 128)).toNat = n % 128 + 128 := by rw [UInt8.toNat_ofNat']; omega
      cases hv : varB (n / 128) with
      | nil => rw [hv] at h1; exact h1.elim
      | cons y l =>
        rw [hv] at h1 h2
        refine ⟨⟨by omega, h1⟩, ?_⟩
        rw [digV, e, h2]; omega
theorem digW_hi : ∀ {l : List UInt8}, digW l → (∀ i, i + 1 < l.length → 128 ≤ (l.getD i 0).toNat) ∧ (l.getD (l.length - 1) 0).toNat < 128
  | [x], h => ⟨fun i hi => by simp at hi, h⟩
  | x :: y :: l, h => by
    obtain ⟨h1, h2⟩ := digW_hi (l := y :: l) h.2
    refine ⟨fun i hi => ?_, ?_⟩
    · cases i with
      | zero => exact h.1
      | succ i => exact h1 i (by simpa using hi)
    · exact h2
theorem AtB.split {b : List UInt8} {p r : Nat} {l m : List UInt8} (h : AtB b p r (l ++ m)) : AtB b p (p + l.length) l ∧ AtB b (p + l.length) r m := by
  obtain ⟨h1, h2, h3⟩ := h
  have hl := congrArg List.length h3
  rw [List.length_take, List.length_drop, List.length_append] at hl
  have e1 : r - p = l.length + m.length := by omega
  rw [e1, List.take_add] at h3
  have h4 := List.append_inj h3 (by rw [List.length_take, List.length_drop]; omega)
  refine ⟨⟨by omega, by omega, ?_⟩, ⟨by omega, h2, ?_⟩⟩
  · rw [show p + l.length - p = l.length by omega]; exact h4.1
  · rw [show r - (p + l.length) = m.length by omega, ← List.drop_drop]; exact h4.2
theorem gv_at {b : List UInt8} {p q n : Nat} (hn : n ≤ 281474976710655) (h : AtB b p q (varB n)) : gvO b p = some (n, q - p) := by
  obtain ⟨h1, h2, h3⟩ := h
  obtain ⟨w1, w2⟩ := varB_w n
  obtain ⟨w3, w4⟩ := digW_hi w1
  have h7 := varB_len7 hn
  have hl := congrArg List.length h3
  rw [List.length_take, List.length_drop] at hl
  have hne : varB n ≠ [] := varB_ne n
  have h0 : 0 < (varB n).length := List.length_pos_iff.2 hne
  obtain ⟨k, hk⟩ : ∃ k, (varB n).length = k + 1 := ⟨(varB n).length - 1, by omega⟩
  have hq : q - p = k + 1 := by omega
  rw [hk] at w3 w4
  rw [hq] at h3 ⊢
  have hlt : p + k < b.length := by omega
  have hg : ∀ i, i ≤ k → (varB n).getD i 0 = (b.drop p).getD i 0 := fun i hi => by
    rw [← h3, take_getD hlt hi, drop_getD (by omega)]
  have hhi : hiTo b p k := fun i hi => by rw [← hg i (by omega)]; exact w3 i (by omega)
  have hlow : b[p + k].toNat < 128 := by
    have := hg k (Nat.le_refl _)
    rw [drop_getD hlt] at this
    rw [← this]; exact w4
  have hd : dig b p (k + 1) = n := by unfold dig; rw [h3]; exact w2
  have e := gvO_end (b := b) (p := p) (k := k) (by omega) (by omega) hlt hhi hlow
  have hc := (canon_iff hlt hhi hlow).1 (by rw [hd, h3])
  rw [hd, if_neg (by rintro (⟨a, c⟩ | a) <;> omega)] at e
  exact e
theorem num_at {b : List UInt8} {p q n : Nat} {o : Bool} (hn : n ≤ 281474976710655) (h : AtB b p q (varB n)) : numS b ⟨p, o⟩ = ⟨q, o⟩ ∧ gvN b p = n := by
  obtain ⟨e1, e2, e3⟩ := gv_some (gv_at hn h)
  refine ⟨?_, e1⟩
  have := h.1
  unfold numS
  rw [e3, e2]
  show (⟨((p + (q - p) : Nat) : Int).toNat, o⟩ : RdS) = ⟨q, o⟩
  congr 1
  omega
theorem uz_of (n : Int) : uz ((zigN n : Nat) : Int) = n := by
  rcases Int.lt_or_le n 0 with h | h
  · rw [zigN_n h]; unfold uz; rw [if_neg (by omega)]; omega
  · rw [zigN_y h]; unfold uz; rw [if_pos (by omega)]; omega

theorem eg_at {b : List UInt8} {z y : SEdgeD} {p q : Nat} (hz : Stp z y) (h : AtB b p q (sEB z y)) : egI b z ⟨p, true⟩ = (skE y, ⟨q, true⟩) := by
  obtain ⟨h1, h2, h3, h4⟩ := hz
  unfold sEB at h
  obtain ⟨h, a4⟩ := h.split
  obtain ⟨h, a3⟩ := h.split
  obtain ⟨a1, a2⟩ := h.split
  have z1 := zigN_le (n := y.To - z.To) (b := 150) (by omega)
  have z2 := zigN_le (n := y.Index - z.Index) (b := 400) (by omega)
  obtain ⟨c1, d1⟩ := num_at (o := true) (by omega) a1
  obtain ⟨c2, d2⟩ := num_at (o := true) (by omega) a2
  obtain ⟨c3, d3⟩ := num_at (o := true) (by omega) a3
  obtain ⟨c4, d4⟩ := num_at (o := true) (by omega) a4
  simp only [List.length_append, ← Nat.add_assoc] at c1 c2 c3 c4 d1 d2 d3 d4
  unfold egI
  rw [c1, c2, c3, c4]
  dsimp only
  rw [d1, d2, d3, d4, uz_of, uz_of]
  unfold skE
  congr 2 <;> omega

/-- Each edge may stand behind the one before it. -/
def chS : SEdgeD → List SEdgeD → Prop
  | _, [] => True
  | z, y :: l => Stp z y ∧ chS y l
theorem chS_of : ∀ {l : List SEdgeD} {z : SEdgeD}, (∀ k (hk : k < l.length), Stp (lastAt z l k) l[k]) → chS z l
  | [], _, _ => trivial
  | y :: l, z, h => ⟨h 0 (by simp), chS_of fun k hk => by
      have e : lastAt y l k = lastAt z (y :: l) (k + 1) := by
        rw [lastAt_succ (by simp; omega)]
        cases k with
        | zero => rfl
        | succ k => rw [lastAt_succ (by omega)]; rfl
      rw [e]
      exact h (k + 1) (by simp; omega)⟩
theorem shGo_at {b : List UInt8} : ∀ {l acc : List SEdgeD} {z z' : SEdgeD} {p q : Nat}, chS z l → skE z = skE z' → AtB b p q (edB z l) → shGo b l.length acc z' ⟨p, true⟩ = (acc ++ l.map skE, ⟨q, true⟩)
  | [], acc, z, z', p, q, _, _, h => by
    have hl := congrArg List.length h.2.2
    have h1 := h.1
    have h2 := h.2.1
    simp only [edB, List.length_take, List.length_drop, List.length_nil] at hl
    obtain rfl : q = p := by omega
    simp [shGo]
  | y :: l, acc, z, z', p, q, hc, hz, h => by
    obtain ⟨a1, a2⟩ := h.split
    obtain ⟨f1, f2, f3, f4⟩ := skE_out hz
    have hs : Stp z' y := by
      obtain ⟨h1, h2, h3, h4⟩ := hc.1
      exact ⟨by omega, by omega, by omega, by omega⟩
    have a1' : AtB b p (p + (sEB z y).length) (sEB z' y) := by
      have : sEB z' y = sEB z y := by unfold sEB; rw [f1, f2, f4]
      rw [this]; exact a1
    have e := eg_at hs a1'
    rw [List.length_cons, shGo_step rfl, e]
    dsimp only
    rw [shGo_at (z := y) hc.2 (by rfl) a2]
    simp

theorem si_at {b : List UInt8} {s : ShardD} {p q : Nat} (hs : ShOk s) (h : AtB b p q (shB s)) : siD b ⟨p, true⟩ = skS s ∧ siS b ⟨p, true⟩ = ⟨q, true⟩ := by
  have hh := hs.1
  unfold shHead at hh
  unfold shB shH at h
  obtain ⟨h, a4⟩ := h.split
  obtain ⟨h, a3⟩ := h.split
  obtain ⟨a1, a2⟩ := h.split
  obtain ⟨c1, d1⟩ := num_at (o := true) (by omega) a1
  obtain ⟨c2, d2⟩ := num_at (o := true) (by omega) a2
  obtain ⟨c3, d3⟩ := num_at (o := true) (by omega) a3
  simp only [List.length_append, ← Nat.add_assoc] at c1 c2 c3 d1 d2 d3 a4
  have eN : siN b ⟨p, true⟩ = s.Edges.length := by unfold siN; rw [c1, c2, d3]; rfl
  have eT : siT b ⟨p, true⟩ = ⟨p + (varB s.Lo.toNat).length + (varB s.Hi.toNat).length + (varB s.Edges.length).length, true⟩ := by
    unfold siT; rw [eN, if_neg (by omega), c1, c2, c3]
  have eR : siR b ⟨p, true⟩ = (s.Edges.map skE, ⟨q, true⟩) := by
    unfold siR
    rw [eN, eT]
    dsimp only
    rw [d1, show (⟨0, ((s.Lo.toNat : Nat) : Int), 0, 0, 0⟩ : SEdgeD) = s0 s by unfold s0; congr 1; omega]
    have := shGo_at (acc := []) (chS_of fun k hk => stp_of hs hk) rfl a4
    rw [this, List.nil_append]
  have eD : siD b ⟨p, true⟩ = skS s := by
    unfold siD skS
    rw [c1, eR]
    dsimp only
    rw [d1, d2]
    congr 1 <;> omega
  refine ⟨eD, ?_⟩
  have hok : ShOk (skS s) := sk_sh (s := skS s) (t := s) (by unfold skS; simp only [List.map_map]; congr 1) hs fun e he => by
    unfold skS at he
    obtain ⟨y, _, rfl⟩ := List.mem_map.1 he
    show 0 ≤ (0 : Int) ∧ (0 : Int) ≤ 1099511627776
    omega
  unfold siS
  rw [eD, eR, pB_t hok]
  rfl
theorem skS_idem (s : ShardD) : skS (skS s) = skS s := by unfold skS; simp only [List.map_map]; congr 1
theorem fgGo_at {b : List UInt8} : ∀ {l acc : List ShardD} {p q : Nat}, (∀ s ∈ l, ShOk s) → AtB b p q (l.flatMap shB) → fgGo b l.length acc ⟨p, true⟩ = (acc ++ l.map skS, ⟨q, true⟩)
  | [], acc, p, q, _, h => by
    have hl := congrArg List.length h.2.2
    have h1 := h.1
    have h2 := h.2.1
    simp only [List.flatMap_nil, List.length_take, List.length_drop, List.length_nil] at hl
    obtain rfl : q = p := by omega
    simp [fgGo]
  | s :: l, acc, p, q, hs, h => by
    rw [List.flatMap_cons] at h
    obtain ⟨a1, a2⟩ := h.split
    obtain ⟨e1, e2⟩ := si_at (hs s (by simp)) a1
    rw [List.length_cons, fgGo_step rfl, e1, e2, fgGo_at (fun t ht => hs t (by simp [ht])) a2]
    simp

/-- A frame written is read again. -/
theorem fb_read {k : Nat} {d : List UInt8} (hk : 1 ≤ k ∧ k ≤ 3) (hd : d.length ≤ 60000) : foB (fbL k d) k = true ∧ foD (fbL k d) k = d := by
  have hlen := fbL_len k d
  have e : fbL k d = 71 :: UInt8.ofNat k :: (fixB d.length ++ (fixB (crcN (hdB k d)) ++ (fixB (crcN d) ++ d))) := by
    unfold fbL h3B h2B
    rw [List.append_assoc, List.append_assoc]
    show hdB k d ++ _ = _
    conv => lhs; arg 1; unfold hdB
    rw [List.append_assoc]
    rfl
  have f2 : gf (fbL k d) 2 6 = d.length := by
    unfold gf
    rw [e, List.drop_succ_cons, List.drop_succ_cons, List.drop_zero, List.take_left' (fixB_len _), getB_fixB (by omega)]
  have h8 : (fbL k d).take 8 = hdB k d := by
    unfold fbL h3B h2B
    rw [List.append_assoc, List.append_assoc, List.take_left' (hdB_len k d)]
  have f8 : gf (fbL k d) 8 6 = crcN (hdB k d) := by
    unfold gf fbL h3B h2B
    rw [List.append_assoc, List.append_assoc, List.drop_left' (hdB_len k d), List.take_left' (fixB_len _), getB_fixB (by have := crcN_max (hdB k d); omega)]
  have f14 : gf (fbL k d) 14 6 = crcN d := by
    unfold gf fbL h3B
    rw [List.append_assoc, List.drop_left' (h2B_len k d), List.take_left' (fixB_len _), getB_fixB (by have := crcN_max d; omega)]
  have fk : fkN (fbL k d) = k := by
    unfold fkN; rw [e]
    show (UInt8.ofNat k).toNat = k
    rw [UInt8.toNat_ofNat']; omega
  have fn : fnN (fbL k d) = d.length := f2
  have f20 : fdL (fbL k d) = d := by
    unfold fdL
    rw [fn]
    unfold fbL
    rw [List.drop_left' (h3B_len k d), List.take_length]
  have h3 : fOk3 (fbL k d) := by
    refine ⟨by rw [e]; rfl, by rw [fk]; exact hk, by rw [fn]; exact hd, by rw [f8, h8]⟩
  have hc : frC (fbL k d) = 0 := by
    unfold frC
    rw [if_neg (by omega), if_neg (not_not_intro h3), if_neg (by omega), if_neg (by rw [f14, f20]; simp)]
  obtain ⟨g1, g2, g3⟩ := fr_some hc
  have hB : foB (fbL k d) k = true := by
    unfold foB
    rw [decide_eq_true_eq, g1, g2, fk, fn, hlen]
    exact ⟨hc, rfl, rfl⟩
  refine ⟨hB, ?_⟩
  unfold foD
  rw [hB, if_pos rfl, g3, f20]

theorem hiE_sk {f : FarmD} (h : FarmOk f) : hiE (f.Shards.map skS) = f.Ends := by
  obtain ⟨_, h2, h3, _⟩ := h
  unfold hiE
  rw [List.map_map]
  refine List.ext_getElem (by rw [List.length_map]; exact h2) fun i h4 h5 => ?_
  rw [List.getElem_map]
  have hi : i < f.Shards.length := by omega
  show f.Shards[i].Hi = f.Ends[i]
  exact (h3 i hi hi).2.1 h5
/-- A farm written is read again, but for its values. -/
theorem gr_at {f : FarmD} (hf : FarmOk f) : grB (gfR f) = true ∧ grR (gfR f) = ⟨f.N, f.Ends, f.Shards.map skS⟩ ∧ gfB f = true ∧ gfR f = fbL 1 (gfD f) ∧ (gfD f).length ≤ 20000 := by
  have g := gf_ok hf
  have gx := gfT_max g (Nat.le_refl _)
  change (gfD f).length ≤ _ at gx
  obtain ⟨y1, y2⟩ := gf_yes hf
  have hfr : frO 1 (gfD f) = true := by unfold frO; rw [decide_eq_true_eq]; omega
  have e1 : gfR f = fbL 1 (gfD f) := by rw [y2]; unfold fbR; rw [show ((1 : Nat) : Int) = 1 from rfl, hfr]; rfl
  obtain ⟨b1, b2⟩ := fb_read (k := 1) (d := gfD f) (by omega) (by omega)
  have hA : AtB (gfD f) 0 (gfD f).length (varB f.N.toNat ++ varB f.Ends.length ++ f.Shards.flatMap shB) := by
    refine ⟨Nat.zero_le _, Nat.le_refl _, ?_⟩
    rw [Nat.sub_zero, List.drop_zero, List.take_length]
    unfold gfD gfT
    rw [List.take_length]
  obtain ⟨h12, a3⟩ := hA.split
  obtain ⟨a1, a2⟩ := h12.split
  have gn := g.n
  have ge := g.e
  have gl := g.l
  obtain ⟨c1, d1⟩ := num_at (o := true) (by omega) a1
  obtain ⟨c2, d2⟩ := num_at (o := true) (by omega) a2
  simp only [List.length_append, ← Nat.add_assoc] at c1 c2 d1 d2 a3
  have eN : giN (gfD f) ⟨0, true⟩ = f.Shards.length := by unfold giN; rw [c1, d2]; rw [hf.2.1]; rfl
  have eR : giR (gfD f) ⟨0, true⟩ = (f.Shards.map skS, ⟨(gfD f).length, true⟩) := by
    unfold giR
    rw [eN, c1, c2, fgGo_at (acc := []) (fun s hs => ?_) a3, List.nil_append]
    obtain ⟨i, hi, rfl⟩ := List.mem_iff_getElem.1 hs
    exact g.s i hi
  have eF : giF (gfD f) ⟨0, true⟩ = ⟨f.N, f.Ends, f.Shards.map skS⟩ := by
    unfold giF
    rw [eR]
    dsimp only
    rw [d1, hiE_sk hf]
    congr 1
    omega
  have hok : FarmOk ⟨f.N, f.Ends, f.Shards.map skS⟩ := farm_sk hf (by rw [List.map_map]; exact List.map_congr_left fun s _ => skS_idem s) fun s hs e he => by
    obtain ⟨t, _, rfl⟩ := List.mem_map.1 hs
    unfold skS at he
    obtain ⟨y, _, rfl⟩ := List.mem_map.1 he
    show 0 ≤ (0 : Int) ∧ (0 : Int) ≤ 1099511627776
    omega
  have hp : grP (fbL 1 (gfD f)) := by
    unfold grP
    rw [show ((1 : Nat) : Int) = 1 from rfl] at b1 b2
    rw [b1, b2, eR, eF]
    exact ⟨rfl, rfl, hok⟩
  obtain ⟨z1, z2⟩ := gr_yes hp
  rw [show ((1 : Nat) : Int) = 1 from rfl] at b1 b2
  rw [b1, b2, eF] at z2
  rw [e1]
  exact ⟨z1, z2, by rw [y1]; exact hfr, rfl, gx⟩

theorem gf_hd (b c : List UInt8) (h : b.take 8 = c.take 8) : gf b 2 6 = gf c 2 6 := by
  unfold gf
  have e : ∀ l : List UInt8, (l.drop 2).take 6 = (l.take 8).drop 2 := fun l => by rw [List.drop_take]
  rw [e, e, h]
/-- A byte more or less is no file. -/
theorem gr_not {d c : List UInt8} (h8 : c.take 8 = (fbL 1 d).take 8) (hd : d.length ≤ 60000) (hl : c.length ≠ 20 + d.length) : grB c = false := by
  refine (gr_no (gr_bad ?_)).1
  cases hb : foB c 1 with
  | false => rfl
  | true =>
    exfalso
    unfold foB at hb
    rw [decide_eq_true_eq] at hb
    obtain ⟨q1, q2, _⟩ := hb
    obtain ⟨_, g2, _⟩ := fr_some q1
    rw [g2] at q2
    have e : fnN c = d.length := by
      unfold fnN
      rw [gf_hd _ _ h8]
      unfold gf fbL h3B h2B hdB
      rw [List.append_assoc, List.append_assoc, List.append_assoc]
      rw [List.drop_left' (by rfl), List.take_left' (fixB_len _), getB_fixB (by omega)]
    omega

end Go.Proofs.YtfdhdkljpeohlaaGreatDoor


namespace Go.Proofs.YtfdhdkljpeohlaaGreatDoor
set_option linter.unusedSimpArgs false
set_option linter.unusedVariables false
set_option linter.unusedSimpArgs false
set_option linter.unusedVariables false
set_option linter.defProp false
set_option maxRecDepth 20000
open Go.RowKit

theorem lsGo_at {b : List UInt8} : ∀ {l acc : List Int} {p q : Nat}, l.all pvO = true → AtB b p q (l.flatMap fun n => fixB n.toNat) → lsGo b l.length acc ⟨p, true⟩ = (acc ++ l, ⟨q, true⟩)
  | [], acc, p, q, _, h => by
    have hl := congrArg List.length h.2.2
    have h1 := h.1
    have h2 := h.2.1
    simp only [List.flatMap_nil, List.length_take, List.length_drop, List.length_nil] at hl
    obtain rfl : q = p := by omega
    simp [lsGo]
  | x :: l, acc, p, q, ho, h => by
    rw [List.flatMap_cons] at h
    simp only [List.all_cons, Bool.and_eq_true] at ho
    obtain ⟨hx, ho⟩ := ho
    unfold pvO at hx
    rw [decide_eq_true_eq] at hx
    obtain ⟨a1, a2⟩ := h.split
    rw [fixB_len] at a1 a2
    have h6 : p + 6 ≤ b.length := a1.2.1
    have e1 : fixV b ⟨p, true⟩ = x := by
      unfold fixV
      rw [if_pos h6]
      have := a1.2.2
      rw [show p + 6 - p = 6 by omega] at this
      unfold gf
      rw [this, getB_fixB (by omega)]
      omega
    have e2 : fixS b ⟨p, true⟩ = ⟨p + 6, true⟩ := by unfold fixS; rw [if_pos h6]
    rw [List.length_cons, lsGo_step rfl, e1, e2, lsGo_at ho a2]
    simp
theorem ls_at {b : List UInt8} {l : List Int} {p q : Nat} (ho : lbO l = true) (h : AtB b p q (lbL l)) : lsR b ⟨p, true⟩ = (l, ⟨q, true⟩) := by
  have hl := lbO_len ho
  unfold lbO at ho
  rw [Bool.and_eq_true] at ho
  unfold lbL lbT at h
  rw [List.take_length] at h
  obtain ⟨a1, a2⟩ := h.split
  obtain ⟨c1, d1⟩ := num_at (o := true) (by omega) a1
  have eN : lsN b ⟨p, true⟩ = l.length := by unfold lsN; rw [d1]; rfl
  have eI : lsI b ⟨p, true⟩ = ⟨p + (varB l.length).length, true⟩ := by unfold lsI; rw [eN, if_neg (by omega), c1]
  unfold lsR
  rw [eN, eI, lsGo_at ho.2 a2, List.nil_append]

theorem vfD_len {v : ValuesD} (h : vfO v) : (vfD v).length ≤ 60000 := by
  obtain ⟨y, _⟩ := vf_nats h
  obtain ⟨_, _, _, _, h5, h6⟩ := h
  have l1 := lbL_len h5
  have l2 := lbL_len h6
  have w1 := varB_len7 (n := v.Job.Prog.toNat) (by have := y.hp; have := y.bp; omega)
  have w2 := varB_len7 (n := v.Job.Src.toNat) (by have := y.hs; have := y.bs; omega)
  have w3 := varB_len7 (n := v.Iter.toNat) (by have := y.hi; have := y.bi; omega)
  have w4 := varB_len7 (n := v.Next.N.toNat) (by have := y.hn; have := y.bn; omega)
  have := y.bb
  unfold vfD vf1 vf0
  simp only [List.length_append]
  omega

/-- A file of values written is read again. -/
theorem vr_at {v : ValuesD} (h : vfO v) : vrB (vfR v) = true ∧ vrR (vfR v) = v ∧ vfB v = true ∧ (vfR v).length ≤ 60020 := by
  have hlen := vfD_len h
  have hfr : frO 2 (vfD v) = true := by unfold frO; rw [decide_eq_true_eq]; omega
  obtain ⟨y1, y2⟩ := vf_yes h
  have e1 : vfR v = fbL 2 (vfD v) := by rw [y1]; unfold fbR; rw [show ((2 : Nat) : Int) = 2 from rfl, hfr]; rfl
  obtain ⟨b1, b2⟩ := fb_read (k := 2) (d := vfD v) (by omega) hlen
  rw [show ((2 : Nat) : Int) = 2 from rfl] at b1 b2
  have hB : vfB v = true := by rw [y2]; exact hfr
  obtain ⟨y, _⟩ := vf_nats h
  obtain ⟨_, _, _, _, h5, h6⟩ := id h
  have hA : AtB (vfD v) 0 (vfD v).length (varB v.Job.Prog.toNat ++ varB v.Job.Src.toNat ++ varB v.Iter.toNat ++ lbL v.Vals ++ lbL v.EVals ++ varB v.Next.N.toNat ++ v.Next.Bits) := by
    refine ⟨Nat.zero_le _, Nat.le_refl _, ?_⟩
    rw [Nat.sub_zero, List.drop_zero, List.take_length]
    rfl
  obtain ⟨hA, a7⟩ := hA.split
  obtain ⟨hA, a6⟩ := hA.split
  obtain ⟨hA, a5⟩ := hA.split
  obtain ⟨hA, a4⟩ := hA.split
  obtain ⟨hA, a3⟩ := hA.split
  obtain ⟨a1, a2⟩ := hA.split
  have n1 := y.hp; have n2 := y.hs; have n3 := y.hi; have n4 := y.hn
  have m1 := y.bp; have m2 := y.bs; have m3 := y.bi; have m4 := y.bn
  obtain ⟨c1, d1⟩ := num_at (o := true) (by omega) a1
  obtain ⟨c2, d2⟩ := num_at (o := true) (by omega) a2
  obtain ⟨c3, d3⟩ := num_at (o := true) (by omega) a3
  have c4 := ls_at h5 a4
  have c5 := ls_at h6 a5
  obtain ⟨c6, d6⟩ := num_at (o := true) (by omega) a6
  simp only [List.length_append, ← Nat.add_assoc, Nat.zero_add] at c1 c2 c3 c4 c5 c6 d1 d2 d3 d6 a7
  have hend : (vfD v).drop (0 + (varB v.Job.Prog.toNat).length + (varB v.Job.Src.toNat).length + (varB v.Iter.toNat).length + (lbL v.Vals).length + (lbL v.EVals).length + (varB v.Next.N.toNat).length) = v.Next.Bits := by
    obtain ⟨z1, z2, z3⟩ := a7
    rw [List.take_of_length_le (by rw [List.length_drop]; exact Nat.le_refl _)] at z3
    rw [Nat.zero_add]
    exact z3
  rw [Nat.zero_add] at hend
  have s1 : vrS (vfD v) true 1 = numS (vfD v) ⟨0, true⟩ := rfl
  have s2 : vrS (vfD v) true 2 = numS (vfD v) (vrS (vfD v) true 1) := rfl
  have s3 : vrS (vfD v) true 3 = numS (vfD v) (vrS (vfD v) true 2) := rfl
  have s4 : vrS (vfD v) true 4 = (lsR (vfD v) (vrS (vfD v) true 3)).2 := rfl
  have s5 : vrS (vfD v) true 5 = (lsR (vfD v) (vrS (vfD v) true 4)).2 := rfl
  have s6 : vrS (vfD v) true 6 = numS (vfD v) (vrS (vfD v) true 5) := rfl
  rw [c1] at s1
  rw [s1, c2] at s2
  rw [s2, c3] at s3
  rw [s3, c4] at s4
  rw [s4, c5] at s5
  rw [s5, c6] at s6
  have eV : vrV (vfD v) true = v := by
    obtain ⟨⟨vp, vs⟩, vi, va, ve, ⟨vn, vb⟩⟩ := v
    dsimp only at *
    unfold vrV
    rw [s1, s2, s3, s4, s5, s6, c4, c5]
    dsimp only
    rw [d2, d3, d6, hend]
    have d0 : gvN (vfD ⟨⟨vp, vs⟩, vi, va, ve, ⟨vn, vb⟩⟩) (vrS (vfD ⟨⟨vp, vs⟩, vi, va, ve, ⟨vn, vb⟩⟩) true 0).p = (vp.toNat : Int) := d1
    rw [d0]
    congr 2 <;> first | omega | (congr 1; omega)
  have hC : vrC (vfR v) = true := by
    unfold vrC
    rw [e1, b1, b2, s6]
  have hvB : vrB (vfR v) = true := by
    have : vrB (vfR v) = (vrC (vfR v) && (vfB v && decide (vfR v = vfR v))) := by
      unfold vrB
      have e : foB (vfR v) 2 = true := by rw [e1]; exact b1
      have e' : foD (vfR v) 2 = vfD v := by rw [e1]; exact b2
      rw [e, e', eV]
    rw [this, hC, hB]
    simp
  refine ⟨hvB, ?_, hB, by rw [e1, fbL_len]; omega⟩
  rw [vr_yes hvB]
  have e : foB (vfR v) 2 = true := by rw [e1]; exact b1
  have e' : foD (vfR v) 2 = vfD v := by rw [e1]; exact b2
  rw [e, e', eV]

end Go.Proofs.YtfdhdkljpeohlaaGreatDoor

