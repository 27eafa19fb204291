/- The laws on drawn drives in plain lists: FnTop, FnBack, FnFlip, FnParts. No program in sight, no conditions. -/
import Derived.Test.YtckcffjnffcjcaaDrvLaws
import Derived.Test.YtckcffjnffcjcaaFlipLaw
import Derived.Test.YtckcffjnffcjcaaGen0
import Derived.Test.YtckcffjnffcjcaaParts
import Derived.Test.YtckcffjnffcjcaaDr6
import Derived.Test.YtckcffjnffcjcaaTouch1
set_option linter.unusedVariables false
set_option linter.unusedSimpArgs false
namespace Go.Proofs.Ytckcffjnffcjcaa
open Go.RowKit Go.Proofs.YtckcffjnffcjcaaW.PrintWords
/-- A byte of a row, counted on around its end. -/
def byteV (code : List Int) (i : Nat) : Int := if code.length = 0 then 0 else code.getD (i % code.length) 0
def wholeV (code : List Int) (i : Nat) : Int := (byteV code i + 256 * byteV code (i + 1)) % (1 + 40 * byteV code (i + 2))
theorem byteV_bd {code : List Int} (h : GCode code) (i : Nat) : 0 ≤ byteV code i ∧ byteV code i ≤ 255 := by
  unfold byteV
  split
  · omega
  · rename_i hn
    have hk : i % code.length < code.length := Nat.mod_lt _ (by omega)
    have e : code.getD (i % code.length) 0 = code[i % code.length] := by rw [List.getD_eq_getElem?_getD, List.getElem?_eq_getElem hk]; rfl
    rw [e]
    exact h _ (List.getElem_mem hk)
theorem wholeV_bd {code : List Int} (h : GCode code) (i : Nat) : 0 ≤ wholeV code i ∧ wholeV code i ≤ 10200 := by
  have a := byteV_bd h (i + 2)
  unfold wholeV
  have b := Int.emod_nonneg (byteV code i + 256 * byteV code (i + 1)) (b := 1 + 40 * byteV code (i + 2)) (by omega)
  have c := Int.emod_lt_of_pos (byteV code i + 256 * byteV code (i + 1)) (b := 1 + 40 * byteV code (i + 2)) (by omega)
  omega
section
variable {n : NetT} {lies : List Int} {s : SpotT}
theorem goB_mk (hg : netGood n = true) (hl : liesB n lies = true) (hs : spotB n s = true) {a : Int} (h0 : 0 ≤ a) (h1 : a ≤ 1000000) : goB n lies s a = true := by
  unfold goB
  rw [hg, hl, hs]
  simp [h0, h1, inB]
theorem driveR_is (hg : netGood n = true) (hl : liesB n lies = true) (hs : spotB n s = true) {a : Int} (h0 : 0 ≤ a) (h1 : a ≤ 1000000) : driveR n lies s a = drv n lies 1000 s a := driveR_good (goB_mk hg hl hs h0 h1)
theorem told_parts {d e : DrvT} (h : d.told = e.told) : d.code = e.code ∧ d.far = e.far ∧ d.joint = e.joint ∧ d.spot = e.spot := by
  unfold DrvT.told at h
  simp only [Prod.mk.injEq] at h
  exact h
theorem overL_lt (e : EndT) : (overL n lies e).1 < 4 := by
  unfold overL
  repeat' split
  all_goals (simp only; omega)
theorem drv_not4 : ∀ (k : Nat) (s : SpotT) (a : Int), (drv n lies k s a).code ≠ 4
  | k, s, a => by
    cases hst : stopAt n lies s a with
    | some cj =>
      obtain ⟨c, j⟩ := cj
      rw [drv_stop hst]
      simp only
      unfold stopAt at hst
      have := overL_lt (n := n) (lies := lies) (headE s)
      split at hst
      · simp only [Option.some.injEq, Prod.mk.injEq] at hst; omega
      · split at hst
        · simp only [Option.some.injEq, Prod.mk.injEq] at hst; omega
        · cases hst
    | none =>
      cases k with
      | zero => rw [drv_full hst]; simp
      | succ k => rw [drv_on hst]; exact drv_not4 k _ _
/-- FnTop: a drive that ends early ends as early when it is asked to go farther. -/
theorem top_stop (hg : netGood n = true) (hl : liesB n lies = true) (hs : spotB n s = true) {a b : Int} (h0 : 0 ≤ a) (hb : 0 ≤ b) (h1 : a + b ≤ 1000000) (hc : (driveR n lies s a).code ≠ 0) :
    (driveR n lies s a).code = (driveR n lies s (a + b)).code ∧ (driveR n lies s a).far = (driveR n lies s (a + b)).far ∧ (driveR n lies s a).joint = (driveR n lies s (a + b)).joint ∧ (driveR n lies s a).spot = (driveR n lies s (a + b)).spot := by
  rw [driveR_is hg hl hs h0 (by omega), driveR_is hg hl hs (by omega) h1] at *
  exact told_parts (drv_more_stop 1000 s a b hb hc).symm
theorem top_far (hg : netGood n = true) (hl : liesB n lies = true) (hs : spotB n s = true) {a : Int} (h0 : 0 ≤ a) (h1 : a ≤ 1000000) (hc : (driveR n lies s a).code = 0) :
    (driveR n lies s a).far = a ∧ spotB n (driveR n lies s a).spot = true := by
  rw [driveR_is hg hl hs h0 h1] at *
  exact ⟨drv_far 1000 s a hc, (drv_spot (Good.of hg) hl 1000 s a hs h0).1⟩
/-- FnTop: to drive on from where it ended is to drive farther at once. -/
theorem top_on (hg : netGood n = true) (hl : liesB n lies = true) (hs : spotB n s = true) {a b : Int} (h0 : 0 ≤ a) (hb : 0 ≤ b) (h1 : a + b ≤ 1000000) (hc : (driveR n lies s a).code = 0)
    (hz : (driveR n lies (driveR n lies s a).spot b).code ≠ 5) (hy : (driveR n lies s (a + b)).code ≠ 5) :
    (driveR n lies (driveR n lies s a).spot b).code = (driveR n lies s (a + b)).code ∧ (driveR n lies (driveR n lies s a).spot b).far + a = (driveR n lies s (a + b)).far ∧ (driveR n lies (driveR n lies s a).spot b).joint = (driveR n lies s (a + b)).joint ∧ (driveR n lies (driveR n lies s a).spot b).spot = (driveR n lies s (a + b)).spot := by
  have hsp := (top_far hg hl hs h0 (by omega) hc).2
  rw [driveR_is hg hl hsp hb (by omega)] at *
  rw [driveR_is hg hl hs h0 (by omega)] at *
  rw [driveR_is hg hl hs (by omega) h1] at *
  obtain ⟨o, ho, h⟩ := drv_split (Good.of hg) hl 1000 s a hs h0 hc
  have hb2 := h b hb
  have e5 : (drv n lies (1000 - o) (drv n lies 1000 s a).spot b).code ≠ 5 := by
    intro e
    apply hy
    rw [code_told, hb2]
    exact e
  have hf := drv_fuel (1000 - o) o (drv n lies 1000 s a).spot b e5
  rw [show 1000 - o + o = 1000 by omega] at hf
  rw [← hf] at hb2
  unfold shiftT DrvT.told at hb2
  simp only [Prod.mk.injEq] at hb2
  exact ⟨hb2.1.symm, by rw [hb2.2.1, Int.add_comm], hb2.2.2.1.symm, hb2.2.2.2.symm⟩
theorem drive_bd (hg : netGood n = true) (hl : liesB n lies = true) (hs : spotB n s = true) {a : Int} (h0 : 0 ≤ a) (h1 : a ≤ 1000000) : 0 ≤ (driveR n lies s a).far ∧ (driveR n lies s a).far ≤ a := by
  rw [driveR_is hg hl hs h0 h1]
  exact (drv_spot (Good.of hg) hl 1000 s a hs h0).2
theorem top_zbd (hg : netGood n = true) (hl : liesB n lies = true) (hs : spotB n s = true) {a b : Int} (h0 : 0 ≤ a) (hb : 0 ≤ b) (h1 : a + b ≤ 1000000) (hc : (driveR n lies s a).code = 0) :
    0 ≤ (driveR n lies (driveR n lies s a).spot b).far ∧ (driveR n lies (driveR n lies s a).spot b).far ≤ b :=
  drive_bd hg hl (top_far hg hl hs h0 (by omega) hc).2 hb (by omega)
theorem turnS_ok (hs : spotB n s = true) : spotB n (turnS s) = true := by
  have h := spotB_iff.1 hs
  rw [spotB_iff]
  unfold turnS
  simp only
  omega
theorem turnV_is (hg : netGood n = true) (hs : spotB n s = true) : turnV n s = turnS s := by
  unfold turnV spotOkB
  rw [hg, hs]; rfl
/-- FnBack: to drive, turn and drive as far is to come back. -/
theorem back_law (hg : netGood n = true) (hl : liesB n lies = true) (hs : spotB n s = true) {a : Int} (h0 : 0 ≤ a) (h1 : a ≤ 1000000) (hr : 0 < roomS n s) (hf : (driveR n lies s a).far ≠ 0) :
    spotB n (driveR n lies s a).spot = true ∧ 0 ≤ (driveR n lies s a).far ∧ (driveR n lies s a).far ≤ 1000000 ∧ (driveR n lies s a).code ≠ 4 ∧
    (driveR n lies (turnV n (driveR n lies s a).spot) (driveR n lies s a).far).code = 0 ∧ (driveR n lies (turnV n (driveR n lies s a).spot) (driveR n lies s a).far).far = (driveR n lies s a).far ∧ (driveR n lies (turnV n (driveR n lies s a).spot) (driveR n lies s a).far).spot = turnV n s := by
  have hd := driveR_is hg hl hs h0 h1
  have hsp := drv_spot (Good.of hg) hl 1000 s a hs h0
  rw [hd] at hf ⊢
  clear hd
  have ha : 0 < a := by have := hsp.2; omega
  have hb := drive_back (Good.of hg) hl (k := 1000) hs ha hr
  rw [turnV_is hg hsp.1, turnV_is hg hs, driveR_is hg hl (turnS_ok hsp.1) hsp.2.1 (by omega)]
  unfold DrvT.told at hb
  simp only [Prod.mk.injEq] at hb
  exact ⟨hsp.1, hsp.2.1, by omega, drv_not4 1000 s a, hb.1, hb.2.1, hb.2.2.2⟩
/-- FnFlip. -/
theorem flip_law (hg : netGood n = true) (hl : liesB n lies = true) (hs : spotB n s = true) (k : Int) {a : Int} (h0 : 0 ≤ a) (h1 : a ≤ 1000000) :
    (driveR n lies s a).code = (driveR (flipN n k) lies (flipS n k s) a).code ∧ (driveR n lies s a).far = (driveR (flipN n k) lies (flipS n k s) a).far ∧ (driveR n lies s a).joint = (driveR (flipN n k) lies (flipS n k s) a).joint ∧ flipS n k (driveR n lies s a).spot = (driveR (flipN n k) lies (flipS n k s) a).spot := by
  rw [driveR_is hg hl hs h0 h1, driveR_is (n := flipN n k) (by rw [flip_good]; exact hg) (by rw [flip_lies]; exact hl) (by rw [flip_spotB (Good.of hg)]; exact hs) h0 h1]
  have h := flip_drv (Good.of hg) hl k 1000 s a hs
  unfold flipT DrvT.told at h
  simp only [Prod.mk.injEq] at h
  exact ⟨h.1.symm, h.2.1.symm, h.2.2.1.symm, h.2.2.2.symm⟩
/-- The last part ends where the drive ends. -/
theorem drv_last (hg : Good n) (hl : liesB n lies = true) : ∀ (k : Nat) (s : SpotT) (a : Int), spotB n s = true → 0 < a → (drv n lies k s a).code = 0 → (drv n lies k s a).parts ≠ [] →
    ∃ p, (drv n lies k s a).parts.getLast? = some p ∧ p.piece = (drv n lies k s a).spot.piece ∧ (p.frm = (drv n lies k s a).spot.at_ ∨ p.upto = (drv n lies k s a).spot.at_)
  | k, s, a, hs, h0, hc, hne => by
    cases hst : stopAt n lies s a with
    | some cj =>
      obtain ⟨c, j⟩ := cj
      rw [drv_stop hst] at hne ⊢
      simp only at hne ⊢
      unfold partsOf at hne ⊢
      split at hne
      · rename_i hp
        rw [if_pos hp]
        refine ⟨partOf s (legOf n s a), rfl, rfl, ?_⟩
        unfold partOf moveS
        simp only
        omega
      · exact absurd rfl hne
    | none =>
      cases k with
      | zero => rw [drv_full hst] at hc; simp at hc
      | succ k =>
        obtain ⟨o1, o2, o3⟩ := over_ok hg hl hs hst
        have hleg := legOf_bd hg hs (Int.le_of_lt h0)
        have hpos : 0 < a - legOf n s a := by
          unfold stopAt at hst
          split at hst
          · cases hst
          · omega
        rw [drv_on hst] at hc ⊢
        simp only at hc ⊢
        have hne2 : (drv n lies k (enterS n (overL n lies (headE s)).2) (a - legOf n s a)).parts ≠ [] := by
          have hr := enterS_room hg o2
          have hlen := hg.len (endB_iff.1 o2).1 (endB_iff.1 o2).2.1
          have hq : 0 < legOf n (enterS n (overL n lies (headE s)).2) (a - legOf n s a) := by
            unfold legOf at hpos ⊢
            rw [hr]
            omega
          cases hst2 : stopAt n lies (enterS n (overL n lies (headE s)).2) (a - legOf n s a) with
          | some cj => obtain ⟨c, j⟩ := cj; rw [drv_stop hst2]; simp [partsOf, hq]
          | none =>
            cases k with
            | zero => rw [drv_full hst2]; simp [partsOf, hq]
            | succ k => rw [drv_on hst2]; simp [partsOf, hq]
        obtain ⟨p, h1, h2⟩ := drv_last hg hl k _ _ o3 hpos hc hne2
        exact ⟨p, by rw [List.getLast?_append, h1]; rfl, h2⟩
/-- The first part begins where the drive begins. -/
theorem drv_first (hg : Good n) (hl : liesB n lies = true) (hs : spotB n s = true) {a : Int} (h0 : 0 < a) (hr : 0 < roomS n s) (k : Nat) : ∃ r, 0 < r ∧ r ≤ roomS n s ∧ (drv n lies k s a).parts.getD 0 default = partOf s r := by
  have hq : 0 < legOf n s a := by unfold legOf; omega
  have hq2 : legOf n s a ≤ roomS n s := by unfold legOf; omega
  refine ⟨legOf n s a, hq, hq2, ?_⟩
  cases hst : stopAt n lies s a with
  | some cj => obtain ⟨c, j⟩ := cj; rw [drv_stop hst]; simp [partsOf, hq]
  | none =>
    cases k with
    | zero => rw [drv_full hst]; simp [partsOf, hq]
    | succ k => rw [drv_on hst]; simp [partsOf, hq]
theorem aheadR_is (hg : netGood n = true) (hl : liesB n lies = true) (hs : spotB n s = true) {a : Int} (h0 : 0 ≤ a) (h1 : a ≤ 1000000) : aheadR n lies s a = (drv n lies 1000 s a).parts := by
  unfold aheadR; rw [driveR_is hg hl hs h0 h1]
theorem partsOk_mk {l : List PartT} (h : ∀ p ∈ l, 0 ≤ p.piece ∧ p.piece ≤ 99 ∧ 0 ≤ p.frm ∧ p.frm ≤ p.upto ∧ p.upto ≤ 10000000) (hl : l.length ≤ 10000) : partsOk l = true := by
  unfold partsOk
  simp only [Bool.and_eq_true, decide_eq_true_eq, List.all_eq_true]
  refine ⟨fun p hp => ?_, hl⟩
  have := h p hp
  unfold partOk
  simp only [Bool.and_eq_true, inB_true]
  omega
/-- FnParts: how long what is driven over is; each part is longer than nothing. -/
theorem parts_len (hg : netGood n = true) (hl : liesB n lies = true) (hs : spotB n s = true) {a : Int} (h0 : 0 ≤ a) (h1 : a ≤ 1000000) :
    partsOk (aheadR n lies s a) = true ∧ partsLenV (aheadR n lies s a) = (driveR n lies s a).far ∧ (∀ p ∈ aheadR n lies s a, p.frm < p.upto) ∧ (aheadR n lies s a).length ≤ 1001 := by
  rw [aheadR_is hg hl hs h0 h1, driveR_is hg hl hs h0 h1]
  obtain ⟨e1, e2, e3⟩ := drv_parts (Good.of hg) hl 1000 s a hs h0
  have hok := partsOk_mk (fun p hp => by have := e3 p hp; omega) (by omega : (drv n lies 1000 s a).parts.length ≤ 10000)
  refine ⟨hok, ?_, fun p hp => (e3 p hp).2.2.2.1, e2⟩
  unfold partsLenV
  rw [if_pos hok]
  exact e1
/-- FnParts: what is driven over ends at the spot that is come to. -/
theorem parts_last (hg : netGood n = true) (hl : liesB n lies = true) (hs : spotB n s = true) {a : Int} (h0 : 0 ≤ a) (h1 : a ≤ 1000000) (hne : 0 < (aheadR n lies s a).length) (hc : (driveR n lies s a).code = 0) :
    ((aheadR n lies s a).getD ((aheadR n lies s a).length - 1) default).piece = (driveR n lies s a).spot.piece ∧ (((aheadR n lies s a).getD ((aheadR n lies s a).length - 1) default).frm = (driveR n lies s a).spot.at_ ∨ ((aheadR n lies s a).getD ((aheadR n lies s a).length - 1) default).upto = (driveR n lies s a).spot.at_) := by
  rw [aheadR_is hg hl hs h0 h1] at *
  rw [driveR_is hg hl hs h0 h1] at *
  have ha : 0 < a := by
    rcases Int.lt_or_eq_of_le h0 with h | h
    · exact h
    · subst h
      rw [drv_none (Good.of hg) hs] at hne
      simp at hne
  obtain ⟨p, hp, h2⟩ := drv_last (Good.of hg) hl 1000 s a hs ha hc (List.length_pos_iff.1 hne)
  have e : (drv n lies 1000 s a).parts.getD ((drv n lies 1000 s a).parts.length - 1) default = p := by
    rw [List.getLast?_eq_getElem?] at hp
    rw [List.getD_eq_getElem?_getD, hp]; rfl
  rw [e]
  exact h2
theorem touchP_symm (a b : PartT) : touchP a b = touchP b a := by
  unfold touchP
  rw [decide_eq_decide]
  constructor <;> rintro ⟨h1, h2, h3⟩ <;> exact ⟨h1.symm, h3, h2⟩
theorem touchB_symm (a b : List PartT) : touchB a b = touchB b a := by
  have h : a.any (fun x => b.any (touchP x)) = b.any (fun x => a.any (touchP x)) := by
    rw [Bool.eq_iff_iff]
    simp only [List.any_eq_true]
    constructor
    · rintro ⟨x, hx, y, hy, h⟩; exact ⟨y, hy, x, hx, by rw [touchP_symm]; exact h⟩
    · rintro ⟨x, hx, y, hy, h⟩; exact ⟨y, hy, x, hx, by rw [touchP_symm]; exact h⟩
  unfold touchB
  rw [h, Bool.and_comm (partsOk a)]
/-- FnParts: the first part touches the spot. -/
theorem parts_touch (hg : netGood n = true) (hl : liesB n lies = true) (hs : spotB n s = true) {a : Int} (h0 : 0 ≤ a) (h1 : a ≤ 1000000) (hne : 0 < (aheadR n lies s a).length) (ha0 : 0 < s.at_) (ha1 : s.at_ < lenP n s.piece) :
    touchB ((aheadR n lies s a).take 1) [⟨s.piece, s.at_, s.at_⟩] = true := by
  have hsb := spotB_iff.1 hs
  have hlen := (Good.of hg).len hsb.1 hsb.2.1
  have hp1 := (Good.of hg).p1
  obtain ⟨hok, _, _, _⟩ := parts_len hg hl hs h0 h1
  rw [aheadR_is hg hl hs h0 h1] at *
  have ha : 0 < a := by
    rcases Int.lt_or_eq_of_le h0 with h | h
    · exact h
    · subst h
      rw [drv_none (Good.of hg) hs] at hne
      simp at hne
  have hr : 0 < roomS n s := by unfold roomS; split <;> omega
  obtain ⟨r, r0, r1, hf⟩ := drv_first (Good.of hg) hl hs ha hr 1000
  obtain ⟨p, ps, hps⟩ := List.exists_cons_of_length_pos hne
  rw [hps] at hf hok ⊢
  simp only [List.getD_cons_zero] at hf
  subst hf
  have hok2 := (partOk_of hok).2
  have a1 : partsOk [partOf s r] = true := partsOk_mk (fun p hp => hok2 p (by simp at hp; rw [hp]; simp)) (by simp)
  have a2 : partsOk [(⟨s.piece, s.at_, s.at_⟩ : PartT)] = true := partsOk_mk (fun p hp => by
    simp only [List.mem_singleton] at hp
    subst hp
    simp only
    omega) (by simp)
  refine touch_yes (i := 0) (k := 0) ?_ a2 (by simp) (by simp) ?_
  · simpa using a1
  · unfold touchP partOf
    simp only [List.take_succ_cons, List.take_zero, List.getD_cons_zero, decide_eq_true_eq]
    refine ⟨by simp, ?_, ?_⟩ <;> omega
theorem behind_turned (hg : netGood n = true) (hs : spotB n s = true) (a : Int) : behindR n lies s a = aheadR n lies (turnV n s) a := by
  rw [turnV_is hg hs]; rfl
end
end Go.Proofs.Ytckcffjnffcjcaa
