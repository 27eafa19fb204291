/- Plain laws of driving: farther at once, there and back, how long the parts are. No program in sight, no conditions. -/
import Derived.Test.YtckcffjnffcjcaaDrv
set_option linter.unusedVariables false
set_option linter.unusedSimpArgs false
namespace Go.Proofs.Ytckcffjnffcjcaa
section
variable {n : NetT} {lies : List Int}
theorem stopAt_zero {s : SpotT} {left c j : Int} (h : stopAt n lies s left = some (c, j)) (hc : c = 0) : legOf n s left = left ∧ j = -1 := by
  unfold stopAt at h
  split at h
  · simp only [Option.some.injEq, Prod.mk.injEq] at h
    exact ⟨by omega, h.2.symm⟩
  · split at h
    · rename_i h2
      simp only [Option.some.injEq, Prod.mk.injEq] at h
      exact absurd (h.1.trans hc) h2
    · cases h
theorem stopAt_more {s : SpotT} {left : Int} (h : left - legOf n s left ≠ 0) {b : Int} (hb : 0 ≤ b) : legOf n s (left + b) = legOf n s left ∧ stopAt n lies s (left + b) = stopAt n lies s left := by
  have e : legOf n s (left + b) = legOf n s left := by unfold legOf at *; omega
  refine ⟨e, ?_⟩
  have : left + b - legOf n s left ≠ 0 := by unfold legOf at *; omega
  unfold stopAt
  rw [e, if_neg this, if_neg h]
theorem stopAt_left {s : SpotT} {left : Int} (h : stopAt n lies s left = none ∨ ∃ c j, stopAt n lies s left = some (c, j) ∧ c ≠ 0) : left - legOf n s left ≠ 0 := by
  intro h2
  unfold stopAt at h
  rw [if_pos h2] at h
  rcases h with h | ⟨c, j, h, hc⟩
  · cases h
  · simp only [Option.some.injEq, Prod.mk.injEq] at h
    exact hc h.1.symm
/-- The four things that are told of a drive. -/
def DrvT.told (d : DrvT) : Int × Int × Int × SpotT := (d.code, d.far, d.joint, d.spot)
def shiftT (f : Int) (d : Int × Int × Int × SpotT) : Int × Int × Int × SpotT := (d.1, f + d.2.1, d.2.2.1, d.2.2.2)
theorem told_stop {s : SpotT} {left c j : Int} (h : stopAt n lies s left = some (c, j)) (k : Nat) : (drv n lies k s left).told = (c, legOf n s left, j, moveS s (legOf n s left)) := by rw [drv_stop h]; rfl
theorem told_full {s : SpotT} {left : Int} (h : stopAt n lies s left = none) : (drv n lies 0 s left).told = (5, legOf n s left, (atEnd n (headE s)).1, moveS s (legOf n s left)) := by rw [drv_full h]; rfl
theorem told_on {s : SpotT} {left : Int} (h : stopAt n lies s left = none) (k : Nat) : (drv n lies (k + 1) s left).told = shiftT (legOf n s left) (drv n lies k (enterS n (overL n lies (headE s)).2) (left - legOf n s left)).told := by rw [drv_on h]; rfl
theorem code_told (d : DrvT) : d.code = d.told.1 := rfl
theorem far_told (d : DrvT) : d.far = d.told.2.1 := rfl
theorem spot_told (d : DrvT) : d.spot = d.told.2.2.2 := rfl
/-- A drive that ended early ends there when one would drive farther. -/
theorem drv_more_stop : ∀ (k : Nat) (s : SpotT) (a b : Int), 0 ≤ b → (drv n lies k s a).code ≠ 0 → (drv n lies k s (a + b)).told = (drv n lies k s a).told
  | k, s, a, b, hb, hc => by
    cases hst : stopAt n lies s a with
    | some cj =>
      obtain ⟨c, j⟩ := cj
      have hc0 : c ≠ 0 := by rw [drv_stop hst] at hc; exact hc
      obtain ⟨e1, e2⟩ := stopAt_more (lies := lies) (stopAt_left (lies := lies) (.inr ⟨c, j, hst, hc0⟩)) hb
      rw [told_stop hst, told_stop (e2.trans hst), e1]
    | none =>
      obtain ⟨e1, e2⟩ := stopAt_more (lies := lies) (stopAt_left (lies := lies) (.inl hst)) hb
      cases k with
      | zero => rw [told_full hst, told_full (e2.trans hst), e1]
      | succ k =>
        rw [told_on hst, told_on (e2.trans hst), e1]
        rw [code_told, told_on hst] at hc
        have := drv_more_stop k (enterS n (overL n lies (headE s)).2) (a - legOf n s a) b hb hc
        rw [show a + b - legOf n s a = a - legOf n s a + b by omega, this]
theorem drv_far : ∀ (k : Nat) (s : SpotT) (a : Int), (drv n lies k s a).code = 0 → (drv n lies k s a).far = a
  | k, s, a, hc => by
    cases hst : stopAt n lies s a with
    | some cj =>
      obtain ⟨c, j⟩ := cj
      rw [drv_stop hst] at hc ⊢
      exact (stopAt_zero hst hc).1
    | none =>
      cases k with
      | zero => rw [drv_full hst] at hc; cases hc
      | succ k =>
        rw [drv_on hst] at hc ⊢
        have := drv_far k _ _ hc
        simp only
        omega
theorem drv_fuel : ∀ (k m : Nat) (s : SpotT) (a : Int), (drv n lies k s a).code ≠ 5 → (drv n lies (k + m) s a).told = (drv n lies k s a).told
  | k, m, s, a, hc => by
    cases hst : stopAt n lies s a with
    | some cj =>
      obtain ⟨c, j⟩ := cj
      rw [told_stop hst, told_stop hst]
    | none =>
      cases k with
      | zero => rw [drv_full hst] at hc; exact absurd rfl hc
      | succ k =>
        rw [show k + 1 + m = (k + m) + 1 by omega, told_on hst, told_on hst]
        rw [drv_on hst] at hc
        rw [drv_fuel k m _ _ hc]
theorem over_ok (hg : Good n) (hl : liesB n lies = true) {s : SpotT} (hs : spotB n s = true) {left : Int} (hst : stopAt n lies s left = none) : (overL n lies (headE s)).1 = 0 ∧ endB n (overL n lies (headE s)).2 = true ∧ spotB n (enterS n (overL n lies (headE s)).2) = true := by
  unfold stopAt at hst
  split at hst
  · cases hst
  · split at hst
    · cases hst
    · rename_i h
      have h0 : (overL n lies (headE s)).1 = 0 := Decidable.byContradiction h
      have := (hg.across (headE_ok hs) (hg.over hl (headE_ok hs) h0)).1
      exact ⟨h0, this, enterS_ok hg this⟩
theorem legOf_bd (hg : Good n) {s : SpotT} (hs : spotB n s = true) {left : Int} (h0 : 0 ≤ left) : 0 ≤ legOf n s left ∧ legOf n s left ≤ roomS n s ∧ legOf n s left ≤ left := by
  have := roomS_bd hg hs
  unfold legOf; omega
theorem drv_spot (hg : Good n) (hl : liesB n lies = true) : ∀ (k : Nat) (s : SpotT) (a : Int), spotB n s = true → 0 ≤ a → spotB n (drv n lies k s a).spot = true ∧ 0 ≤ (drv n lies k s a).far ∧ (drv n lies k s a).far ≤ a
  | k, s, a, hs, h0 => by
    have hb := legOf_bd hg hs h0
    have hm := moveS_ok hs hb.1 hb.2.1
    cases hst : stopAt n lies s a with
    | some cj =>
      obtain ⟨c, j⟩ := cj
      rw [drv_stop hst]
      exact ⟨hm, hb.1, hb.2.2⟩
    | none =>
      cases k with
      | zero => rw [drv_full hst]; exact ⟨hm, hb.1, hb.2.2⟩
      | succ k =>
        rw [drv_on hst]
        have := drv_spot hg hl k _ (a - legOf n s a) (over_ok hg hl hs hst).2.2 (by omega)
        simp only
        exact ⟨this.1, by omega, by omega⟩
/-- To drive on from where one came is to drive farther at once. -/
theorem drv_split (hg : Good n) (hl : liesB n lies = true) : ∀ (k : Nat) (s : SpotT) (a : Int), spotB n s = true → 0 ≤ a → (drv n lies k s a).code = 0 →
    ∃ o, o ≤ k ∧ ∀ b, 0 ≤ b → (drv n lies k s (a + b)).told = shiftT a (drv n lies (k - o) (drv n lies k s a).spot b).told
  | k, s, a, hs, h0, hc => by
    have hb := legOf_bd hg hs h0
    cases hst : stopAt n lies s a with
    | some cj =>
      obtain ⟨c, j⟩ := cj
      rw [drv_stop hst] at hc ⊢
      have hla := (stopAt_zero hst hc).1
      rw [hla] at hb
      simp only
      rw [hla]
      refine ⟨0, by omega, fun b hb0 => ?_⟩
      rw [Nat.sub_zero]
      have hr := moveS_room hs a
      have e1 : legOf n (moveS s a) b = legOf n s (a + b) - a := by unfold legOf; rw [hr]; omega
      have e2 : stopAt n lies (moveS s a) b = stopAt n lies s (a + b) := by
        unfold stopAt
        rw [e1, moveS_head, show b - (legOf n s (a + b) - a) = a + b - legOf n s (a + b) by omega]
      have e3 : moveS (moveS s a) (legOf n s (a + b) - a) = moveS s (legOf n s (a + b)) := by rw [moveS_add]; congr 1; omega
      cases hst2 : stopAt n lies s (a + b) with
      | some cj =>
        obtain ⟨c, j⟩ := cj
        rw [told_stop hst2, told_stop (e2.trans hst2), e1, e3]
        unfold shiftT
        simp only [Prod.mk.injEq, true_and, and_true]
        omega
      | none =>
        cases k with
        | zero =>
          rw [told_full hst2, told_full (e2.trans hst2), e1, e3, moveS_head]
          unfold shiftT
          simp only [Prod.mk.injEq, true_and, and_true]
          omega
        | succ k =>
          rw [told_on hst2, told_on (e2.trans hst2), e1, moveS_head, show b - (legOf n s (a + b) - a) = a + b - legOf n s (a + b) by omega]
          unfold shiftT
          simp only [Prod.mk.injEq, true_and, and_true]
          omega
    | none =>
      cases k with
      | zero => rw [drv_full hst] at hc; cases hc
      | succ k =>
        rw [drv_on hst] at hc ⊢
        simp only at hc ⊢
        obtain ⟨o, ho, hq⟩ := drv_split hg hl k _ (a - legOf n s a) (over_ok hg hl hs hst).2.2 (by omega) hc
        refine ⟨o + 1, by omega, fun b hb0 => ?_⟩
        obtain ⟨e1, e2⟩ := stopAt_more (lies := lies) (stopAt_left (lies := lies) (.inl hst)) hb0
        rw [told_on (e2.trans hst), e1, show a + b - legOf n s a = a - legOf n s a + b by omega, hq b hb0, show k + 1 - (o + 1) = k - o by omega]
        unfold shiftT
        simp only [Prod.mk.injEq, true_and, and_true]
        omega
/-! ### The reference's steps -/
def DrvT.behind (d : DrvT) (f : Int) (ps : List PartT) : DrvT := ⟨d.code, f + d.far, d.joint, d.spot, ps ++ d.parts⟩
theorem behind_none (d : DrvT) : d.behind 0 [] = d := by unfold DrvT.behind; simp
theorem behind_behind (d : DrvT) (f g : Int) (ps qs : List PartT) : (d.behind f ps).behind g qs = d.behind (g + f) (qs ++ ps) := by unfold DrvT.behind; simp [Int.add_assoc]
theorem drv_none (hg : Good n) {s : SpotT} (hs : spotB n s = true) (k : Nat) : drv n lies k s 0 = ⟨0, 0, -1, s, []⟩ := by
  have h1 := roomS_bd hg hs
  have e : legOf n s 0 = 0 := by unfold legOf; omega
  have h : stopAt n lies s 0 = some (0, -1) := by unfold stopAt; rw [if_pos (by rw [e]; rfl)]
  rw [drv_stop h, e, moveS_zero]
  rfl
theorem drv_move (hg : Good n) {s : SpotT} (hs : spotB n s = true) {left : Int} (h0 : 0 < legOf n s left) (k : Nat) :
    drv n lies k s left = (drv n lies k (moveS s (legOf n s left)) (left - legOf n s left)).behind (legOf n s left) [partOf s (legOf n s left)] := by
  have hr := moveS_room hs (legOf n s left)
  have e1 : legOf n (moveS s (legOf n s left)) (left - legOf n s left) = 0 := by
    have : legOf n s left = min (roomS n s) left := rfl
    unfold legOf at hr ⊢
    rw [hr]; omega
  have e2 : stopAt n lies (moveS s (legOf n s left)) (left - legOf n s left) = stopAt n lies s left := by
    unfold stopAt
    rw [e1, moveS_head, Int.sub_zero]
  have ep : partsOf s (legOf n s left) = [partOf s (legOf n s left)] := if_pos h0
  have ep2 : ∀ q, partsOf q 0 = [] := fun q => if_neg (by omega)
  cases hst : stopAt n lies s left with
  | some cj =>
    obtain ⟨c, j⟩ := cj
    rw [drv_stop hst, drv_stop (e2.trans hst), e1, moveS_zero, ep, ep2]
    unfold DrvT.behind; simp
  | none =>
    cases k with
    | zero =>
      rw [drv_full hst, drv_full (e2.trans hst), e1, moveS_zero, ep, ep2, moveS_head]
      unfold DrvT.behind; simp
    | succ k =>
      rw [drv_on hst, drv_on (e2.trans hst), e1, ep, ep2, moveS_head, Int.sub_zero]
      unfold DrvT.behind; simp
theorem drv_joint {s : SpotT} (hr : roomS n s = 0) {left : Int} (h0 : 0 < left) (k : Nat) :
    drv n lies k s left = if (overL n lies (headE s)).1 ≠ 0 then ⟨(overL n lies (headE s)).1, 0, (atEnd n (headE s)).1, s, []⟩
      else match k with | 0 => ⟨5, 0, (atEnd n (headE s)).1, s, []⟩ | k + 1 => drv n lies k (enterS n (overL n lies (headE s)).2) left := by
  have e : legOf n s left = 0 := by unfold legOf; rw [hr]; omega
  have ep2 : ∀ q, partsOf q 0 = [] := fun q => if_neg (by omega)
  by_cases hc : (overL n lies (headE s)).1 ≠ 0
  · have h : stopAt n lies s left = some ((overL n lies (headE s)).1, (atEnd n (headE s)).1) := by
      unfold stopAt; rw [e, if_neg (by omega), if_pos hc]
    rw [drv_stop h, e, moveS_zero, ep2, if_pos hc]
  · have h : stopAt n lies s left = none := by unfold stopAt; rw [e, if_neg (by omega), if_neg hc]
    rw [if_neg hc]
    cases k with
    | zero => rw [drv_full h, e, moveS_zero, ep2]
    | succ k =>
      rw [drv_on h, e, ep2, Int.sub_zero]
      simp
/-! ### The parts -/
def sumP (l : List PartT) : Int := (l.map fun p => p.upto - p.frm).sum
theorem partOf_in {s : SpotT} (hg : Good n) (hs : spotB n s = true) {r : Int} (h0 : 0 < r) (h1 : r ≤ roomS n s) :
    (partOf s r).upto - (partOf s r).frm = r ∧ 0 ≤ (partOf s r).piece ∧ (partOf s r).piece ≤ 99 ∧ 0 ≤ (partOf s r).frm ∧ (partOf s r).frm < (partOf s r).upto ∧ (partOf s r).upto ≤ 10000000 := by
  have h := spotB_iff.1 hs
  have hl := hg.len h.1 h.2.1
  have hp := hg.p1
  unfold roomS at h1
  unfold partOf
  simp only
  rcases h.2.2.1 with hw | hw <;> rw [hw] at h1 ⊢ <;> simp at h1 ⊢ <;> omega
theorem drv_parts (hg : Good n) (hl : liesB n lies = true) : ∀ (k : Nat) (s : SpotT) (a : Int), spotB n s = true → 0 ≤ a →
    sumP (drv n lies k s a).parts = (drv n lies k s a).far ∧ (drv n lies k s a).parts.length ≤ k + 1 ∧ ∀ p ∈ (drv n lies k s a).parts, 0 ≤ p.piece ∧ p.piece ≤ 99 ∧ 0 ≤ p.frm ∧ p.frm < p.upto ∧ p.upto ≤ 10000000
  | k, s, a, hs, h0 => by
    have hb := legOf_bd hg hs h0
    have hp : sumP (partsOf s (legOf n s a)) = legOf n s a ∧ (partsOf s (legOf n s a)).length ≤ 1 ∧ ∀ p ∈ partsOf s (legOf n s a), 0 ≤ p.piece ∧ p.piece ≤ 99 ∧ 0 ≤ p.frm ∧ p.frm < p.upto ∧ p.upto ≤ 10000000 := by
      unfold partsOf
      split
      · rename_i hpos
        have := partOf_in hg hs hpos hb.2.1
        refine ⟨by simp [sumP, this.1], by simp, fun p hp => ?_⟩
        have : p = partOf s (legOf n s a) := by simpa using hp
        subst this
        omega
      · exact ⟨by simp [sumP]; omega, by simp, by simp⟩
    cases hst : stopAt n lies s a with
    | some cj =>
      obtain ⟨c, j⟩ := cj
      rw [drv_stop hst]
      exact ⟨hp.1, by simp only; omega, hp.2.2⟩
    | none =>
      cases k with
      | zero => rw [drv_full hst]; exact ⟨hp.1, by simp only; omega, hp.2.2⟩
      | succ k =>
        rw [drv_on hst]
        have := drv_parts hg hl k _ (a - legOf n s a) (over_ok hg hl hs hst).2.2 (by omega)
        refine ⟨?_, ?_, fun p hpm => ?_⟩
        · have h1 := hp.1
          have h2 := this.1
          unfold sumP at h1 h2 ⊢
          simp only [List.map_append, List.sum_append]
          omega
        · simp only [List.length_append]; omega
        · rcases List.mem_append.1 hpm with hm | hm
          · exact hp.2.2 p hm
          · exact this.2.2 p hm
/-! ### There and back -/
inductive Leg (n : NetT) (lies : List Int) : SpotT → Nat → Int → SpotT → Prop
  | move {s : SpotT} {r : Int} : 0 ≤ r → r ≤ roomS n s → Leg n lies s 0 r (moveS s r)
  | over {s t : SpotT} {e : EndT} {m : Nat} {f : Int} : overL n lies (headE s) = (0, e) → 0 < f → Leg n lies (enterS n e) m f t → Leg n lies s (m + 1) (roomS n s + f) t
/-- What a leg tells is what a drive over as far answers. -/
theorem Leg.drv {s t : SpotT} {m : Nat} {f : Int} (h : Leg n lies s m f t) (k : Nat) (hk : m ≤ k) : (drv n lies k s f).told = (0, f, -1, t) := by
  induction h generalizing k with
  | @move s r h0 h1 =>
    have e : legOf n s r = r := by unfold legOf; omega
    have hst : stopAt n lies s r = some (0, -1) := by unfold stopAt; rw [if_pos (by rw [e]; omega)]
    rw [told_stop hst, e]
  | @over s t e m f ho hf h ih =>
    obtain ⟨k, rfl⟩ : ∃ k', k = k' + 1 := ⟨k - 1, by omega⟩
    have el : legOf n s (roomS n s + f) = roomS n s := by unfold legOf; omega
    have hst : stopAt n lies s (roomS n s + f) = none := by
      unfold stopAt
      rw [el, if_neg (by omega), if_neg (by rw [ho]; simp)]
    rw [told_on hst, el, ho, show roomS n s + f - roomS n s = f by omega, ih k (by omega)]
    rfl
/-- A drive is a leg as far as it comes. -/
theorem drv_leg (hg : Good n) (hl : liesB n lies = true) : ∀ (k : Nat) (s : SpotT) (a : Int), spotB n s = true → 0 < a → (0 < roomS n s ∨ (drv n lies k s a).far ≠ 0) → ∃ m, m ≤ k ∧ Leg n lies s m (drv n lies k s a).far (drv n lies k s a).spot
  | k, s, a, hs, h0, hr => by
    have hb := legOf_bd hg hs (Int.le_of_lt h0)
    cases hst : stopAt n lies s a with
    | some cj =>
      obtain ⟨c, j⟩ := cj
      rw [drv_stop hst]
      exact ⟨0, by omega, .move hb.1 hb.2.1⟩
    | none =>
      have hne := stopAt_left (lies := lies) (.inl hst)
      have hroom : legOf n s a = roomS n s := by unfold legOf at *; omega
      cases k with
      | zero => rw [drv_full hst]; exact ⟨0, by omega, .move hb.1 hb.2.1⟩
      | succ k =>
        obtain ⟨o1, o2, o3⟩ := over_ok hg hl hs hst
        have hroom2 := enterS_room hg o2
        have he := endB_iff.1 o2
        have hlen := hg.len he.1 he.2.1
        obtain ⟨m, hm, hL⟩ := drv_leg hg hl k _ (a - legOf n s a) o3 (by omega) (.inl (by rw [hroom2]; omega))
        rw [drv_on hst]
        simp only
        have hpos : 0 < (Go.Proofs.Ytckcffjnffcjcaa.drv n lies k (enterS n (overL n lies (headE s)).2) (a - legOf n s a)).far := by
          have hq := legOf_bd hg o3 (left := a - legOf n s a) (by omega)
          have hq2 : 0 < legOf n (enterS n (overL n lies (headE s)).2) (a - legOf n s a) := by
            unfold legOf; rw [hroom2]; unfold legOf at *; omega
          rw [drv_move hg o3 hq2 k]
          have := (drv_spot hg hl k (moveS (enterS n (overL n lies (headE s)).2) (legOf n (enterS n (overL n lies (headE s)).2) (a - legOf n s a))) (a - legOf n s a - legOf n (enterS n (overL n lies (headE s)).2) (a - legOf n s a)) (moveS_ok o3 hq.1 hq.2.1) (by omega)).2.1
          unfold DrvT.behind
          simp only
          omega
        refine ⟨m + 1, by omega, ?_⟩
        rw [hroom]
        rw [hroom] at hL hpos
        exact .over (Prod.ext o1 rfl) hpos hL
/-- One comes back over a joint. -/
theorem over_back (hg : Good n) (hl : liesB n lies = true) {e x : EndT} (he : endB n e = true) (ho : overL n lies e = (0, x)) : overL n lies x = (0, e) := by
  obtain ⟨i, q, ha⟩ := hg.at_ he
  obtain ⟨k1, k2, k3, k4⟩ := hg.kindAt ha.hi
  have hq := ha.hq
  have hee := ha.he
  have hll := liesB_iff.1 hl
  have hli := hll.2 i (by rw [hll.1]; exact ha.hi)
  have key : ∀ q', q' < (n.joints.getD i default).ends.length → x = (n.joints.getD i default).ends.getD q' default → jOf n x = n.joints.getD i default ∧ iOf n x = i ∧ kOf n x = q' := by
    intro q' hq' hx
    have hp := hg.place ha.hi hq'
    rw [← hx] at hp
    exact ⟨hp.j, hp.i, hp.k⟩
  unfold overL acrossE acrossJ at ho ⊢
  rw [ha.j, ha.i, ha.k] at ho
  split at ho
  · simp at ho
  · rename_i n1
    split at ho
    · rename_i n3
      rw [n3] at k3
      split at ho
      · simp at ho
      · rename_i hz
        split at ho
        · rename_i hq0
          subst hq0
          simp only [Prod.mk.injEq, true_and] at ho
          obtain ⟨l, hl1, hl2⟩ : ∃ l : Nat, lies.getD i 0 = (l : Int) ∧ (l = 1 ∨ l = 2) := by
            obtain ⟨l, hl1⟩ := Int.eq_ofNat_of_zero_le hli.1
            exact ⟨l, hl1, by omega⟩
          rw [hl1, Int.toNat_natCast] at ho
          obtain ⟨g1, g2, g3⟩ := key l (by omega) ho.symm
          rw [g1, g2, g3, if_neg n1, if_pos n3, if_neg hz, if_neg (by omega), if_neg (by rw [hl1]; simp), hee]
        · rename_i hq0
          split at ho
          · simp at ho
          · rename_i hne
            simp only [Prod.mk.injEq, true_and] at ho
            obtain ⟨g1, g2, g3⟩ := key 0 (by omega) ho.symm
            have hlq : lies.getD i 0 = (q : Int) := by omega
            rw [g1, g2, g3, if_neg n1, if_pos n3, if_neg hz, if_pos rfl, hlq, Int.toNat_natCast, hee]
    · rename_i n3
      have : (n.joints.getD i default).kind = 2 ∨ (n.joints.getD i default).kind = 4 := by omega
      rcases this with e1 | e1
      · rw [if_pos e1] at ho
        rw [e1] at k3
        simp only [List.getD_cons_zero, Prod.mk.injEq, true_and] at ho
        obtain ⟨g1, g2, g3⟩ := key (1 - q) (by omega) ho.symm
        rw [g1, g3, if_neg n1, if_neg n3, if_pos e1, List.getD_cons_zero, show 1 - (1 - q) = q by omega, hee]
      · rw [if_neg (by omega), if_pos e1] at ho
        rw [e1] at k3
        simp only [List.getD_cons_zero, Prod.mk.injEq, true_and] at ho
        obtain ⟨g1, g2, g3⟩ := key (cross4 q) (by have := cross4_lt (k := q) (by omega); omega) ho.symm
        rw [g1, g3, if_neg n1, if_neg n3, if_neg (by omega), if_neg n3, if_pos e1, List.getD_cons_zero, cross4_twice (by omega), hee]
theorem over_end (hg : Good n) (hl : liesB n lies = true) {s : SpotT} (hs : spotB n s = true) {x : EndT} (ho : overL n lies (headE s) = (0, x)) : endB n x = true := by
  have := hg.over hl (headE_ok hs) (by rw [ho])
  rw [ho] at this
  exact (hg.across (headE_ok hs) this).1
theorem Leg.snoc (hg : Good n) (hl : liesB n lies = true) {s t : SpotT} {m : Nat} {f : Int} (h : Leg n lies s m f t) : spotB n s = true → roomS n t = 0 → ∀ {e : EndT}, overL n lies (headE t) = (0, e) → ∀ {r : Int}, 0 < r → r ≤ roomS n (enterS n e) → Leg n lies s (m + 1) (f + r) (moveS (enterS n e) r) := by
  induction h with
  | @move s r' g0 g1 =>
    intro hs ht e ho r h0 h1
    rw [moveS_room hs] at ht
    have : r' = roomS n s := by omega
    subst this
    exact .over ho h0 (.move (by omega) h1)
  | @over s t x m f' ho' hf h ih =>
    intro hs ht e ho r h0 h1
    rw [Int.add_assoc]
    exact .over ho' (by omega) (ih (enterS_ok hg (over_end hg hl hs ho')) ht ho h0 h1)
theorem turn_enter_room {n : NetT} (e : EndT) : roomS n (turnS (enterS n e)) = 0 := by
  unfold roomS turnS enterS
  split <;> simp
theorem turn_enter_head {n : NetT} {e : EndT} (h : endB n e = true) : headE (turnS (enterS n e)) = e := by
  have := endB_iff.1 h
  obtain ⟨p, d⟩ := e
  simp only at this
  have : d = 0 ∨ d = 1 := by omega
  rcases this with rfl | rfl <;> simp [headE, turnS, enterS]
theorem turn_room {s : SpotT} (hs : spotB n s = true) (r : Int) : roomS n (turnS (moveS s r)) = lenP n s.piece - roomS n s + r := by
  have := spotB_iff.1 hs
  unfold roomS turnS moveS
  simp only
  rcases this.2.2.1 with hw | hw <;> rw [hw] <;> simp <;> omega
theorem turn_move {s : SpotT} (r : Int) : moveS (turnS (moveS s r)) r = turnS s := by
  unfold turnS moveS
  simp only [SpotT.mk.injEq, true_and, and_true]
  rw [Int.mul_neg]; omega
theorem enter_back {s : SpotT} (hs : spotB n s = true) : moveS (enterS n (headE s)) (roomS n s) = turnS s := by
  have := spotB_iff.1 hs
  obtain ⟨p, a, w⟩ := s
  simp only at this
  unfold moveS enterS headE roomS turnS
  simp only
  rcases this.2.2.1 with hw | hw <;> subst hw <;> simp <;> omega
theorem room_len (hg : Good n) {s : SpotT} (hs : spotB n s = true) : roomS n s ≤ lenP n s.piece := by
  have := spotB_iff.1 hs
  unfold roomS
  split <;> omega
/-- The way back. -/
theorem Leg.back (hg : Good n) (hl : liesB n lies = true) {s t : SpotT} {m : Nat} {f : Int} (h : Leg n lies s m f t) : spotB n s = true → 0 < roomS n s → Leg n lies (turnS t) m f (turnS s) := by
  induction h with
  | @move s r g0 g1 =>
    intro hs hr
    have h1 := turn_room hs r
    have h2 := room_len hg hs
    have := Leg.move (n := n) (lies := lies) (s := turnS (moveS s r)) (r := r) g0 (by omega)
    rw [turn_move] at this
    exact this
  | @over s t x m f ho hf h ih =>
    intro hs hr
    have hx := over_end hg hl hs ho
    have hlen := endB_iff.1 hx
    have h1 := ih (enterS_ok hg hx) (by rw [enterS_room hg hx]; have := (hg.len hlen.1 hlen.2.1).1; omega)
    have hb := over_back hg hl (headE_ok hs) ho
    have hh := headE_ok hs
    have h2 := room_len hg hs
    -- the far end of the way back is a spot too
    have hst : spotB n (turnS t) = true := by
      clear hb ih h1
      have hto : ∀ {s t : SpotT} {m : Nat} {f : Int}, Leg n lies s m f t → spotB n s = true → spotB n t = true := by
        intro s t m f h
        induction h with
        | move g0 g1 => intro hs; exact moveS_ok hs g0 g1
        | over ho hf h ih => intro hs; exact ih (enterS_ok hg (over_end hg hl hs ho))
      have h3 := spotB_iff.1 (hto h (enterS_ok hg hx))
      rw [spotB_iff]
      unfold turnS
      simp only
      omega
    have := h1.snoc hg hl hst (turn_enter_room x) (by rw [turn_enter_head hx]; exact hb) hr (by rw [enterS_room hg hh]; exact h2)
    rw [enter_back hs, Int.add_comm] at this
    exact this
/-- To drive, turn and drive as far is to come back. -/
theorem drive_back (hg : Good n) (hl : liesB n lies = true) {k : Nat} {s : SpotT} {a : Int} (hs : spotB n s = true) (h0 : 0 < a) (hr : 0 < roomS n s) :
    (drv n lies k (turnS (drv n lies k s a).spot) (drv n lies k s a).far).told = (0, (drv n lies k s a).far, -1, turnS s) := by
  obtain ⟨m, hm, h⟩ := drv_leg hg hl k s a hs h0 (.inl hr)
  exact (h.back hg hl hs hr).drv k hm
end
end Go.Proofs.Ytckcffjnffcjcaa
