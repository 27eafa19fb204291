/- The plain law of driving: what a drive answers, piece by piece; no program in sight. No conditions. -/
import Derived.Test.YtckcffjnffcjcaaJoint
set_option linter.unusedVariables false
set_option linter.unusedSimpArgs false
namespace Go.Proofs.Ytckcffjnffcjcaa
def cross4 (k : Nat) : Nat := if k = 0 then 1 else if k = 1 then 0 else if k = 2 then 3 else 2
/-- The ends to which one comes from place k of a joint. -/
def acrossJ (j : JointT) (k : Nat) : List EndT :=
  if j.kind = 2 then [j.ends.getD (1 - k) default]
  else if j.kind = 3 then (if k = 0 then [j.ends.getD 1 default, j.ends.getD 2 default] else [j.ends.getD 0 default])
  else if j.kind = 4 then [j.ends.getD (cross4 k) default]
  else []
/-- How a switch lies for each of them. -/
def howJ (j : JointT) (k : Nat) : List Int :=
  if j.kind = 2 then [0] else if j.kind = 3 then (if k = 0 then [1, 2] else [(k : Int)]) else if j.kind = 4 then [0] else []
def iOf (n : NetT) (e : EndT) : Nat := (atEnd n e).1.toNat
def jOf (n : NetT) (e : EndT) : JointT := n.joints.getD (iOf n e) default
def kOf (n : NetT) (e : EndT) : Nat := (atEnd n e).2.toNat
def acrossE (n : NetT) (e : EndT) : List EndT := acrossJ (jOf n e) (kOf n e)
def acrossV (n : NetT) (e : EndT) : List EndT := if (netGood n && endB n e) = true then acrossE n e else []
/-- Where an end of a good net stands. -/
structure AtIs (n : NetT) (e : EndT) (i q : Nat) : Prop where
  eq : atEnd n e = ((i : Int), (q : Int))
  hi : i < n.joints.length
  hq : q < (n.joints.getD i default).ends.length
  he : (n.joints.getD i default).ends.getD q default = e
theorem AtIs.i {n : NetT} {e : EndT} {i q : Nat} (h : AtIs n e i q) : iOf n e = i := by unfold iOf; rw [h.eq]; rfl
theorem AtIs.k {n : NetT} {e : EndT} {i q : Nat} (h : AtIs n e i q) : kOf n e = q := by unfold kOf; rw [h.eq]; rfl
theorem AtIs.j {n : NetT} {e : EndT} {i q : Nat} (h : AtIs n e i q) : jOf n e = n.joints.getD i default := by unfold jOf; rw [h.i]
theorem Good.at_ {n : NetT} (h : Good n) {e : EndT} (he : endB n e = true) : ∃ i q, AtIs n e i q := by
  rcases atEnd_cases n e with ⟨_, h2⟩ | ⟨i, q, h1, h2, h3, h4⟩
  · exact absurd (h.found he) h2
  · exact ⟨i, q, h1, h2, h3, h4⟩
/-- The kinds. -/
theorem Good.kindAt {n : NetT} (h : Good n) {i : Nat} (hi : i < n.joints.length) :
    1 ≤ (n.joints.getD i default).kind ∧ (n.joints.getD i default).kind ≤ 4 ∧ (((n.joints.getD i default).ends.length : Int) = (n.joints.getD i default).kind) ∧ ∀ q, q < (n.joints.getD i default).ends.length → endB n ((n.joints.getD i default).ends.getD q default) = true := by
  have := h.joint (getD_mem n.joints i hi)
  exact ⟨this.1, this.2.1, this.2.2.1, fun q hq => this.2.2.2 _ (getD_mem _ q hq)⟩
theorem Good.nodup {n : NetT} (h : Good n) : (allEnds n).Nodup := by
  rw [List.nodup_iff_count]
  intro e
  by_cases he : e ∈ allEnds n
  · unfold allEnds at he
    obtain ⟨j, hj, hm⟩ := List.mem_flatMap.1 he
    have := h.use ((h.joint hj).2.2.2 e hm)
    unfold uses at this
    omega
  · rw [List.count_eq_zero.2 he]; omega
/-- Each place has its end, and no other place has it. -/
theorem Good.place {n : NetT} (h : Good n) {i q : Nat} (hi : i < n.joints.length) (hq : q < (n.joints.getD i default).ends.length) : AtIs n ((n.joints.getD i default).ends.getD q default) i q := by
  have hb := (h.kindAt hi).2.2.2 q hq
  obtain ⟨i', q', h'⟩ := h.at_ hb
  have hn := h.nodup
  unfold allEnds at hn
  have hp := List.pairwise_flatMap.1 hn
  have hj : n.joints[i].ends = (n.joints.getD i default).ends := by rw [getD_at _ _ hi]
  have hj' : (n.joints[i']'h'.hi).ends = (n.joints.getD i' default).ends := by rw [getD_at _ _ h'.hi]
  have m1 : (n.joints.getD i default).ends.getD q default ∈ n.joints[i].ends := by rw [hj]; exact getD_mem _ q hq
  have m2 : (n.joints.getD i default).ends.getD q default ∈ (n.joints[i']'h'.hi).ends := by
    rw [hj']
    have := getD_mem _ q' h'.hq
    rwa [h'.he] at this
  have hii : i' = i := by
    rcases Nat.lt_trichotomy i' i with hlt | heq | hgt
    · exact absurd rfl (List.pairwise_iff_getElem.1 hp.2 i' i h'.hi hi hlt _ m2 _ m1)
    · exact heq
    · exact absurd rfl (List.pairwise_iff_getElem.1 hp.2 i i' hi h'.hi hgt _ m1 _ m2)
  clear hj hj' m1 m2
  subst hii
  have hqq : q' = q := by
    have h1 := hp.1 _ (getD_mem n.joints i' hi)
    have e1 := h'.he
    have hq' := h'.hq
    rw [getD_at _ _ hq', getD_at _ _ hq] at e1
    rcases Nat.lt_trichotomy q' q with hlt | heq | hgt
    · exact absurd e1 (List.pairwise_iff_getElem.1 h1 q' q hq' hq hlt)
    · exact heq
    · exact absurd e1.symm (List.pairwise_iff_getElem.1 h1 q q' hq hq' hgt)
  subst hqq
  exact h'
theorem cross4_lt {k : Nat} (h : k < 4) : cross4 k < 4 := by unfold cross4; split <;> (try split) <;> (try split) <;> omega
theorem cross4_twice {k : Nat} (h : k < 4) : cross4 (cross4 k) = k := by
  have : k = 0 ∨ k = 1 ∨ k = 2 ∨ k = 3 := by omega
  rcases this with rfl | rfl | rfl | rfl <;> rfl
theorem cross4_ne {k : Nat} (h : k < 4) : cross4 k ≠ k := by
  have : k = 0 ∨ k = 1 ∨ k = 2 ∨ k = 3 := by omega
  rcases this with rfl | rfl | rfl | rfl <;> decide
/-- Whatever lies across is an end of the net, at the same joint, and one comes back. -/
theorem Good.across {n : NetT} (h : Good n) {e x : EndT} (he : endB n e = true) (hx : x ∈ acrossE n e) : endB n x = true ∧ iOf n x = iOf n e ∧ e ∈ acrossE n x := by
  obtain ⟨i, q, ha⟩ := h.at_ he
  obtain ⟨k1, k2, k3, k4⟩ := h.kindAt ha.hi
  have hq := ha.hq
  have hee := ha.he
  unfold acrossE at hx
  rw [ha.j, ha.k] at hx
  have key : ∀ q', q' < (n.joints.getD i default).ends.length → x = (n.joints.getD i default).ends.getD q' default → e ∈ acrossJ (n.joints.getD i default) q' → endB n x = true ∧ iOf n x = iOf n e ∧ e ∈ acrossE n x := by
    intro q' hq' hxq hm
    have hp := h.place ha.hi hq'
    rw [hxq]
    refine ⟨k4 q' hq', by rw [hp.i, ha.i], ?_⟩
    unfold acrossE
    rw [hp.j, hp.k]
    exact hm
  unfold acrossJ at hx
  split at hx
  · rename_i hk
    rw [hk] at k3
    have : x = (n.joints.getD i default).ends.getD (1 - q) default := by simpa using hx
    refine key (1 - q) (by omega) this ?_
    unfold acrossJ
    rw [if_pos hk, show 1 - (1 - q) = q by omega, hee]
    simp
  · split at hx
    · rename_i hk2 hk
      rw [hk] at k3
      split at hx
      · rename_i hq0
        subst hq0
        simp only [List.mem_cons, List.not_mem_nil, or_false] at hx
        rcases hx with hx | hx
        · refine key 1 (by omega) hx ?_
          unfold acrossJ
          rw [if_neg hk2, if_pos hk, if_neg (by omega), hee]; simp
        · refine key 2 (by omega) hx ?_
          unfold acrossJ
          rw [if_neg hk2, if_pos hk, if_neg (by omega), hee]; simp
      · rename_i hq0
        have : x = (n.joints.getD i default).ends.getD 0 default := by simpa using hx
        refine key 0 (by omega) this ?_
        unfold acrossJ
        rw [if_neg hk2, if_pos hk, if_pos rfl]
        have : q = 1 ∨ q = 2 := by omega
        rcases this with rfl | rfl
        · rw [hee]; simp
        · rw [hee]; simp
    · split at hx
      · rename_i hk2 hk3 hk
        rw [hk] at k3
        have : x = (n.joints.getD i default).ends.getD (cross4 q) default := by simpa using hx
        refine key (cross4 q) (by have := cross4_lt (k := q) (by omega); omega) this ?_
        unfold acrossJ
        rw [if_neg hk2, if_neg hk3, if_pos hk, cross4_twice (by omega), hee]; simp
      · simp at hx
/-! ### Spots -/
def lenP (n : NetT) (p : Int) : Int := (n.pieces.getD p.toNat default).len
def headE (s : SpotT) : EndT := ⟨s.piece, if s.way = 1 then 1 else 0⟩
def roomS (n : NetT) (s : SpotT) : Int := if s.way = 1 then lenP n s.piece - s.at_ else s.at_
def enterS (n : NetT) (e : EndT) : SpotT := if e.side = 0 then ⟨e.piece, 0, 1⟩ else ⟨e.piece, lenP n e.piece, -1⟩
def moveS (s : SpotT) (r : Int) : SpotT := ⟨s.piece, s.at_ + r * s.way, s.way⟩
theorem spotB_iff {n : NetT} {s : SpotT} : spotB n s = true ↔ 0 ≤ s.piece ∧ s.piece < (n.pieces.length : Int) ∧ (s.way = 1 ∨ s.way = -1) ∧ 0 ≤ s.at_ ∧ s.at_ ≤ lenP n s.piece := by
  unfold spotB lenP
  simp only [Bool.and_eq_true, Bool.or_eq_true, beq_iff_eq, inB_true]
  omega
theorem Good.len {n : NetT} (h : Good n) {p : Int} (h0 : 0 ≤ p) (h1 : p < (n.pieces.length : Int)) : 1 ≤ lenP n p ∧ lenP n p ≤ 10000000 := by
  obtain ⟨i, rfl⟩ := Int.eq_ofNat_of_zero_le h0
  have := h.piece (getD_mem n.pieces i (by omega))
  unfold lenP
  rw [Int.toNat_natCast]
  exact ⟨this.1, this.2.1⟩
theorem headE_ok {n : NetT} {s : SpotT} (h : spotB n s = true) : endB n (headE s) = true := by
  have := spotB_iff.1 h
  rw [endB_iff]
  unfold headE
  refine ⟨this.1, this.2.1, ?_, ?_⟩ <;> (simp only; split <;> omega)
theorem enterS_ok {n : NetT} (hg : Good n) {e : EndT} (h : endB n e = true) : spotB n (enterS n e) = true := by
  have := endB_iff.1 h
  have hl := hg.len this.1 this.2.1
  rw [spotB_iff]
  unfold enterS
  split
  · exact ⟨this.1, this.2.1, .inl rfl, Int.le_refl _, by show (0 : Int) ≤ lenP n e.piece; omega⟩
  · exact ⟨this.1, this.2.1, .inr rfl, by show (0 : Int) ≤ lenP n e.piece; omega, Int.le_refl _⟩
theorem enterS_room {n : NetT} (hg : Good n) {e : EndT} (h : endB n e = true) : roomS n (enterS n e) = lenP n e.piece := by
  unfold roomS enterS
  split <;> simp
theorem enterS_piece (n : NetT) (e : EndT) : (enterS n e).piece = e.piece := by unfold enterS; split <;> rfl
theorem roomS_bd {n : NetT} {s : SpotT} (hg : Good n) (h : spotB n s = true) : 0 ≤ roomS n s ∧ roomS n s ≤ 10000000 := by
  have := spotB_iff.1 h
  have hl := hg.len this.1 this.2.1
  unfold roomS
  split <;> omega
theorem way_cases {n : NetT} {s : SpotT} (h : spotB n s = true) : s.way = 1 ∨ s.way = -1 := (spotB_iff.1 h).2.2.1
theorem moveS_ok {n : NetT} {s : SpotT} (h : spotB n s = true) {r : Int} (h0 : 0 ≤ r) (h1 : r ≤ roomS n s) : spotB n (moveS s r) = true := by
  have := spotB_iff.1 h
  rw [spotB_iff]
  unfold roomS at h1
  unfold moveS
  simp only
  rcases this.2.2.1 with hw | hw <;> rw [hw] at h1 ⊢ <;> simp at h1 ⊢ <;> omega
theorem moveS_room {n : NetT} {s : SpotT} (h : spotB n s = true) (r : Int) : roomS n (moveS s r) = roomS n s - r := by
  have := spotB_iff.1 h
  unfold roomS moveS
  simp only
  rcases this.2.2.1 with hw | hw <;> rw [hw] <;> simp <;> omega
theorem moveS_zero (s : SpotT) : moveS s 0 = s := by unfold moveS; simp
theorem moveS_add (s : SpotT) (a b : Int) : moveS (moveS s a) b = moveS s (a + b) := by
  unfold moveS; simp only [SpotT.mk.injEq, true_and, and_true]; rw [Int.add_mul]; omega
theorem moveS_head (s : SpotT) (r : Int) : headE (moveS s r) = headE s := rfl
/-! ### Driving -/
/-- Over a joint: 0 and the end behind it, or why not. -/
def overL (n : NetT) (lies : List Int) (e : EndT) : Int × EndT :=
  if (jOf n e).kind = 1 then (1, e)
  else if (jOf n e).kind = 3 then
    if lies.getD (iOf n e) 0 = 0 then (2, e)
    else if kOf n e = 0 then (0, (jOf n e).ends.getD (lies.getD (iOf n e) 0).toNat default)
    else if (kOf n e : Int) ≠ lies.getD (iOf n e) 0 then (3, e)
    else (0, (jOf n e).ends.getD 0 default)
  else (0, (acrossE n e).getD 0 default)
structure DrvT where
  code : Int
  far : Int
  joint : Int
  spot : SpotT
  parts : List PartT
def partOf (s : SpotT) (r : Int) : PartT := ⟨s.piece, min s.at_ (s.at_ + r * s.way), max s.at_ (s.at_ + r * s.way)⟩
def partsOf (s : SpotT) (r : Int) : List PartT := if 0 < r then [partOf s r] else []
def legOf (n : NetT) (s : SpotT) (left : Int) : Int := min (roomS n s) left
/-- Does the drive end on this piece, and how? -/
def stopAt (n : NetT) (lies : List Int) (s : SpotT) (left : Int) : Option (Int × Int) :=
  if left - legOf n s left = 0 then some (0, -1)
  else if (overL n lies (headE s)).1 ≠ 0 then some ((overL n lies (headE s)).1, (atEnd n (headE s)).1)
  else none
def drv (n : NetT) (lies : List Int) : Nat → SpotT → Int → DrvT
  | 0, s, left => match stopAt n lies s left with
    | some (c, j) => ⟨c, legOf n s left, j, moveS s (legOf n s left), partsOf s (legOf n s left)⟩
    | none => ⟨5, legOf n s left, (atEnd n (headE s)).1, moveS s (legOf n s left), partsOf s (legOf n s left)⟩
  | k + 1, s, left => match stopAt n lies s left with
    | some (c, j) => ⟨c, legOf n s left, j, moveS s (legOf n s left), partsOf s (legOf n s left)⟩
    | none =>
      let d := drv n lies k (enterS n (overL n lies (headE s)).2) (left - legOf n s left)
      ⟨d.code, legOf n s left + d.far, d.joint, d.spot, partsOf s (legOf n s left) ++ d.parts⟩
theorem drv_stop {n : NetT} {lies : List Int} {s : SpotT} {left c j : Int} (h : stopAt n lies s left = some (c, j)) (k : Nat) :
    drv n lies k s left = ⟨c, legOf n s left, j, moveS s (legOf n s left), partsOf s (legOf n s left)⟩ := by
  cases k <;> simp only [drv, h]
theorem drv_full {n : NetT} {lies : List Int} {s : SpotT} {left : Int} (h : stopAt n lies s left = none) :
    drv n lies 0 s left = ⟨5, legOf n s left, (atEnd n (headE s)).1, moveS s (legOf n s left), partsOf s (legOf n s left)⟩ := by
  simp only [drv, h]
theorem drv_on {n : NetT} {lies : List Int} {s : SpotT} {left : Int} (h : stopAt n lies s left = none) (k : Nat) :
    drv n lies (k + 1) s left = ⟨(drv n lies k (enterS n (overL n lies (headE s)).2) (left - legOf n s left)).code, legOf n s left + (drv n lies k (enterS n (overL n lies (headE s)).2) (left - legOf n s left)).far, (drv n lies k (enterS n (overL n lies (headE s)).2) (left - legOf n s left)).joint, (drv n lies k (enterS n (overL n lies (headE s)).2) (left - legOf n s left)).spot, partsOf s (legOf n s left) ++ (drv n lies k (enterS n (overL n lies (headE s)).2) (left - legOf n s left)).parts⟩ := by
  simp only [drv, h]
/-- Are the lies good? -/
def liesB (n : NetT) (lies : List Int) : Bool := decide (lies.length = n.joints.length) && (List.range lies.length).all (fun i => inB (lies.getD i 0) 0 2 && (lies.getD i 0 == 0 || (n.joints.getD i default).kind == 3))
theorem liesB_iff {n : NetT} {lies : List Int} : liesB n lies = true ↔ lies.length = n.joints.length ∧ ∀ i, i < lies.length → 0 ≤ lies.getD i 0 ∧ lies.getD i 0 ≤ 2 ∧ (lies.getD i 0 = 0 ∨ (n.joints.getD i default).kind = 3) := by
  unfold liesB
  simp only [Bool.and_eq_true, decide_eq_true_eq, List.all_eq_true, List.mem_range, Bool.or_eq_true, beq_iff_eq, inB_true]
  refine and_congr Iff.rfl (forall_congr' fun i => imp_congr Iff.rfl ?_)
  omega
/-- Over a joint one comes to an end that lies across. -/
theorem Good.over {n : NetT} (h : Good n) {lies : List Int} (hl : liesB n lies = true) {e : EndT} (he : endB n e = true) (hc : (overL n lies e).1 = 0) : (overL n lies e).2 ∈ acrossE n e := by
  obtain ⟨i, q, ha⟩ := h.at_ he
  obtain ⟨k1, k2, k3, k4⟩ := h.kindAt ha.hi
  have hq := ha.hq
  have hll := liesB_iff.1 hl
  have hli := hll.2 i (by rw [hll.1]; exact ha.hi)
  unfold overL at hc ⊢
  unfold acrossE
  rw [ha.j, ha.i, ha.k] at hc ⊢
  split at hc
  · cases hc
  · rename_i n1
    rw [if_neg n1]
    split at hc
    · rename_i n3
      rw [if_pos n3]
      split at hc
      · cases hc
      · rename_i hz
        rw [if_neg hz]
        unfold acrossJ
        rw [if_neg (by omega), if_pos n3]
        split at hc
        · rename_i hq0
          rw [if_pos hq0, if_pos hq0]
          have : lies.getD i 0 = 1 ∨ lies.getD i 0 = 2 := by omega
          rcases this with e1 | e1 <;> rw [e1] <;> simp
        · rename_i hq0
          rw [if_neg hq0]
          split at hc
          · cases hc
          · rename_i hne
            rw [if_neg hne, if_neg hq0]
            simp
    · rename_i n3
      rw [if_neg n3]
      unfold acrossJ
      have : (n.joints.getD i default).kind = 2 ∨ (n.joints.getD i default).kind = 4 := by omega
      rcases this with e1 | e1
      · rw [if_pos e1]; simp
      · rw [if_neg (by omega), if_neg (by omega), if_pos e1]; simp
end Go.Proofs.Ytckcffjnffcjcaa
