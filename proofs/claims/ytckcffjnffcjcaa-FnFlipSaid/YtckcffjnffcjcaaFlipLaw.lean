/- The plain law of a piece laid the other way round. No program in sight, no conditions. -/
import Derived.Test.YtckcffjnffcjcaaDrvLaws
set_option linter.unusedVariables false
set_option linter.unusedSimpArgs false
namespace Go.Proofs.Ytckcffjnffcjcaa
def flipE (k : Int) (e : EndT) : EndT := if e.piece = k then ⟨e.piece, 1 - e.side⟩ else e
def flipJ (k : Int) (j : JointT) : JointT := ⟨j.kind, j.name, j.ends.map (flipE k)⟩
def flipN (n : NetT) (k : Int) : NetT := ⟨n.pieces, n.joints.map (flipJ k)⟩
def flipS (n : NetT) (k : Int) (s : SpotT) : SpotT := if s.piece = k then ⟨s.piece, lenP n k - s.at_, -s.way⟩ else s
theorem flipE_piece (k : Int) (e : EndT) : (flipE k e).piece = e.piece := by unfold flipE; split <;> rfl
theorem flipE_twice (k : Int) (e : EndT) : flipE k (flipE k e) = e := by
  unfold flipE
  by_cases h : e.piece = k
  · rw [if_pos h, if_pos h]
    obtain ⟨p, s⟩ := e
    simp only [EndT.mk.injEq, true_and]; omega
  · rw [if_neg h, if_neg h]
theorem flipE_inj {k : Int} {a b : EndT} (h : flipE k a = flipE k b) : a = b := by
  rw [← flipE_twice k a, h, flipE_twice]
theorem find_congr {α : Type} {p q : α → Bool} : ∀ {l : List α}, (∀ x ∈ l, p x = q x) → l.find? p = l.find? q
  | [], _ => rfl
  | a :: l, h => by
    rw [List.find?_cons, List.find?_cons, h a (by simp), find_congr (fun x hx => h x (by simp [hx]))]
theorem flip_joint (n : NetT) (k : Int) (i : Nat) : (flipN n k).joints.getD i default = flipJ k (n.joints.getD i default) := by
  unfold flipN
  simp only
  rw [List.getD_eq_getElem?_getD, List.getD_eq_getElem?_getD, List.getElem?_map]
  cases n.joints[i]? <;> rfl
theorem flip_joints_length (n : NetT) (k : Int) : (flipN n k).joints.length = n.joints.length := by unfold flipN; simp
theorem flip_ends_length (k : Int) (j : JointT) : (flipJ k j).ends.length = j.ends.length := by unfold flipJ; simp
theorem flip_end (k : Int) (j : JointT) {q : Nat} (h : q < j.ends.length) : (flipJ k j).ends.getD q default = flipE k (j.ends.getD q default) := by
  unfold flipJ
  simp only
  rw [getD_at _ _ (by simpa using h), getD_at _ _ h, List.getElem_map]
theorem flip_pos (k : Int) (j : JointT) (e : EndT) : posOf (flipJ k j).ends (flipE k e) = posOf j.ends e := by
  unfold posOf
  rw [flip_ends_length]
  refine find_congr fun q hq => ?_
  rw [flip_end k j (List.mem_range.1 hq)]
  exact decide_eq_decide.2 ⟨fun h => flipE_inj h, fun h => by rw [h]⟩
theorem flip_at (n : NetT) (k : Int) (e : EndT) : atEnd (flipN n k) (flipE k e) = atEnd n e := by
  have h : (List.range (flipN n k).joints.length).find? (fun i => (posOf ((flipN n k).joints.getD i default).ends (flipE k e)).isSome) = (List.range n.joints.length).find? (fun i => (posOf (n.joints.getD i default).ends e).isSome) := by
    rw [flip_joints_length]
    refine find_congr fun i _ => ?_
    rw [flip_joint, flip_pos]
  unfold atEnd
  rw [h]
  split
  · rw [flip_joint, flip_pos]
  · rfl
theorem flip_endB (n : NetT) (k : Int) (e : EndT) : endB (flipN n k) (flipE k e) = endB n e := by
  have : endB (flipN n k) (flipE k e) = true ↔ endB n e = true := by
    rw [endB_iff, endB_iff, flipE_piece]
    have hp : (flipN n k).pieces = n.pieces := rfl
    rw [hp]
    unfold flipE
    split <;> simp only <;> omega
  cases h : endB n e with
  | true => exact this.2 h
  | false => rw [Bool.eq_false_iff]; intro h2; rw [this.1 h2] at h; cases h
theorem flip_kind (k : Int) (j : JointT) : (flipJ k j).kind = j.kind := rfl
theorem flip_len (n : NetT) (k p : Int) : lenP (flipN n k) p = lenP n p := rfl
section
variable {n : NetT} {lies : List Int}
theorem flip_across (hg : Good n) (k : Int) {e : EndT} (he : endB n e = true) : acrossE (flipN n k) (flipE k e) = (acrossE n e).map (flipE k) := by
  obtain ⟨i, q, ha⟩ := hg.at_ he
  obtain ⟨k1, k2, k3, k4⟩ := hg.kindAt ha.hi
  have hq := ha.hq
  have hi : iOf (flipN n k) (flipE k e) = i := by unfold iOf; rw [flip_at, ha.eq]; rfl
  have hk : kOf (flipN n k) (flipE k e) = q := by unfold kOf; rw [flip_at, ha.eq]; rfl
  have hj : jOf (flipN n k) (flipE k e) = flipJ k (n.joints.getD i default) := by unfold jOf; rw [hi, flip_joint]
  unfold acrossE
  rw [hj, hk, ha.j, ha.k]
  unfold acrossJ
  rw [flip_kind]
  split
  · rename_i h; rw [h] at k3; rw [flip_end k _ (by omega)]; rfl
  · split
    · rename_i h; rw [h] at k3
      split
      · rw [flip_end k _ (by omega), flip_end k _ (by omega)]; rfl
      · rw [flip_end k _ (by omega)]; rfl
    · split
      · rename_i h; rw [h] at k3; rw [flip_end k _ (by have := cross4_lt (k := q) (by omega); omega)]; rfl
      · rfl
theorem flip_over (hg : Good n) (hl : liesB n lies = true) (k : Int) {e : EndT} (he : endB n e = true) : overL (flipN n k) lies (flipE k e) = ((overL n lies e).1, flipE k (overL n lies e).2) := by
  have hac := flip_across hg k he
  obtain ⟨i, q, ha⟩ := hg.at_ he
  obtain ⟨k1, k2, k3, k4⟩ := hg.kindAt ha.hi
  have hq := ha.hq
  have hll := liesB_iff.1 hl
  have hli := hll.2 i (by rw [hll.1]; exact ha.hi)
  have hi : iOf (flipN n k) (flipE k e) = i := by unfold iOf; rw [flip_at, ha.eq]; rfl
  have hk : kOf (flipN n k) (flipE k e) = q := by unfold kOf; rw [flip_at, ha.eq]; rfl
  have hj : jOf (flipN n k) (flipE k e) = flipJ k (n.joints.getD i default) := by unfold jOf; rw [hi, flip_joint]
  unfold overL
  rw [hac, hj, hk, hi, ha.j, ha.k, ha.i, flip_kind]
  split
  · rfl
  · rename_i h1
    split
    · rename_i h3
      rw [h3] at k3
      split
      · rfl
      · split
        · rw [flip_end k _ (by omega)]
        · split
          · rfl
          · rw [flip_end k _ (by omega)]
    · rename_i h3
      have hne : acrossE n e ≠ [] := by
        unfold acrossE acrossJ
        rw [ha.j, ha.k]
        have : (n.joints.getD i default).kind = 2 ∨ (n.joints.getD i default).kind = 4 := by omega
        rcases this with h | h
        · rw [if_pos h]; simp
        · rw [if_neg (by omega), if_neg h3, if_pos h]; simp
      obtain ⟨a, l, hal⟩ := List.exists_cons_of_ne_nil hne
      rw [hal]; rfl
theorem flip_enter (k : Int) {e : EndT} (he : endB n e = true) : enterS (flipN n k) (flipE k e) = flipS n k (enterS n e) := by
  have := endB_iff.1 he
  obtain ⟨p, d⟩ := e
  simp only at this
  have hd : d = 0 ∨ d = 1 := by omega
  unfold enterS flipE flipS
  by_cases h : p = k
  · subst h
    rcases hd with rfl | rfl <;> simp [flip_len]
  · rcases hd with rfl | rfl <;> simp [h, flip_len]
theorem flip_head (k : Int) {s : SpotT} (hw : s.way = 1 ∨ s.way = -1) : headE (flipS n k s) = flipE k (headE s) := by
  obtain ⟨p, a, w⟩ := s
  simp only at hw
  unfold headE flipS flipE
  by_cases h : p = k
  · rcases hw with rfl | rfl <;> simp [h]
  · simp [h]
theorem flip_room (k : Int) {s : SpotT} (hw : s.way = 1 ∨ s.way = -1) : roomS (flipN n k) (flipS n k s) = roomS n s := by
  obtain ⟨p, a, w⟩ := s
  simp only at hw
  unfold roomS flipS
  by_cases h : p = k
  · subst h
    rcases hw with rfl | rfl <;> simp [flip_len] <;> omega
  · simp [h, flip_len]
theorem flip_move (k : Int) (s : SpotT) (r : Int) : moveS (flipS n k s) r = flipS n k (moveS s r) := by
  unfold moveS flipS
  by_cases h : s.piece = k
  · simp only [h, if_pos, SpotT.mk.injEq, true_and, and_true]
    rw [Int.mul_neg]; omega
  · simp only [h, if_neg, not_false_eq_true]
theorem flip_spotB (hg : Good n) (k : Int) (s : SpotT) : spotB (flipN n k) (flipS n k s) = spotB n s := by
  have : spotB (flipN n k) (flipS n k s) = true ↔ spotB n s = true := by
    rw [spotB_iff, spotB_iff]
    have hp : (flipN n k).pieces = n.pieces := rfl
    rw [hp]
    unfold flipS
    by_cases h : s.piece = k
    · subst h
      simp only [if_pos, flip_len]
      omega
    · simp only [h, if_neg, not_false_eq_true, flip_len]
  cases h : spotB n s with
  | true => exact this.2 h
  | false => rw [Bool.eq_false_iff]; intro h2; rw [this.1 h2] at h; cases h
theorem flip_stop (hg : Good n) (hl : liesB n lies = true) (k : Int) {s : SpotT} (hs : spotB n s = true) (left : Int) : stopAt (flipN n k) lies (flipS n k s) left = stopAt n lies s left ∧ legOf (flipN n k) (flipS n k s) left = legOf n s left := by
  have hw := way_cases hs
  have e1 : legOf (flipN n k) (flipS n k s) left = legOf n s left := by unfold legOf; rw [flip_room k hw]
  refine ⟨?_, e1⟩
  unfold stopAt
  rw [e1, flip_head k hw, flip_over hg hl k (headE_ok hs), flip_at]
def flipT (n : NetT) (k : Int) (d : Int × Int × Int × SpotT) : Int × Int × Int × SpotT := (d.1, d.2.1, d.2.2.1, flipS n k d.2.2.2)
/-- Drives are the same. -/
theorem flip_drv (hg : Good n) (hl : liesB n lies = true) (k : Int) : ∀ (m : Nat) (s : SpotT) (a : Int), spotB n s = true → (drv (flipN n k) lies m (flipS n k s) a).told = flipT n k (drv n lies m s a).told
  | m, s, a, hs => by
    obtain ⟨e1, e2⟩ := flip_stop hg hl k hs a
    have hw := way_cases hs
    cases hst : stopAt n lies s a with
    | some cj =>
      obtain ⟨c, j⟩ := cj
      rw [told_stop hst, told_stop (e1.trans hst), e2, flip_move]
      rfl
    | none =>
      cases m with
      | zero =>
        rw [told_full hst, told_full (e1.trans hst), e2, flip_move, flip_head k hw, flip_at]
        rfl
      | succ m =>
        obtain ⟨o1, o2, o3⟩ := over_ok hg hl hs hst
        rw [told_on hst, told_on (e1.trans hst), e2, flip_head k hw, flip_over hg hl k (headE_ok hs)]
        simp only
        rw [flip_enter k o2, flip_drv hg hl k m _ _ o3]
        rfl
end
/-! ### A right net stays right -/
theorem flip_allEnds (n : NetT) (k : Int) : allEnds (flipN n k) = (allEnds n).map (flipE k) := by
  unfold allEnds flipN
  simp only
  rw [List.flatMap_map, List.map_flatMap]
  rfl
theorem count_map_inj {α : Type} [BEq α] [LawfulBEq α] {f : α → α} (hf : ∀ a b, f a = f b → a = b) (l : List α) (a : α) : (l.map f).count (f a) = l.count a := by
  induction l with
  | nil => rfl
  | cons b l ih =>
    rw [List.map_cons, List.count_cons, List.count_cons, ih]
    congr 1
    by_cases h : b = a
    · subst h; simp
    · have h2 : f b ≠ f a := fun h2 => h (hf _ _ h2)
      simp [h, h2]
theorem flip_uses (n : NetT) (k : Int) (e : EndT) : uses (flipN n k) (flipE k e) = uses n e := by
  unfold uses
  rw [flip_allEnds]
  exact count_map_inj (fun a b => flipE_inj) _ _
theorem flip_badUse (n : NetT) (k : Int) (i : Nat) : badUse (flipN n k) i = badUse n i := by
  unfold badUse
  by_cases h : (i : Int) = k
  · have h0 : flipE k ⟨i, 0⟩ = ⟨i, 1⟩ := by unfold flipE; rw [if_pos h]; simp
    have h1 : flipE k ⟨i, 1⟩ = ⟨i, 0⟩ := by unfold flipE; rw [if_pos h]; simp
    rw [← flip_uses n k ⟨i, 0⟩, ← flip_uses n k ⟨i, 1⟩, h0, h1, Bool.or_comm]
  · have h0 : ∀ d, flipE k ⟨i, d⟩ = ⟨i, d⟩ := fun d => by unfold flipE; rw [if_neg h]
    rw [← flip_uses n k ⟨i, 0⟩, ← flip_uses n k ⟨i, 1⟩, h0, h0]
theorem flip_j3 (n : NetT) (k : Int) (j : JointT) : j3 (flipN n k) (flipJ k j) = j3 n j := by
  unfold j3
  rw [flip_kind, flip_ends_length]
  congr 1
  unfold flipJ
  simp only
  rw [List.any_map]
  congr 1
  funext e
  simp only [Function.comp]
  rw [flip_endB]
theorem flip_j4 (n : NetT) (k : Int) (i : Nat) (j : JointT) : j4 (flipN n k) i (flipJ k j) = j4 n i j := by
  unfold j4
  rw [flip_kind]
  have h1 : (flipJ k j).name = j.name := rfl
  rw [h1]
  congr 2
  unfold flipN
  simp only
  rw [← List.map_take, List.any_map]
  rfl
theorem flip_code (n : NetT) (k : Int) (i : Nat) : jointCode (flipN n k) i = jointCode n i := by
  unfold jointCode
  rw [flip_joint, flip_j3, flip_j4]
theorem flip_fault (n : NetT) (k : Int) : netFault (flipN n k) = netFault n := by
  have e1 : tooMany (flipN n k) = tooMany n := by unfold tooMany; rw [flip_joints_length]; rfl
  have e2 : badPiece (flipN n k) = badPiece n := rfl
  have e3 : badUse (flipN n k) = badUse n := funext fun i => flip_badUse n k i
  have e4 : ∀ c : Int, (fun i => jointCode (flipN n k) i == c) = (fun i => jointCode n i == c) := fun c => funext fun i => by rw [flip_code]
  have e5 : (flipN n k).pieces = n.pieces := rfl
  unfold netFault
  rw [e1, e2, e3, e4, e4, e5, flip_joints_length]
theorem flip_good (n : NetT) (k : Int) : netGood (flipN n k) = netGood n := by unfold netGood; rw [flip_fault]
theorem flip_lies (n : NetT) (k : Int) (lies : List Int) : liesB (flipN n k) lies = liesB n lies := by
  unfold liesB
  rw [flip_joints_length]
  congr 1
  congr 1
  funext i
  rw [flip_joint, flip_kind]
end Go.Proofs.Ytckcffjnffcjcaa
