/- The plain law of all spots that drives of one length come to: rounds, told spots, what goes on. No program in sight, no conditions. -/
import Derived.Test.YtckcffjnffcjcaaDrvLaws
set_option linter.unusedVariables false
set_option linter.unusedSimpArgs false
namespace Go.Proofs.Ytckcffjnffcjcaa
/-- Where a drive has come to (at the beginning of a piece) and how far. -/
abbrev ItemT := SpotT × Int
def nextR (n : NetT) (c : ItemT) : List ItemT := (acrossE n (headE c.1)).map (fun e => (enterS n e, c.2 + roomS n c.1))
def toldR (n : NetT) (F : Int) (x : ItemT) : Bool := decide (F - x.2 ≤ roomS n x.1)
def endR (F : Int) (x : ItemT) : SpotT := moveS x.1 (F - x.2)
def addR {α : Type} [DecidableEq α] (l : List α) (x : α) : List α := if x ∈ l then l else l ++ [x]
theorem mem_addR {α : Type} [DecidableEq α] (l : List α) (x y : α) : y ∈ addR l x ↔ y ∈ l ∨ y = x := by
  unfold addR
  split
  · rename_i h
    constructor
    · exact .inl
    · rintro (h2 | rfl)
      · exact h2
      · exact h
  · simp
theorem nodup_addR {α : Type} [DecidableEq α] {l : List α} (h : l.Nodup) (x : α) : (addR l x).Nodup := by
  unfold addR
  split
  · exact h
  · rename_i hx
    rw [List.nodup_append]
    refine ⟨h, by simp, fun a ha b hb => ?_⟩
    have : b = x := by simpa using hb
    subst this
    rintro rfl
    exact hx ha
def lookR (n : NetT) (F : Int) (st : List SpotT × List ItemT) (x : ItemT) : List SpotT × List ItemT :=
  if toldR n F x = true then (addR st.1 (endR F x), st.2) else (st.1, addR st.2 x)
def roundR (n : NetT) (F : Int) (out : List SpotT) (line : List ItemT) : List SpotT × List ItemT := (line.flatMap (nextR n)).foldl (lookR n F) (out, [])
theorem lookR_mem {n : NetT} {F : Int} (xs : List ItemT) : ∀ (st : List SpotT × List ItemT),
    (∀ y, y ∈ (xs.foldl (lookR n F) st).1 ↔ y ∈ st.1 ∨ ∃ x ∈ xs, toldR n F x = true ∧ y = endR F x) ∧ (∀ z, z ∈ (xs.foldl (lookR n F) st).2 ↔ z ∈ st.2 ∨ (z ∈ xs ∧ toldR n F z = false)) := by
  induction xs with
  | nil => intro st; simp
  | cons a xs ih =>
    intro st
    obtain ⟨h1, h2⟩ := ih (lookR n F st a)
    rw [List.foldl_cons]
    constructor
    · intro y
      rw [h1]
      unfold lookR
      split
      · rename_i ht
        rw [mem_addR]
        constructor
        · rintro ((h | h) | ⟨x, hx, h⟩)
          · exact .inl h
          · exact .inr ⟨a, by simp, ht, h⟩
          · exact .inr ⟨x, by simp [hx], h⟩
        · rintro (h | ⟨x, hx, h⟩)
          · exact .inl (.inl h)
          · rcases List.mem_cons.1 hx with rfl | hx
            · exact .inl (.inr h.2)
            · exact .inr ⟨x, hx, h⟩
      · rename_i ht
        constructor
        · rintro (h | ⟨x, hx, h⟩)
          · exact .inl h
          · exact .inr ⟨x, by simp [hx], h⟩
        · rintro (h | ⟨x, hx, h⟩)
          · exact .inl h
          · rcases List.mem_cons.1 hx with rfl | hx
            · exact absurd h.1 ht
            · exact .inr ⟨x, hx, h⟩
    · intro z
      rw [h2]
      unfold lookR
      split
      · rename_i ht
        constructor
        · rintro (h | ⟨hx, h⟩)
          · exact .inl h
          · exact .inr ⟨by simp [hx], h⟩
        · rintro (h | ⟨hx, h⟩)
          · exact .inl h
          · rcases List.mem_cons.1 hx with rfl | hx
            · rw [ht] at h; cases h
            · exact .inr ⟨hx, h⟩
      · rename_i ht
        have ht' : toldR n F a = false := by simpa using ht
        rw [mem_addR]
        constructor
        · rintro ((h | h) | ⟨hx, h⟩)
          · exact .inl h
          · subst h; exact .inr ⟨by simp, ht'⟩
          · exact .inr ⟨by simp [hx], h⟩
        · rintro (h | ⟨hx, h⟩)
          · exact .inl (.inl h)
          · rcases List.mem_cons.1 hx with rfl | hx
            · exact .inl (.inr rfl)
            · exact .inr ⟨hx, h⟩
theorem lookR_nodup {n : NetT} {F : Int} (xs : List ItemT) : ∀ (st : List SpotT × List ItemT), st.1.Nodup → st.2.Nodup → (xs.foldl (lookR n F) st).1.Nodup ∧ (xs.foldl (lookR n F) st).2.Nodup := by
  induction xs with
  | nil => intro st h1 h2; exact ⟨h1, h2⟩
  | cons a xs ih =>
    intro st h1 h2
    rw [List.foldl_cons]
    refine ih _ ?_ ?_ <;> (unfold lookR; split)
    · exact nodup_addR h1 _
    · exact h1
    · exact h2
    · exact nodup_addR h2 _
/-- Round by round, at most k more. -/
def reachGo (n : NetT) (F : Int) : Nat → List SpotT → List ItemT → Option (List SpotT)
  | _, out, [] => some out
  | 0, _, _ :: _ => none
  | k + 1, out, c :: line =>
    if 200 < (roundR n F out (c :: line)).1.length ∨ 1000 < (roundR n F out (c :: line)).2.length ∨ k = 0 then none
    else reachGo n F k (roundR n F out (c :: line)).1 (roundR n F out (c :: line)).2
def spotLt (a b : SpotT) : Bool := decide (a.piece < b.piece ∨ a.piece = b.piece ∧ (a.at_ < b.at_ ∨ a.at_ = b.at_ ∧ a.way < b.way))
theorem spotLt_iff {a b : SpotT} : spotLt a b = true ↔ (a.piece < b.piece ∨ a.piece = b.piece ∧ (a.at_ < b.at_ ∨ a.at_ = b.at_ ∧ a.way < b.way)) := by unfold spotLt; simp
theorem spotLt_total {a b : SpotT} (h : a ≠ b) : spotLt a b = true ∨ spotLt b a = true := by
  rw [spotLt_iff, spotLt_iff]
  by_cases h1 : a.piece = b.piece
  · by_cases h2 : a.at_ = b.at_
    · have : a.way ≠ b.way := fun h3 => h (SpotT.ext_iff.1 ⟨h1, h2, h3⟩)
      omega
    · omega
  · omega
theorem spotLt_irrefl (a : SpotT) : spotLt a a = false := by unfold spotLt; simp
theorem spotLt_trans {a b c : SpotT} (h : spotLt a b = true) (h2 : spotLt b c = true) : spotLt a c = true := by
  rw [spotLt_iff] at *; omega
/-- Two ascending lists of the same spots are one. -/
theorem sorted_unique : ∀ {l m : List SpotT}, l.Pairwise (fun a b => spotLt a b = true) → m.Pairwise (fun a b => spotLt a b = true) → (∀ x, x ∈ l ↔ x ∈ m) → l = m
  | [], [], _, _, _ => rfl
  | [], b :: m, _, _, h => absurd ((h b).2 (by simp)) (by simp)
  | a :: l, [], _, _, h => absurd ((h a).1 (by simp)) (by simp)
  | a :: l, b :: m, hl, hm, h => by
    rw [List.pairwise_cons] at hl hm
    have hab : a = b := by
      rcases List.mem_cons.1 ((h a).1 (by simp)) with e | e
      · exact e
      · rcases List.mem_cons.1 ((h b).2 (by simp)) with e2 | e2
        · exact e2.symm
        · have := spotLt_trans (hm.1 a e) (hl.1 b e2)
          rw [spotLt_irrefl] at this; cases this
    subst hab
    congr 1
    refine sorted_unique hl.2 hm.2 fun x => ?_
    have hna : ∀ {k : List SpotT}, (∀ b ∈ k, spotLt a b = true) → a ∉ k := fun hk hmem => by
      have := hk a hmem
      rw [spotLt_irrefl] at this; cases this
    constructor
    · intro hx
      rcases List.mem_cons.1 ((h x).1 (by simp [hx])) with rfl | e
      · exact absurd hx (hna hl.1)
      · exact e
    · intro hx
      rcases List.mem_cons.1 ((h x).2 (by simp [hx])) with rfl | e
      · exact absurd hx (hna hm.1)
      · exact e
end Go.Proofs.Ytckcffjnffcjcaa
