/- What the reference's Reach answers. No program in sight, no conditions. -/
import Derived.Test.YtckcffjnffcjcaaReachLaw
import Derived.Test.YtckcffjnffcjcaaSpot1
set_option linter.unusedVariables false
set_option linter.unusedSimpArgs false
namespace Go.Proofs.Ytckcffjnffcjcaa
def sortS (l : List SpotT) : List SpotT := l.mergeSort (fun a b => !spotLt b a)
theorem sortS_mem (l : List SpotT) (x : SpotT) : x ∈ sortS l ↔ x ∈ l := (List.mergeSort_perm l _).mem_iff
theorem sortS_len (l : List SpotT) : (sortS l).length = l.length := (List.mergeSort_perm l _).length_eq
theorem spotLt_asymm {a b : SpotT} (h : spotLt a b = true) : spotLt b a = false := by
  rw [Bool.eq_false_iff]; intro h2
  have := spotLt_trans h h2
  rw [spotLt_irrefl] at this; cases this
theorem sortS_sorted {l : List SpotT} (h : l.Nodup) : (sortS l).Pairwise (fun a b => spotLt a b = true) := by
  have h1 : (sortS l).Pairwise (fun a b => (!spotLt b a) = true) := List.pairwise_mergeSort (fun a b c hab hbc => by
      simp only [Bool.not_eq_true'] at hab hbc ⊢
      rw [Bool.eq_false_iff] at hab hbc ⊢
      rw [ne_eq, spotLt_iff] at *
      omega) (fun a b => by
      by_cases e : a = b
      · subst e; rw [spotLt_irrefl]; rfl
      · rcases spotLt_total e with h | h
        · rw [spotLt_asymm h]; rfl
        · rw [spotLt_asymm h]; simp) l
  have h2 : (sortS l).Nodup := (List.mergeSort_perm l _).nodup_iff.2 h
  refine (h1.and h2).imp fun {a b} hab => ?_
  rcases spotLt_total hab.2 with h | h
  · exact h
  · rw [h] at hab; simp at hab
theorem sortS_eq {l m : List SpotT} (hl : l.Nodup) (hm : m.Pairwise (fun a b => spotLt a b = true)) (h : ∀ x, x ∈ m ↔ x ∈ l) : m = sortS l :=
  sorted_unique hm (sortS_sorted hl) (fun x => by rw [sortS_mem]; exact h x)
def reachB (n : NetT) (s : SpotT) (F : Int) : Bool := spotOkB n s && inB F 0 1000000
def reachV (n : NetT) (s : SpotT) (F : Int) : List SpotT :=
  if reachB n s F = true then (if F ≤ roomS n s then [moveS s F] else match reachGo n F 1001 [] [(s, 0)] with
    | none => []
    | some out => sortS out) else []
theorem reachGo_few {n : NetT} {F : Int} : ∀ (k : Nat) (out : List SpotT) (line : List ItemT) (R : List SpotT), out.length ≤ 200 → reachGo n F k out line = some R → R.length ≤ 200
  | _, out, [], R, h, hr => by simp only [reachGo, Option.some.injEq] at hr; subst hr; exact h
  | 0, out, c :: line, R, h, hr => by simp [reachGo] at hr
  | k + 1, out, c :: line, R, h, hr => by
    simp only [reachGo] at hr
    split at hr
    · cases hr
    · rename_i hn
      exact reachGo_few k _ _ R (by omega) hr
theorem reachV_len (n : NetT) (s : SpotT) (F : Int) : (reachV n s F).length ≤ 1000000000000 := by
  unfold reachV
  split
  · split
    · simp
    · split
      · simp
      · rename_i out h
        rw [sortS_len]
        have := reachGo_few 1001 [] _ out (by simp) h
        omega
  · simp
theorem reachB_is {n : NetT} {s : SpotT} {F : Int} (h : reachB n s F = true) : netGood n = true ∧ spotB n s = true ∧ 0 ≤ F ∧ F ≤ 1000000 := by
  unfold reachB spotOkB at h
  simp only [Bool.and_eq_true] at h
  have := inB_true.1 h.2
  exact ⟨h.1.1, h.1.2, this.1, this.2⟩
end Go.Proofs.Ytckcffjnffcjcaa
