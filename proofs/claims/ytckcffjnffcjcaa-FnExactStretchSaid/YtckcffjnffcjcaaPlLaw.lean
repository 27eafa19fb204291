/- How switches have to lie for steps, in plain lists. No program in sight, no conditions. -/
import Derived.Test.YtckcffjnffcjcaaWays
import Derived.Test.YtckcffjnffcjcaaMaps
set_option linter.unusedVariables false
set_option linter.unusedSimpArgs false
namespace Go.Proofs.Ytckcffjnffcjcaa
/-- What two steps ask of a switch. none: the second does not follow the first; some none: no switch. -/
def stepLie (n : NetT) (s t : StepT) : Option (Option LieT) :=
  if beginS t ∈ acrossE n (lookS s) then
    (if (jOf n (lookS s)).kind = 3 then some (some ⟨(iOf n (lookS s) : Int), (kOf n (lookS s) : Int) + (kOf n (beginS t) : Int)⟩) else some none)
  else none
def addLie (out : List LieT) (x : LieT) : Option (List LieT) :=
  if out.any (fun y => decide (y.joint = x.joint ∧ y.lie ≠ x.lie)) = true then none
  else if out.any (fun y => decide (y.joint = x.joint)) = true then some out
  else some (out ++ [x])
def liesGo (n : NetT) : StepT → List StepT → List LieT → Option (List LieT)
  | _, [], out => some out
  | s, t :: l, out => match stepLie n s t with
    | none => none
    | some none => liesGo n t l out
    | some (some x) => match addLie out x with
      | none => none
      | some o => liesGo n t l o
/-- The whole: the lies of a row of steps. -/
def liesAll (n : NetT) : List StepT → Option (List LieT)
  | [] => some []
  | s :: l => liesGo n s l []
def stepsB (n : NetT) (l : List StepT) : Bool := decide (l.length ≤ 400) && l.all (stepB n)
def pathLiesV (n : NetT) (l : List StepT) : List LieT := if (netGood n && stepsB n l) = true then (liesAll n l).getD [] else []
theorem addLie_len {out o : List LieT} {x : LieT} (h : addLie out x = some o) : o.length ≤ out.length + 1 := by
  unfold addLie at h
  split at h
  · cases h
  · split at h
    · injection h with h; subst h; omega
    · injection h with h; subst h; simp
theorem liesGo_len (n : NetT) : ∀ (l : List StepT) (s : StepT) (out o : List LieT), liesGo n s l out = some o → o.length ≤ out.length + l.length
  | [], s, out, o, h => by simp only [liesGo, Option.some.injEq] at h; subst h; simp
  | t :: l, s, out, o, h => by
    simp only [liesGo] at h
    split at h
    · cases h
    · have := liesGo_len n l t out o h; simp; omega
    · split at h
      · cases h
      · rename_i ha
        have := liesGo_len n l t _ o h
        have := addLie_len ha
        simp; omega
theorem pathLiesV_len (n : NetT) (l : List StepT) : (pathLiesV n l).length ≤ 1000000000000 := by
  unfold pathLiesV
  split
  · rename_i h
    simp only [stepsB, Bool.and_eq_true, decide_eq_true_eq] at h
    cases l with
    | nil => simp [liesAll]
    | cons s l =>
      cases hl : liesAll n (s :: l) with
      | none => simp
      | some o =>
        have := liesGo_len n l s [] o hl
        have h1 := h.2.1
        simp at this h1 ⊢
        omega
  · simp
/-- The lies that a switch has for the ways over it. -/
theorem how_at {n : NetT} (hg : Good n) {a : EndT} (ha : endB n a = true) {q : Nat} (hq : q < (acrossE n a).length) :
    q < (howJ (jOf n a) (kOf n a)).length ∧ (if (jOf n a).kind = 3 then (howJ (jOf n a) (kOf n a)).getD q 0 = (kOf n a : Int) + (kOf n ((acrossE n a).getD q default) : Int) ∧ (howJ (jOf n a) (kOf n a)).getD q 0 ≠ 0 else (howJ (jOf n a) (kOf n a)).getD q 0 = 0) := by
  obtain ⟨i, p, hat⟩ := hg.at_ ha
  obtain ⟨k1, k2, k3, k4⟩ := hg.kindAt hat.hi
  have hpq := hat.hq
  unfold acrossE at hq ⊢
  rw [hat.j, hat.k] at hq ⊢
  unfold acrossJ howJ at *
  split at hq
  · rename_i hk
    simp only [hk, if_true]
    simp only [List.length_cons, List.length_nil] at hq
    obtain rfl : q = 0 := by omega
    simp
  · split at hq
    · rename_i hk2 hk
      rw [hk] at k3
      simp only [hk, if_true, if_false, show ¬ ((3 : Int) = 2) by omega]
      split at hq
      · rename_i hp0
        subst hp0
        simp only [List.length_cons, List.length_nil] at hq
        have : q = 0 ∨ q = 1 := by omega
        rcases this with rfl | rfl
        · have hp := hg.place hat.hi (q := 1) (by omega)
          refine ⟨by simp, ?_, by simp⟩
          show (1 : Int) = ((0 : Nat) : Int) + (kOf n ((n.joints.getD i default).ends.getD 1 default) : Int)
          rw [hp.k]; rfl
        · have hp := hg.place hat.hi (q := 2) (by omega)
          refine ⟨by simp, ?_, by simp⟩
          show (2 : Int) = ((0 : Nat) : Int) + (kOf n ((n.joints.getD i default).ends.getD 2 default) : Int)
          rw [hp.k]; rfl
      · rename_i hp0
        simp only [List.length_cons, List.length_nil] at hq
        obtain rfl : q = 0 := by omega
        have hp := hg.place hat.hi (q := 0) (by omega)
        refine ⟨by simp [hp0], ?_, ?_⟩
        · rw [if_neg hp0, if_neg hp0]
          show (p : Int) = (p : Int) + (kOf n ((n.joints.getD i default).ends.getD 0 default) : Int)
          rw [hp.k]; simp
        · rw [if_neg hp0]
          simp; omega
    · split at hq
      · rename_i hk2 hk3 hk
        simp only [hk, if_true, if_false, show ¬ ((4 : Int) = 2) by omega, show ¬ ((4 : Int) = 3) by omega]
        simp only [List.length_cons, List.length_nil] at hq
        obtain rfl : q = 0 := by omega
        simp
      · simp at hq
theorem comes_eq {n : NetT} {e : EndT} (he : endB n e = true) {t : StepT} (ht : stepB n t = true) : comesS e = t ↔ e = beginS t :=
  ⟨fun h => by rw [← h, begin_comes he], fun h => by rw [h, comes_begin ht]⟩
/-- What the program's way over two steps comes to. -/
theorem stepLie_none {n : NetT} (hg : Good n) {s t : StepT} (hs : stepB n s = true) (ht : stepB n t = true) (h : ∀ e ∈ acrossE n (lookS s), comesS e ≠ t) : stepLie n s t = none := by
  unfold stepLie
  rw [if_neg]
  intro hm
  exact h _ hm (comes_begin ht)
theorem stepLie_some {n : NetT} (hg : Good n) {s t : StepT} (hs : stepB n s = true) (ht : stepB n t = true) {q : Nat} (hq : q < (acrossE n (lookS s)).length) (h : comesS ((acrossE n (lookS s)).getD q default) = t) :
    stepLie n s t = if (howJ (jOf n (lookS s)) (kOf n (lookS s))).getD q 0 = 0 then some none else some (some ⟨(iOf n (lookS s) : Int), (howJ (jOf n (lookS s)) (kOf n (lookS s))).getD q 0⟩) := by
  have ha := lookS_ok hs
  obtain ⟨h1, h2⟩ := how_at hg ha hq
  have hm := getD_mem (acrossE n (lookS s)) q hq
  have hb : (acrossE n (lookS s)).getD q default = beginS t := (comes_eq (hg.across ha hm).1 ht).1 h
  unfold stepLie
  rw [if_pos (by rw [← hb]; exact hm)]
  by_cases hk : (jOf n (lookS s)).kind = 3
  · rw [if_pos hk] at h2 ⊢
    rw [if_neg h2.2, h2.1, hb]
  · rw [if_neg hk] at h2 ⊢
    rw [if_pos h2]
/-- A map that holds what has been told. -/
def LiesOf (lm : List (Int × Int)) (out : List LieT) : Prop := ∀ j v, lk lm j = some v ↔ (⟨j, v⟩ : LieT) ∈ out
theorem LiesOf.nil : LiesOf [] [] := fun j v => by simp [lk]
theorem LiesOf.has {lm : List (Int × Int)} {out : List LieT} (h : LiesOf lm out) {x : LieT} {v : Int} (hv : lk lm x.joint = some v) : addLie out x = if v = x.lie then some out else none := by
  have hm := (h _ _).1 hv
  unfold addLie
  by_cases he : v = x.lie
  · rw [if_pos he, if_neg, if_pos]
    · rw [List.any_eq_true]; exact ⟨_, hm, by simp⟩
    · rw [List.any_eq_true]
      rintro ⟨y, hy, h1⟩
      simp only [decide_eq_true_eq] at h1
      obtain ⟨yj, yl⟩ := y
      simp only at h1
      have := (h _ _).2 hy
      rw [h1.1, hv] at this
      injection this with this
      omega
  · rw [if_neg he, if_pos]
    rw [List.any_eq_true]
    exact ⟨_, hm, by simp [he]⟩
theorem LiesOf.lacks {lm : List (Int × Int)} {out : List LieT} (h : LiesOf lm out) {x : LieT} (hv : lk lm x.joint = none) : addLie out x = some (out ++ [x]) := by
  have hn : ∀ y ∈ out, y.joint ≠ x.joint := fun y hy he => by
    obtain ⟨yj, yl⟩ := y
    simp only at he
    have := (h _ _).2 hy
    rw [he, hv] at this
    cases this
  unfold addLie
  rw [if_neg, if_neg]
  · rw [List.any_eq_true]
    rintro ⟨y, hy, h1⟩
    simp only [decide_eq_true_eq] at h1
    exact hn y hy h1
  · rw [List.any_eq_true]
    rintro ⟨y, hy, h1⟩
    simp only [decide_eq_true_eq] at h1
    exact hn y hy h1.1
theorem LiesOf.up {lm : List (Int × Int)} {out : List LieT} (h : LiesOf lm out) {x : LieT} (hv : lk lm x.joint = none) : LiesOf (up lm x.joint x.lie) (out ++ [x]) := fun j v => by
  obtain ⟨xj, xl⟩ := x
  simp only at hv ⊢
  rw [lk_up, List.mem_append, List.mem_singleton]
  by_cases he : xj = j
  · subst he
    rw [if_pos rfl]
    constructor
    · intro h1; injection h1 with h1; subst h1; exact .inr rfl
    · rintro (h1 | h1)
      · rw [(h _ _).2 h1] at hv; cases hv
      · injection h1 with _ h1; rw [h1]
  · rw [if_neg he]
    constructor
    · intro h1; exact .inl ((h _ _).1 h1)
    · rintro (h1 | h1)
      · exact (h _ _).2 h1
      · injection h1 with h1 _; exact absurd h1.symm he
end Go.Proofs.Ytckcffjnffcjcaa
