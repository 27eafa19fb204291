/- The plain law of shortest ways: the order of walks, the least walk, what both searches come to; no program in sight. No conditions. -/
import Derived.Test.YtckcffjnffcjcaaDrv
set_option linter.unusedVariables false
set_option linter.unusedSimpArgs false
namespace Go.Proofs.Ytckcffjnffcjcaa
def lookS (s : StepT) : EndT := ⟨s.piece, if s.way = 1 then 1 else 0⟩
def comesS (e : EndT) : StepT := ⟨e.piece, if e.side = 0 then 1 else -1⟩
def beginS (s : StepT) : EndT := ⟨s.piece, if s.way = 1 then 0 else 1⟩
/-- The step that looks to an end. -/
def outS (e : EndT) : StepT := ⟨e.piece, if e.side = 0 then -1 else 1⟩
def stepB (n : NetT) (s : StepT) : Bool := inB s.piece 0 ((n.pieces.length : Int) - 1) && (s.way == 1 || s.way == -1)
theorem stepB_iff {n : NetT} {s : StepT} : stepB n s = true ↔ 0 ≤ s.piece ∧ s.piece < (n.pieces.length : Int) ∧ (s.way = 1 ∨ s.way = -1) := by
  unfold stepB
  simp only [Bool.and_eq_true, Bool.or_eq_true, beq_iff_eq, inB_true]
  omega
theorem lookS_ok {n : NetT} {s : StepT} (h : stepB n s = true) : endB n (lookS s) = true := by
  have := stepB_iff.1 h
  rw [endB_iff]
  unfold lookS
  refine ⟨this.1, this.2.1, ?_, ?_⟩ <;> (simp only; split <;> omega)
theorem beginS_ok {n : NetT} {s : StepT} (h : stepB n s = true) : endB n (beginS s) = true := by
  have := stepB_iff.1 h
  rw [endB_iff]
  unfold beginS
  refine ⟨this.1, this.2.1, ?_, ?_⟩ <;> (simp only; split <;> omega)
theorem comesS_ok {n : NetT} {e : EndT} (h : endB n e = true) : stepB n (comesS e) = true := by
  have := endB_iff.1 h
  rw [stepB_iff]
  unfold comesS
  refine ⟨this.1, this.2.1, ?_⟩
  simp only
  split <;> simp
theorem outS_ok {n : NetT} {e : EndT} (h : endB n e = true) : stepB n (outS e) = true := by
  have := endB_iff.1 h
  rw [stepB_iff]
  unfold outS
  refine ⟨this.1, this.2.1, ?_⟩
  simp only
  split <;> simp
theorem comes_begin {n : NetT} {s : StepT} (h : stepB n s = true) : comesS (beginS s) = s := by
  have := stepB_iff.1 h
  obtain ⟨p, w⟩ := s
  unfold comesS beginS
  simp only at this ⊢
  rcases this.2.2 with rfl | rfl <;> rfl
theorem begin_comes {n : NetT} {e : EndT} (h : endB n e = true) : beginS (comesS e) = e := by
  have := endB_iff.1 h
  obtain ⟨p, w⟩ := e
  unfold comesS beginS
  simp only at this ⊢
  have : w = 0 ∨ w = 1 := by omega
  rcases this with rfl | rfl <;> rfl
theorem look_out {n : NetT} {e : EndT} (h : endB n e = true) : lookS (outS e) = e := by
  have := endB_iff.1 h
  obtain ⟨p, w⟩ := e
  unfold outS lookS
  simp only at this ⊢
  have : w = 0 ∨ w = 1 := by omega
  rcases this with rfl | rfl <;> rfl
theorem out_look {n : NetT} {s : StepT} (h : stepB n s = true) : outS (lookS s) = s := by
  have := stepB_iff.1 h
  obtain ⟨p, w⟩ := s
  unfold outS lookS
  simp only at this ⊢
  rcases this.2.2 with rfl | rfl <;> rfl
/-- The steps to which one comes from a step. -/
def succS (n : NetT) (s : StepT) : List StepT := (acrossE n (lookS s)).map comesS
theorem succ_ok {n : NetT} (hg : Good n) {s t : StepT} (hs : stepB n s = true) (h : t ∈ succS n s) : stepB n t = true := by
  unfold succS at h
  obtain ⟨e, he, rfl⟩ := List.mem_map.1 h
  exact comesS_ok (hg.across (lookS_ok hs) he).1
/-- t leads to s just if the end to which t looks lies across the beginning of s. -/
theorem succ_iff {n : NetT} (hg : Good n) {s t : StepT} (hs : stepB n s = true) (ht : stepB n t = true) : s ∈ succS n t ↔ lookS t ∈ acrossE n (beginS s) := by
  unfold succS
  constructor
  · intro h
    obtain ⟨e, he, rfl⟩ := List.mem_map.1 h
    have := hg.across (lookS_ok ht) he
    rw [begin_comes this.1]
    exact this.2.2
  · intro h
    have := hg.across (beginS_ok hs) h
    exact List.mem_map.2 ⟨beginS s, this.2.2, comes_begin hs⟩
def lenS (n : NetT) (s : StepT) : Int := lenP n s.piece
theorem Good.lenS {n : NetT} (hg : Good n) {s : StepT} (h : stepB n s = true) : 1 ≤ lenS n s ∧ lenS n s ≤ 10000000 := by
  have := stepB_iff.1 h
  exact hg.len this.1 this.2.1
/-- l follows behind s. -/
def Follows (n : NetT) : StepT → List StepT → Prop
  | _, [] => True
  | s, t :: l => t ∈ succS n s ∧ Follows n t l
def lastS (s : StepT) : List StepT → StepT
  | [] => s
  | t :: l => lastS t l
theorem lastS_snoc (s : StepT) (l : List StepT) (t : StepT) : lastS s (l ++ [t]) = t := by
  induction l generalizing s with
  | nil => rfl
  | cons a l ih => exact ih a
theorem follows_snoc {n : NetT} (s : StepT) (l : List StepT) (t : StepT) : Follows n s (l ++ [t]) ↔ Follows n s l ∧ t ∈ succS n (lastS s l) := by
  induction l generalizing s with
  | nil => simp [Follows, lastS]
  | cons a l ih => simp only [List.cons_append, Follows, ih a, lastS, and_assoc]
theorem follows_append {n : NetT} (s : StepT) (l m : List StepT) : Follows n s (l ++ m) ↔ Follows n s l ∧ Follows n (lastS s l) m := by
  induction l generalizing s with
  | nil => simp [Follows, lastS]
  | cons a l ih => simp only [List.cons_append, Follows, ih a, lastS, and_assoc]
theorem follows_ok {n : NetT} (hg : Good n) {s : StepT} (hs : stepB n s = true) {l : List StepT} (h : Follows n s l) : ∀ t ∈ l, stepB n t = true := by
  induction l generalizing s with
  | nil => simp
  | cons a l ih =>
    have ha := succ_ok hg hs h.1
    intro t ht
    rcases List.mem_cons.1 ht with rfl | ht
    · exact ha
    · exact ih ha h.2 t ht
theorem last_ok {n : NetT} (hg : Good n) {s : StepT} (hs : stepB n s = true) {l : List StepT} (h : Follows n s l) : stepB n (lastS s l) = true := by
  induction l generalizing s with
  | nil => exact hs
  | cons a l ih => exact ih (succ_ok hg hs h.1) h.2
/-! ### The order -/
def weighS (n : NetT) (l : List StepT) : Int := (l.map (lenS n)).sum
theorem weighS_append (n : NetT) (l m : List StepT) : weighS n (l ++ m) = weighS n l + weighS n m := by unfold weighS; rw [List.map_append, List.sum_append]
theorem weighS_cons (n : NetT) (s : StepT) (l : List StepT) : weighS n (s :: l) = lenS n s + weighS n l := by unfold weighS; rw [List.map_cons, List.sum_cons]
theorem weighS_one (n : NetT) (s : StepT) : weighS n [s] = lenS n s := by simp [weighS]
theorem weighS_nonneg {n : NetT} (hg : Good n) {l : List StepT} (h : ∀ t ∈ l, stepB n t = true) : (l.length : Int) ≤ weighS n l ∧ weighS n l ≤ 10000000 * (l.length : Int) := by
  induction l with
  | nil => simp [weighS]
  | cons a l ih =>
    have h1 := hg.lenS (h a (by simp))
    have h2 := ih (fun t ht => h t (by simp [ht]))
    rw [weighS_cons, List.length_cons]
    omega
def stepLt (a b : StepT) : Bool := decide (a.piece < b.piece ∨ a.piece = b.piece ∧ a.way < b.way)
theorem stepLt_iff {a b : StepT} : stepLt a b = true ↔ (a.piece < b.piece ∨ a.piece = b.piece ∧ a.way < b.way) := by unfold stepLt; simp
theorem stepLt_total {a b : StepT} (h : a ≠ b) : stepLt a b = true ∨ stepLt b a = true := by
  rw [stepLt_iff, stepLt_iff]
  by_cases h1 : a.piece = b.piece
  · have : a.way ≠ b.way := fun h2 => h (StepT.ext_iff.1 ⟨h1, h2⟩)
    omega
  · omega
theorem stepLt_irrefl (a : StepT) : stepLt a a = false := by unfold stepLt; simp
theorem stepLt_trans {a b c : StepT} (h : stepLt a b = true) (h2 : stepLt b c = true) : stepLt a c = true := by
  rw [stepLt_iff] at *; omega
theorem stepLt_asymm {a b : StepT} (h : stepLt a b = true) : stepLt b a = false := by
  cases h2 : stepLt b a with
  | false => rfl
  | true => have := stepLt_trans h h2; rw [stepLt_irrefl] at this; cases this
def lexB : List StepT → List StepT → Bool
  | a :: l, b :: m => if a = b then lexB l m else stepLt a b
  | _, _ => false
theorem lexB_irrefl (l : List StepT) : lexB l l = false := by
  induction l with
  | nil => rfl
  | cons a l ih => simp only [lexB, if_pos, ih]
theorem lexB_total : ∀ {l m : List StepT}, l.length = m.length → l ≠ m → lexB l m = true ∨ lexB m l = true
  | [], [], _, h => absurd rfl h
  | a :: l, b :: m, h, hn => by
    by_cases e : a = b
    · subst e
      simp only [lexB, if_pos]
      exact lexB_total (by simpa using h) (fun h2 => hn (by rw [h2]))
    · simp only [lexB, if_neg e, if_neg (Ne.symm e)]
      exact stepLt_total e
theorem lexB_trans : ∀ {l m k : List StepT}, lexB l m = true → lexB m k = true → lexB l k = true
  | a :: l, b :: m, c :: k, h, h2 => by
    simp only [lexB] at h h2 ⊢
    by_cases e : a = b
    · subst e
      rw [if_pos rfl] at h
      by_cases e2 : a = c
      · subst e2
        rw [if_pos rfl] at h2 ⊢
        exact lexB_trans h h2
      · rw [if_neg e2] at h2 ⊢
        exact h2
    · rw [if_neg e] at h
      by_cases e2 : b = c
      · subst e2
        rw [if_neg e]
        exact h
      · rw [if_neg e2] at h2
        have := stepLt_trans h h2
        rw [if_neg]
        · exact this
        · rintro rfl
          rw [stepLt_irrefl] at this
          cases this
  | [], _, _, h, _ => by simp [lexB] at h
  | _ :: _, [], _, h, _ => by simp [lexB] at h
  | _ :: _, _ :: _, [], _, h => by simp [lexB] at h
theorem lexB_snoc : ∀ {l m : List StepT} (t : StepT), l.length = m.length → lexB (l ++ [t]) (m ++ [t]) = lexB l m
  | [], [], t, _ => by simp [lexB]
  | a :: l, b :: m, t, h => by
    simp only [List.cons_append, lexB]
    rw [lexB_snoc t (by simpa using h)]
/-- Walk l is less than walk m. -/
def lessW (n : NetT) (l m : List StepT) : Bool :=
  decide (weighS n l < weighS n m) || (decide (weighS n l = weighS n m) && (decide (l.length < m.length) || (decide (l.length = m.length) && lexB l m)))
theorem lessW_iff {n : NetT} {l m : List StepT} : lessW n l m = true ↔ weighS n l < weighS n m ∨ weighS n l = weighS n m ∧ (l.length < m.length ∨ l.length = m.length ∧ lexB l m = true) := by
  unfold lessW
  simp only [Bool.or_eq_true, Bool.and_eq_true, decide_eq_true_eq]
theorem lessW_irrefl (n : NetT) (l : List StepT) : lessW n l l = false := by
  rw [Bool.eq_false_iff]
  intro h
  rcases lessW_iff.1 h with h | ⟨_, h | ⟨_, h⟩⟩
  · omega
  · omega
  · rw [lexB_irrefl] at h; cases h
theorem lessW_trans {n : NetT} {l m k : List StepT} (h : lessW n l m = true) (h2 : lessW n m k = true) : lessW n l k = true := by
  rw [lessW_iff] at *
  rcases h with h | ⟨h, h' | ⟨h', h''⟩⟩ <;> rcases h2 with g | ⟨g, g' | ⟨g', g''⟩⟩
  all_goals first
    | (left; omega)
    | (right; exact ⟨by omega, .inl (by omega)⟩)
    | (right; exact ⟨by omega, .inr ⟨by omega, lexB_trans h'' g''⟩⟩)
theorem lessW_total {n : NetT} {l m : List StepT} (h : l ≠ m) : lessW n l m = true ∨ lessW n m l = true := by
  rw [lessW_iff, lessW_iff]
  by_cases h1 : weighS n l = weighS n m
  · by_cases h2 : l.length = m.length
    · rcases lexB_total h2 h with h3 | h3
      · exact .inl (.inr ⟨h1, .inr ⟨h2, h3⟩⟩)
      · exact .inr (.inr ⟨h1.symm, .inr ⟨h2.symm, h3⟩⟩)
    · rcases Nat.lt_or_gt_of_ne h2 with h3 | h3
      · exact .inl (.inr ⟨h1, .inl h3⟩)
      · exact .inr (.inr ⟨h1.symm, .inl h3⟩)
  · rcases Int.lt_or_gt_of_ne h1 with h3 | h3
    · exact .inl (.inl h3)
    · exact .inr (.inl h3)
/-- No greater: m is not less than l. -/
def leW (n : NetT) (l m : List StepT) : Prop := lessW n m l = false
theorem leW_refl (n : NetT) (l : List StepT) : leW n l l := lessW_irrefl n l
theorem leW_of_less {n : NetT} {l m : List StepT} (h : lessW n l m = true) : leW n l m := by
  unfold leW
  cases h2 : lessW n m l with
  | false => rfl
  | true => have := lessW_trans h h2; rw [lessW_irrefl] at this; cases this
theorem leW_trans {n : NetT} {l m k : List StepT} (h : leW n l m) (h2 : leW n m k) : leW n l k := by
  by_cases e : l = m
  · rw [e]; exact h2
  · by_cases e2 : m = k
    · rw [← e2]; exact h
    · have a : lessW n l m = true := (lessW_total e).resolve_right (by unfold leW at h; rw [h]; simp)
      have b : lessW n m k = true := (lessW_total e2).resolve_right (by unfold leW at h2; rw [h2]; simp)
      exact leW_of_less (lessW_trans a b)
theorem leW_antisymm {n : NetT} {l m : List StepT} (h : leW n l m) (h2 : leW n m l) : l = m := by
  by_cases e : l = m
  · exact e
  · rcases lessW_total (n := n) e with h3 | h3
    · unfold leW at h2; rw [h2] at h3; cases h3
    · unfold leW at h; rw [h] at h3; cases h3
theorem lessW_snoc (n : NetT) (l m : List StepT) (t : StepT) : lessW n (l ++ [t]) (m ++ [t]) = lessW n l m := by
  have h : ∀ l m : List StepT, lessW n (l ++ [t]) (m ++ [t]) = true ↔ lessW n l m = true := fun l m => by
    rw [lessW_iff, lessW_iff, weighS_append, weighS_append, List.length_append, List.length_append]
    constructor
    · rintro (h | ⟨h, h2 | ⟨h2, h3⟩⟩)
      · left; omega
      · right; exact ⟨by omega, .inl (by omega)⟩
      · right
        have : l.length = m.length := by simpa using h2
        rw [lexB_snoc t this] at h3
        exact ⟨by omega, .inr ⟨this, h3⟩⟩
    · rintro (h | ⟨h, h2 | ⟨h2, h3⟩⟩)
      · left; omega
      · right; exact ⟨by omega, .inl (by omega)⟩
      · right
        exact ⟨by omega, .inr ⟨by omega, by rw [lexB_snoc t h2]; exact h3⟩⟩
  cases h1 : lessW n l m with
  | true => exact (h l m).2 h1
  | false => rw [Bool.eq_false_iff]; intro h2; rw [(h l m).1 h2] at h1; cases h1
theorem leW_snoc {n : NetT} {l m : List StepT} (h : leW n l m) (t : StepT) : leW n (l ++ [t]) (m ++ [t]) := by
  unfold leW at *
  rw [lessW_snoc]; exact h
/-- The least walk of one joint or more from s to t. -/
structure Least (n : NetT) (s t : StepT) (l : List StepT) : Prop where
  f : Follows n s l
  ne : l ≠ []
  last : lastS s l = t
  le : ∀ m, Follows n s m → m ≠ [] → lastS s m = t → leW n l m
theorem Least.unique {n : NetT} {s t : StepT} {l m : List StepT} (h : Least n s t l) (h2 : Least n s t m) : l = m :=
  leW_antisymm (h.le m h2.f h2.ne h2.last) (h2.le l h.f h.ne h.last)
def NoWalk (n : NetT) (s t : StepT) : Prop := ∀ m, Follows n s m → m ≠ [] → lastS s m ≠ t
/-! ### The reference's search: round by round -/
abbrev BestT := StepT → Option (List StepT)
def relax (n : NetT) (st : BestT × List (List StepT)) (p : StepT) (x : List StepT) : BestT × List (List StepT) :=
  if (match st.1 p with | none => true | some l => lessW n x l) = true then (fun q => if q = p then some x else st.1 q, st.2 ++ [x]) else st
/-- What one walk of the line leads to. -/
def relaxAll (n : NetT) (s : StepT) (c : List StepT) (st : BestT × List (List StepT)) : BestT × List (List StepT) :=
  (succS n (lastS s c)).foldl (fun st p => relax n st p (c ++ [p])) st
def roundS (n : NetT) (s : StepT) (best : BestT) (line : List (List StepT)) : BestT × List (List StepT) :=
  line.foldl (fun st c => relaxAll n s c st) (best, [])
structure InvR (n : NetT) (s : StepT) (r : Nat) (best : BestT) (line : List (List StepT)) : Prop where
  walk : ∀ p l, best p = some l → Follows n s l ∧ l ≠ [] ∧ lastS s l = p ∧ l.length ≤ r
  least : ∀ m, Follows n s m → m ≠ [] → m.length ≤ r → ∃ l, best (lastS s m) = some l ∧ leW n l m
  line_ : ∀ c, c ∈ line → Follows n s c ∧ c.length = r ∧ c.Nodup
  cur : ∀ p l, best p = some l → l.length = r → l ∈ line
  zero : r = 0 → [] ∈ line
structure MidR (n : NetT) (s : StepT) (r : Nat) (best : BestT) (best' : BestT) (next : List (List StepT)) : Prop where
  walk : ∀ p l, best' p = some l → Follows n s l ∧ l ≠ [] ∧ lastS s l = p ∧ l.length ≤ r + 1
  mono : ∀ p l, best p = some l → ∃ l', best' p = some l' ∧ leW n l' l
  line_ : ∀ c, c ∈ next → Follows n s c ∧ c.length = r + 1 ∧ c.Nodup
  cur : ∀ p l, best' p = some l → l.length = r + 1 → l ∈ next
theorem MidR.start {n : NetT} {s : StepT} {r : Nat} {best : BestT} {line : List (List StepT)} (h : InvR n s r best line) : MidR n s r best best [] :=
  ⟨fun p l hl => by have := h.walk p l hl; exact ⟨this.1, this.2.1, this.2.2.1, by omega⟩, fun p l hl => ⟨l, hl, leW_refl n l⟩, by simp, fun p l hl h2 => by have := h.walk p l hl; omega⟩
theorem MidR.relax {n : NetT} (hg : Good n) {s : StepT} (hs : stepB n s = true) {r : Nat} {best : BestT} {line : List (List StepT)} (h : InvR n s r best line) {st : BestT × List (List StepT)} (hm : MidR n s r best st.1 st.2)
    {c : List StepT} (hc : c ∈ line) {p : StepT} (hp : p ∈ succS n (lastS s c)) :
    MidR n s r best (relax n st p (c ++ [p])).1 (relax n st p (c ++ [p])).2 ∧ (∃ l, (relax n st p (c ++ [p])).1 p = some l ∧ leW n l (c ++ [p])) ∧ ∀ q l, st.1 q = some l → ∃ l', (relax n st p (c ++ [p])).1 q = some l' ∧ leW n l' l := by
  obtain ⟨c1, c2, c3⟩ := h.line_ c hc
  have hf : Follows n s (c ++ [p]) := (follows_snoc s c p).2 ⟨c1, hp⟩
  by_cases ha : (match st.1 p with | none => true | some l => lessW n (c ++ [p]) l) = true
  · have e : Go.Proofs.Ytckcffjnffcjcaa.relax n st p (c ++ [p]) = (fun q => if q = p then some (c ++ [p]) else st.1 q, st.2 ++ [c ++ [p]]) := if_pos ha
    rw [e]
    have hnew : ∀ l, st.1 p = some l → leW n (c ++ [p]) l := fun l hl => by
      rw [hl] at ha
      exact leW_of_less ha
    refine ⟨⟨fun q l hl => ?_, fun q l hl => ?_, fun x hx => ?_, fun q l hl h2 => ?_⟩, ⟨c ++ [p], by simp, leW_refl n _⟩, fun q l hl => ?_⟩
    · simp only at hl
      split at hl
      · rename_i hq
        injection hl with hl
        subst hl hq
        exact ⟨hf, by simp, lastS_snoc s c q, by simp [c2]⟩
      · exact hm.walk q l hl
    · obtain ⟨l', h1, h2⟩ := hm.mono q l hl
      simp only
      by_cases hq : q = p
      · subst hq
        rw [if_pos rfl]
        exact ⟨_, rfl, leW_trans (hnew l' h1) h2⟩
      · rw [if_neg hq]
        exact ⟨l', h1, h2⟩
    · rcases List.mem_append.1 hx with hx | hx
      · exact hm.line_ x hx
      · have : x = c ++ [p] := by simpa using hx
        subst this
        refine ⟨hf, by simp [c2], ?_⟩
        rw [List.nodup_append]
        refine ⟨c3, by simp, fun a ha2 b hb => ?_⟩
        have hb' : b = p := by simpa using hb
        subst hb'
        rintro rfl
        obtain ⟨d1, d2, hd⟩ := List.append_of_mem ha2
        have hpre : Follows n s (d1 ++ [a]) := by
          rw [hd] at c1
          have : d1 ++ a :: d2 = (d1 ++ [a]) ++ d2 := by simp
          rw [this] at c1
          exact ((follows_append s _ _).1 c1).1
        obtain ⟨l, hl, hle⟩ := h.least (d1 ++ [a]) hpre (by simp) (by rw [← c2, hd]; simp)
        rw [lastS_snoc] at hl
        obtain ⟨l', hl', hle'⟩ := hm.mono a l hl
        have h5 := leW_trans hle' hle
        have h6 := leW_trans (hnew l' hl') h5
        unfold leW at h6
        have h7 : lessW n (d1 ++ [a]) (c ++ [a]) = true := by
          rw [lessW_iff]
          left
          have hall := follows_ok hg hs hf
          have h8 : weighS n (c ++ [a]) = weighS n (d1 ++ [a]) + weighS n d2 + lenS n a := by
            rw [hd]
            have : d1 ++ a :: d2 ++ [a] = (d1 ++ [a]) ++ d2 ++ [a] := by simp
            rw [this, weighS_append, weighS_append, weighS_one]
          have h9 := hg.lenS (hall a (by simp))
          have h10 := weighS_nonneg hg (l := d2) (fun t ht => hall t (by rw [hd]; simp [ht]))
          omega
        rw [h6] at h7
        cases h7
    · simp only at hl
      split at hl
      · rename_i hq
        injection hl with hl
        subst hl
        simp
      · exact List.mem_append_left _ (hm.cur q l hl h2)
    · simp only
      by_cases hq : q = p
      · subst hq
        rw [if_pos rfl]
        exact ⟨_, rfl, hnew l hl⟩
      · rw [if_neg hq]
        exact ⟨l, hl, leW_refl n l⟩
  · have e : Go.Proofs.Ytckcffjnffcjcaa.relax n st p (c ++ [p]) = st := if_neg ha
    rw [e]
    refine ⟨hm, ?_, fun q l hl => ⟨l, hl, leW_refl n l⟩⟩
    cases hq : st.1 p with
    | none => rw [hq] at ha; exact absurd rfl ha
    | some l =>
      rw [hq] at ha
      refine ⟨l, rfl, ?_⟩
      unfold leW
      simpa using ha
theorem MidR.relaxAll {n : NetT} (hg : Good n) {s : StepT} (hs : stepB n s = true) {r : Nat} {best : BestT} {line : List (List StepT)} (h : InvR n s r best line) {c : List StepT} (hc : c ∈ line) :
    ∀ (ps : List StepT), (∀ p ∈ ps, p ∈ succS n (lastS s c)) → ∀ {st : BestT × List (List StepT)}, MidR n s r best st.1 st.2 →
    MidR n s r best (ps.foldl (fun st p => Go.Proofs.Ytckcffjnffcjcaa.relax n st p (c ++ [p])) st).1 (ps.foldl (fun st p => Go.Proofs.Ytckcffjnffcjcaa.relax n st p (c ++ [p])) st).2 ∧
      (∀ p ∈ ps, ∃ l, (ps.foldl (fun st p => Go.Proofs.Ytckcffjnffcjcaa.relax n st p (c ++ [p])) st).1 p = some l ∧ leW n l (c ++ [p])) ∧
      ∀ q l, st.1 q = some l → ∃ l', (ps.foldl (fun st p => Go.Proofs.Ytckcffjnffcjcaa.relax n st p (c ++ [p])) st).1 q = some l' ∧ leW n l' l
  | [], _, st, hm => ⟨hm, by simp, fun q l hl => ⟨l, hl, leW_refl n l⟩⟩
  | p :: ps, hp, st, hm => by
    obtain ⟨h1, ⟨l1, h2, h2'⟩, h3⟩ := hm.relax hg hs h hc (hp p (by simp))
    obtain ⟨g1, g2, g3⟩ := MidR.relaxAll hg hs h hc ps (fun q hq => hp q (by simp [hq])) h1
    rw [List.foldl_cons]
    refine ⟨g1, fun q hq => ?_, fun q l hl => ?_⟩
    · rcases List.mem_cons.1 hq with rfl | hq
      · obtain ⟨l', k1, k2⟩ := g3 q l1 h2
        exact ⟨l', k1, leW_trans k2 h2'⟩
      · exact g2 q hq
    · obtain ⟨l', k1, k2⟩ := h3 q l hl
      obtain ⟨l'', k3, k4⟩ := g3 q l' k1
      exact ⟨l'', k3, leW_trans k4 k2⟩
theorem MidR.line {n : NetT} (hg : Good n) {s : StepT} (hs : stepB n s = true) {r : Nat} {best : BestT} {line : List (List StepT)} (h : InvR n s r best line) :
    ∀ (cs : List (List StepT)), (∀ c ∈ cs, c ∈ line) → ∀ {st : BestT × List (List StepT)}, MidR n s r best st.1 st.2 →
    MidR n s r best (cs.foldl (fun st c => Go.Proofs.Ytckcffjnffcjcaa.relaxAll n s c st) st).1 (cs.foldl (fun st c => Go.Proofs.Ytckcffjnffcjcaa.relaxAll n s c st) st).2 ∧
      (∀ c ∈ cs, ∀ p ∈ succS n (lastS s c), ∃ l, (cs.foldl (fun st c => Go.Proofs.Ytckcffjnffcjcaa.relaxAll n s c st) st).1 p = some l ∧ leW n l (c ++ [p])) ∧
      ∀ q l, st.1 q = some l → ∃ l', (cs.foldl (fun st c => Go.Proofs.Ytckcffjnffcjcaa.relaxAll n s c st) st).1 q = some l' ∧ leW n l' l
  | [], _, st, hm => ⟨hm, by simp, fun q l hl => ⟨l, hl, leW_refl n l⟩⟩
  | c :: cs, hc, st, hm => by
    obtain ⟨h1, h2, h3⟩ := MidR.relaxAll hg hs h (hc c (by simp)) (succS n (lastS s c)) (fun p hp => hp) hm
    obtain ⟨g1, g2, g3⟩ := MidR.line hg hs h cs (fun d hd => hc d (by simp [hd])) (st := Go.Proofs.Ytckcffjnffcjcaa.relaxAll n s c st) h1
    rw [List.foldl_cons]
    refine ⟨g1, fun d hd p hp => ?_, fun q l hl => ?_⟩
    · rcases List.mem_cons.1 hd with rfl | hd
      · obtain ⟨l1, k0, k0'⟩ := h2 p hp
        obtain ⟨l', k1, k2⟩ := g3 p l1 k0
        exact ⟨l', k1, leW_trans k2 k0'⟩
      · exact g2 d hd p hp
    · obtain ⟨l', k1, k2⟩ := h3 q l hl
      obtain ⟨l'', k3, k4⟩ := g3 q l' k1
      exact ⟨l'', k3, leW_trans k4 k2⟩
/-- One round more. -/
theorem InvR.step {n : NetT} (hg : Good n) {s : StepT} (hs : stepB n s = true) {r : Nat} {best : BestT} {line : List (List StepT)} (h : InvR n s r best line) : InvR n s (r + 1) (roundS n s best line).1 (roundS n s best line).2 := by
  obtain ⟨h1, h2, h3⟩ := MidR.line hg hs h line (fun c hc => hc) (st := (best, [])) (MidR.start h)
  refine ⟨h1.walk, fun m hf hne hlen => ?_, h1.line_, h1.cur, fun hz => by omega⟩
  by_cases hl : m.length ≤ r
  · obtain ⟨l, k1, k2⟩ := h.least m hf hne hl
    obtain ⟨l', k3, k4⟩ := h3 _ l k1
    exact ⟨l', k3, leW_trans k4 k2⟩
  · have hsplit := List.dropLast_concat_getLast hne
    obtain ⟨m', p, hmp⟩ : ∃ m' p, m = m' ++ [p] := ⟨_, _, hsplit.symm⟩
    subst hmp
    rw [lastS_snoc]
    obtain ⟨f1, f2⟩ := (follows_snoc s m' p).1 hf
    have hm' : m'.length = r := by simp at hlen hl; omega
    by_cases hr : r = 0
    · have : m' = [] := List.eq_nil_of_length_eq_zero (by omega)
      subst this
      exact h2 [] (h.zero hr) p f2
    · have hne' : m' ≠ [] := fun h0 => by rw [h0] at hm'; simp at hm'; omega
      obtain ⟨l, k1, k2⟩ := h.least m' f1 hne' (by omega)
      have hw := h.walk _ l k1
      by_cases hlr : l.length = r
      · obtain ⟨l', k3, k4⟩ := h2 l (h.cur _ l k1 hlr) p (by rw [hw.2.2.1]; exact f2)
        exact ⟨l', k3, leW_trans k4 (leW_snoc k2 p)⟩
      · obtain ⟨l', k3, k4⟩ := h.least (l ++ [p]) ((follows_snoc s l p).2 ⟨hw.1, by rw [hw.2.2.1]; exact f2⟩) (by simp) (by simp; omega)
        rw [lastS_snoc] at k3
        obtain ⟨l'', k5, k6⟩ := h3 p l' k3
        exact ⟨l'', k5, leW_trans k6 (leW_trans k4 (leW_snoc k2 p))⟩
theorem InvR.start (n : NetT) (s : StepT) : InvR n s 0 (fun _ => none) [[]] :=
  ⟨fun p l h => by simp at h, fun m _ h1 h2 => absurd (List.eq_nil_of_length_eq_zero (by omega)) h1, fun c hc => by
    have : c = [] := by simpa using hc
    subst this
    exact ⟨trivial, rfl, List.nodup_nil⟩, fun p l h => by simp at h, fun _ => by simp⟩
/-- Nothing goes on any more: each is the least of all. -/
theorem InvR.stop {n : NetT} (hg : Good n) {s : StepT} (hs : stepB n s = true) {r : Nat} {best : BestT} (h : InvR n s r best []) : (∀ p l, best p = some l → Least n s p l) ∧ ∀ p, best p = none → NoWalk n s p := by
  have hk : ∀ k, InvR n s (r + k) best [] := by
    intro k
    induction k with
    | zero => exact h
    | succ k ih => have := ih.step hg hs; exact this
  constructor
  · intro p l hl
    have := h.walk p l hl
    refine ⟨this.1, this.2.1, this.2.2.1, fun m f1 f2 f3 => ?_⟩
    obtain ⟨l', k1, k2⟩ := (hk m.length).least m f1 f2 (by omega)
    rw [f3, hl] at k1
    injection k1 with k1
    subst k1
    exact k2
  · intro p hp m f1 f2 f3
    obtain ⟨l', k1, k2⟩ := (hk m.length).least m f1 f2 (by omega)
    rw [f3, hp] at k1
    cases k1
/-! ### How long a walk without a step twice can be -/
theorem nodup_le : ∀ (N : Nat) (l : List Nat), l.Nodup → (∀ x ∈ l, x < N) → l.length ≤ N
  | 0, l, _, h => by
    cases l with
    | nil => simp
    | cons a l => exact absurd (h a (by simp)) (by omega)
  | N + 1, l, hn, h => by
    have h1 := nodup_le N (l.filter (fun x => decide (x ≠ N))) (hn.filter _) (fun x hx => by
      have := List.mem_filter.1 hx
      have h2 := h x this.1
      have h3 : x ≠ N := by simpa using this.2
      omega)
    have h2 : l.length ≤ (l.filter (fun x => decide (x ≠ N))).length + 1 := by
      have h3 := List.length_eq_countP_add_countP (fun x => decide (x ≠ N)) (l := l)
      rw [List.countP_eq_length_filter] at h3
      have h4 : l.countP (fun x => decide ¬(decide (x ≠ N)) = true) = l.count N := by
        unfold List.count
        refine List.countP_congr fun x _ => ?_
        simp
      have h5 := List.nodup_iff_count.1 hn N
      omega
    omega
def numS (s : StepT) : Nat := 2 * s.piece.toNat + (if s.way = 1 then 0 else 1)
theorem numS_inj {n : NetT} {a b : StepT} (ha : stepB n a = true) (hb : stepB n b = true) (h : numS a = numS b) : a = b := by
  have h1 := stepB_iff.1 ha
  have h2 := stepB_iff.1 hb
  unfold numS at h
  refine StepT.ext_iff.1 ?_
  rcases h1.2.2 with e1 | e1 <;> rcases h2.2.2 with e2 | e2 <;> rw [e1, e2] at h ⊢ <;> simp at h ⊢ <;> omega
theorem numS_lt {n : NetT} {a : StepT} (ha : stepB n a = true) : numS a < 2 * n.pieces.length := by
  have h1 := stepB_iff.1 ha
  unfold numS
  split <;> omega
theorem nodup_steps {n : NetT} {l : List StepT} (h : l.Nodup) (hs : ∀ t ∈ l, stepB n t = true) : l.length ≤ 2 * n.pieces.length := by
  have h1 : (l.map numS).Nodup := by
    rw [List.nodup_iff_pairwise_ne, List.pairwise_map]
    refine List.Pairwise.imp_of_mem ?_ (List.nodup_iff_pairwise_ne.1 h)
    intro a b ha hb hab he
    exact hab (numS_inj (hs a ha) (hs b hb) he)
  have := nodup_le (2 * n.pieces.length) (l.map numS) h1 (fun x hx => by
    obtain ⟨a, ha, rfl⟩ := List.mem_map.1 hx
    exact numS_lt (hs a ha))
  simpa using this
theorem InvR.bound {n : NetT} (hg : Good n) {s : StepT} (hs : stepB n s = true) {r : Nat} {best : BestT} {line : List (List StepT)} (h : InvR n s r best line) (hne : line ≠ []) : r ≤ 2 * n.pieces.length := by
  cases line with
  | nil => exact absurd rfl hne
  | cons c line =>
    obtain ⟨c1, c2, c3⟩ := h.line_ c (by simp)
    rw [← c2]
    exact nodup_steps c3 (follows_ok hg hs c1)
end Go.Proofs.Ytckcffjnffcjcaa
