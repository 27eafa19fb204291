/- Texts of this work, of each what the claim leans on: Ways, Dr1, Dr5, Gen6, Maps2, Costs, PlLaw, StrDef, ShortLaw, Pl1, Pl2, PlStep. No conditions. -/
import Derived.Test.YtckcffjnffcjcaaVLp4
import Derived.Deep.RegionHeld3
import Derived.Maps.RangeRun
import Derived.Maps.RangeWalk
import Derived.Outline
set_option linter.unusedVariables false
set_option linter.unusedSimpArgs false
namespace Go.Proofs.Ytckcffjnffcjcaa
def lookS (s : StepT) : EndT := ⟨s.piece, if s.way = 1 then 1 else 0⟩
def comesS (e : EndT) : StepT := ⟨e.piece, if e.side = 0 then 1 else -1⟩
def beginS (s : StepT) : EndT := ⟨s.piece, if s.way = 1 then 0 else 1⟩
/-- The step that looks to an end. -/
def outS (e : EndT) : StepT := ⟨e.piece, if e.side = 0 then -1 else 1⟩
def stepB (n : NetT) (s : StepT) : Bool := inB s.piece 0 ((n.pieces.length : Int) - 1) && (s.way == 1 || s.way == -1)
theorem stepB_iff {n : NetT} {s : StepT} : stepB n s = true ↔ 0 ≤ s.piece ∧ s.piece < (n.pieces.length : Int) ∧ (s.way = 1 ∨ s.way = -1) := by
  unfold stepB
  simp only [Bool.and_eq_true, Bool.or_eq_true, beq_iff_eq, inB_true]
  omega
theorem lookS_ok {n : NetT} {s : StepT} (h : stepB n s = true) : endB n (lookS s) = true := by
  have := stepB_iff.1 h
  rw [endB_iff]
  unfold lookS
  refine ⟨this.1, this.2.1, ?_, ?_⟩ <;> (simp only; split <;> omega)
theorem beginS_ok {n : NetT} {s : StepT} (h : stepB n s = true) : endB n (beginS s) = true := by
  have := stepB_iff.1 h
  rw [endB_iff]
  unfold beginS
  refine ⟨this.1, this.2.1, ?_, ?_⟩ <;> (simp only; split <;> omega)
theorem comesS_ok {n : NetT} {e : EndT} (h : endB n e = true) : stepB n (comesS e) = true := by
  have := endB_iff.1 h
  rw [stepB_iff]
  unfold comesS
  refine ⟨this.1, this.2.1, ?_⟩
  simp only
  split <;> simp
theorem outS_ok {n : NetT} {e : EndT} (h : endB n e = true) : stepB n (outS e) = true := by
  have := endB_iff.1 h
  rw [stepB_iff]
  unfold outS
  refine ⟨this.1, this.2.1, ?_⟩
  simp only
  split <;> simp
theorem comes_begin {n : NetT} {s : StepT} (h : stepB n s = true) : comesS (beginS s) = s := by
  have := stepB_iff.1 h
  obtain ⟨p, w⟩ := s
  unfold comesS beginS
  simp only at this ⊢
  rcases this.2.2 with rfl | rfl <;> rfl
theorem begin_comes {n : NetT} {e : EndT} (h : endB n e = true) : beginS (comesS e) = e := by
  have := endB_iff.1 h
  obtain ⟨p, w⟩ := e
  unfold comesS beginS
  simp only at this ⊢
  have : w = 0 ∨ w = 1 := by omega
  rcases this with rfl | rfl <;> rfl
theorem look_out {n : NetT} {e : EndT} (h : endB n e = true) : lookS (outS e) = e := by
  have := endB_iff.1 h
  obtain ⟨p, w⟩ := e
  unfold outS lookS
  simp only at this ⊢
  have : w = 0 ∨ w = 1 := by omega
  rcases this with rfl | rfl <;> rfl
theorem out_look {n : NetT} {s : StepT} (h : stepB n s = true) : outS (lookS s) = s := by
  have := stepB_iff.1 h
  obtain ⟨p, w⟩ := s
  unfold outS lookS
  simp only at this ⊢
  rcases this.2.2 with rfl | rfl <;> rfl
/-- The steps to which one comes from a step. -/
def succS (n : NetT) (s : StepT) : List StepT := (acrossE n (lookS s)).map comesS
theorem succ_ok {n : NetT} (hg : Good n) {s t : StepT} (hs : stepB n s = true) (h : t ∈ succS n s) : stepB n t = true := by
  unfold succS at h
  obtain ⟨e, he, rfl⟩ := List.mem_map.1 h
  exact comesS_ok (hg.across (lookS_ok hs) he).1
/-- t leads to s just if the end to which t looks lies across the beginning of s. -/
theorem succ_iff {n : NetT} (hg : Good n) {s t : StepT} (hs : stepB n s = true) (ht : stepB n t = true) : s ∈ succS n t ↔ lookS t ∈ acrossE n (beginS s) := by
  unfold succS
  constructor
  · intro h
    obtain ⟨e, he, rfl⟩ := List.mem_map.1 h
    have := hg.across (lookS_ok ht) he
    rw [begin_comes this.1]
    exact this.2.2
  · intro h
    have := hg.across (beginS_ok hs) h
    exact List.mem_map.2 ⟨beginS s, this.2.2, comes_begin hs⟩
def lenS (n : NetT) (s : StepT) : Int := lenP n s.piece
theorem Good.lenS {n : NetT} (hg : Good n) {s : StepT} (h : stepB n s = true) : 1 ≤ lenS n s ∧ lenS n s ≤ 10000000 := by
  have := stepB_iff.1 h
  exact hg.len this.1 this.2.1
/-- l follows behind s. -/
def Follows (n : NetT) : StepT → List StepT → Prop
  | _, [] => True
  | s, t :: l => t ∈ succS n s ∧ Follows n t l
def lastS (s : StepT) : List StepT → StepT
  | [] => s
  | t :: l => lastS t l
theorem lastS_snoc (s : StepT) (l : List StepT) (t : StepT) : lastS s (l ++ [t]) = t := by
  induction l generalizing s with
  | nil => rfl
  | cons a l ih => exact ih a
theorem follows_snoc {n : NetT} (s : StepT) (l : List StepT) (t : StepT) : Follows n s (l ++ [t]) ↔ Follows n s l ∧ t ∈ succS n (lastS s l) := by
  induction l generalizing s with
  | nil => simp [Follows, lastS]
  | cons a l ih => simp only [List.cons_append, Follows, ih a, lastS, and_assoc]
theorem follows_append {n : NetT} (s : StepT) (l m : List StepT) : Follows n s (l ++ m) ↔ Follows n s l ∧ Follows n (lastS s l) m := by
  induction l generalizing s with
  | nil => simp [Follows, lastS]
  | cons a l ih => simp only [List.cons_append, Follows, ih a, lastS, and_assoc]
theorem follows_ok {n : NetT} (hg : Good n) {s : StepT} (hs : stepB n s = true) {l : List StepT} (h : Follows n s l) : ∀ t ∈ l, stepB n t = true := by
  induction l generalizing s with
  | nil => simp
  | cons a l ih =>
    have ha := succ_ok hg hs h.1
    intro t ht
    rcases List.mem_cons.1 ht with rfl | ht
    · exact ha
    · exact ih ha h.2 t ht
def weighS (n : NetT) (l : List StepT) : Int := (l.map (lenS n)).sum
theorem weighS_append (n : NetT) (l m : List StepT) : weighS n (l ++ m) = weighS n l + weighS n m := by unfold weighS; rw [List.map_append, List.sum_append]
theorem weighS_cons (n : NetT) (s : StepT) (l : List StepT) : weighS n (s :: l) = lenS n s + weighS n l := by unfold weighS; rw [List.map_cons, List.sum_cons]
theorem weighS_one (n : NetT) (s : StepT) : weighS n [s] = lenS n s := by simp [weighS]
theorem weighS_nonneg {n : NetT} (hg : Good n) {l : List StepT} (h : ∀ t ∈ l, stepB n t = true) : (l.length : Int) ≤ weighS n l ∧ weighS n l ≤ 10000000 * (l.length : Int) := by
  induction l with
  | nil => simp [weighS]
  | cons a l ih =>
    have h1 := hg.lenS (h a (by simp))
    have h2 := ih (fun t ht => h t (by simp [ht]))
    rw [weighS_cons, List.length_cons]
    omega
def stepLt (a b : StepT) : Bool := decide (a.piece < b.piece ∨ a.piece = b.piece ∧ a.way < b.way)
theorem stepLt_iff {a b : StepT} : stepLt a b = true ↔ (a.piece < b.piece ∨ a.piece = b.piece ∧ a.way < b.way) := by unfold stepLt; simp
theorem stepLt_total {a b : StepT} (h : a ≠ b) : stepLt a b = true ∨ stepLt b a = true := by
  rw [stepLt_iff, stepLt_iff]
  by_cases h1 : a.piece = b.piece
  · have : a.way ≠ b.way := fun h2 => h (StepT.ext_iff.1 ⟨h1, h2⟩)
    omega
  · omega
theorem stepLt_irrefl (a : StepT) : stepLt a a = false := by unfold stepLt; simp
theorem stepLt_trans {a b c : StepT} (h : stepLt a b = true) (h2 : stepLt b c = true) : stepLt a c = true := by
  rw [stepLt_iff] at *; omega
def lexB : List StepT → List StepT → Bool
  | a :: l, b :: m => if a = b then lexB l m else stepLt a b
  | _, _ => false
theorem lexB_irrefl (l : List StepT) : lexB l l = false := by
  induction l with
  | nil => rfl
  | cons a l ih => simp only [lexB, if_pos, ih]
theorem lexB_total : ∀ {l m : List StepT}, l.length = m.length → l ≠ m → lexB l m = true ∨ lexB m l = true
  | [], [], _, h => absurd rfl h
  | a :: l, b :: m, h, hn => by
    by_cases e : a = b
    · subst e
      simp only [lexB, if_pos]
      exact lexB_total (by simpa using h) (fun h2 => hn (by rw [h2]))
    · simp only [lexB, if_neg e, if_neg (Ne.symm e)]
      exact stepLt_total e
theorem lexB_trans : ∀ {l m k : List StepT}, lexB l m = true → lexB m k = true → lexB l k = true
  | a :: l, b :: m, c :: k, h, h2 => by
    simp only [lexB] at h h2 ⊢
    by_cases e : a = b
    · subst e
      rw [if_pos rfl] at h
      by_cases e2 : a = c
      · subst e2
        rw [if_pos rfl] at h2 ⊢
        exact lexB_trans h h2
      · rw [if_neg e2] at h2 ⊢
        exact h2
    · rw [if_neg e] at h
      by_cases e2 : b = c
      · subst e2
        rw [if_neg e]
        exact h
      · rw [if_neg e2] at h2
        have := stepLt_trans h h2
        rw [if_neg]
        · exact this
        · rintro rfl
          rw [stepLt_irrefl] at this
          cases this
  | [], _, _, h, _ => by simp [lexB] at h
  | _ :: _, [], _, h, _ => by simp [lexB] at h
  | _ :: _, _ :: _, [], _, h => by simp [lexB] at h
theorem lexB_snoc : ∀ {l m : List StepT} (t : StepT), l.length = m.length → lexB (l ++ [t]) (m ++ [t]) = lexB l m
  | [], [], t, _ => by simp [lexB]
  | a :: l, b :: m, t, h => by
    simp only [List.cons_append, lexB]
    rw [lexB_snoc t (by simpa using h)]
/-- Walk l is less than walk m. -/
def lessW (n : NetT) (l m : List StepT) : Bool :=
  decide (weighS n l < weighS n m) || (decide (weighS n l = weighS n m) && (decide (l.length < m.length) || (decide (l.length = m.length) && lexB l m)))
theorem lessW_iff {n : NetT} {l m : List StepT} : lessW n l m = true ↔ weighS n l < weighS n m ∨ weighS n l = weighS n m ∧ (l.length < m.length ∨ l.length = m.length ∧ lexB l m = true) := by
  unfold lessW
  simp only [Bool.or_eq_true, Bool.and_eq_true, decide_eq_true_eq]
theorem lessW_irrefl (n : NetT) (l : List StepT) : lessW n l l = false := by
  rw [Bool.eq_false_iff]
  intro h
  rcases lessW_iff.1 h with h | ⟨_, h | ⟨_, h⟩⟩
  · omega
  · omega
  · rw [lexB_irrefl] at h; cases h
theorem lessW_trans {n : NetT} {l m k : List StepT} (h : lessW n l m = true) (h2 : lessW n m k = true) : lessW n l k = true := by
  rw [lessW_iff] at *
  rcases h with h | ⟨h, h' | ⟨h', h''⟩⟩ <;> rcases h2 with g | ⟨g, g' | ⟨g', g''⟩⟩
  all_goals first
    | (left; omega)
    | (right; exact ⟨by omega, .inl (by omega)⟩)
    | (right; exact ⟨by omega, .inr ⟨by omega, lexB_trans h'' g''⟩⟩)
theorem lessW_total {n : NetT} {l m : List StepT} (h : l ≠ m) : lessW n l m = true ∨ lessW n m l = true := by
  rw [lessW_iff, lessW_iff]
  by_cases h1 : weighS n l = weighS n m
  · by_cases h2 : l.length = m.length
    · rcases lexB_total h2 h with h3 | h3
      · exact .inl (.inr ⟨h1, .inr ⟨h2, h3⟩⟩)
      · exact .inr (.inr ⟨h1.symm, .inr ⟨h2.symm, h3⟩⟩)
    · rcases Nat.lt_or_gt_of_ne h2 with h3 | h3
      · exact .inl (.inr ⟨h1, .inl h3⟩)
      · exact .inr (.inr ⟨h1.symm, .inl h3⟩)
  · rcases Int.lt_or_gt_of_ne h1 with h3 | h3
    · exact .inl (.inl h3)
    · exact .inr (.inl h3)
/-- No greater: m is not less than l. -/
def leW (n : NetT) (l m : List StepT) : Prop := lessW n m l = false
theorem leW_refl (n : NetT) (l : List StepT) : leW n l l := lessW_irrefl n l
theorem leW_of_less {n : NetT} {l m : List StepT} (h : lessW n l m = true) : leW n l m := by
  unfold leW
  cases h2 : lessW n m l with
  | false => rfl
  | true => have := lessW_trans h h2; rw [lessW_irrefl] at this; cases this
theorem leW_trans {n : NetT} {l m k : List StepT} (h : leW n l m) (h2 : leW n m k) : leW n l k := by
  by_cases e : l = m
  · rw [e]; exact h2
  · by_cases e2 : m = k
    · rw [← e2]; exact h
    · have a : lessW n l m = true := (lessW_total e).resolve_right (by unfold leW at h; rw [h]; simp)
      have b : lessW n m k = true := (lessW_total e2).resolve_right (by unfold leW at h2; rw [h2]; simp)
      exact leW_of_less (lessW_trans a b)
theorem leW_antisymm {n : NetT} {l m : List StepT} (h : leW n l m) (h2 : leW n m l) : l = m := by
  by_cases e : l = m
  · exact e
  · rcases lessW_total (n := n) e with h3 | h3
    · unfold leW at h2; rw [h2] at h3; cases h3
    · unfold leW at h; rw [h] at h3; cases h3
theorem lessW_snoc (n : NetT) (l m : List StepT) (t : StepT) : lessW n (l ++ [t]) (m ++ [t]) = lessW n l m := by
  have h : ∀ l m : List StepT, lessW n (l ++ [t]) (m ++ [t]) = true ↔ lessW n l m = true := fun l m => by
    rw [lessW_iff, lessW_iff, weighS_append, weighS_append, List.length_append, List.length_append]
    constructor
    · rintro (h | ⟨h, h2 | ⟨h2, h3⟩⟩)
      · left; omega
      · right; exact ⟨by omega, .inl (by omega)⟩
      · right
        have : l.length = m.length := by simpa using h2
        rw [lexB_snoc t this] at h3
        exact ⟨by omega, .inr ⟨this, h3⟩⟩
    · rintro (h | ⟨h, h2 | ⟨h2, h3⟩⟩)
      · left; omega
      · right; exact ⟨by omega, .inl (by omega)⟩
      · right
        exact ⟨by omega, .inr ⟨by omega, by rw [lexB_snoc t h2]; exact h3⟩⟩
  cases h1 : lessW n l m with
  | true => exact (h l m).2 h1
  | false => rw [Bool.eq_false_iff]; intro h2; rw [(h l m).1 h2] at h1; cases h1
theorem leW_snoc {n : NetT} {l m : List StepT} (h : leW n l m) (t : StepT) : leW n (l ++ [t]) (m ++ [t]) := by
  unfold leW at *
  rw [lessW_snoc]; exact h
/-- The least walk of one joint or more from s to t. -/
structure Least (n : NetT) (s t : StepT) (l : List StepT) : Prop where
  f : Follows n s l
  ne : l ≠ []
  last : lastS s l = t
  le : ∀ m, Follows n s m → m ≠ [] → lastS s m = t → leW n l m
theorem Least.unique {n : NetT} {s t : StepT} {l m : List StepT} (h : Least n s t l) (h2 : Least n s t m) : l = m :=
  leW_antisymm (h.le m h2.f h2.ne h2.last) (h2.le l h.f h.ne h.last)
def NoWalk (n : NetT) (s t : StepT) : Prop := ∀ m, Follows n s m → m ≠ [] → lastS s m ≠ t
abbrev BestT := StepT → Option (List StepT)
def relax (n : NetT) (st : BestT × List (List StepT)) (p : StepT) (x : List StepT) : BestT × List (List StepT) :=
  if (match st.1 p with | none => true | some l => lessW n x l) = true then (fun q => if q = p then some x else st.1 q, st.2 ++ [x]) else st
/-- What one walk of the line leads to. -/
def relaxAll (n : NetT) (s : StepT) (c : List StepT) (st : BestT × List (List StepT)) : BestT × List (List StepT) :=
  (succS n (lastS s c)).foldl (fun st p => relax n st p (c ++ [p])) st
def roundS (n : NetT) (s : StepT) (best : BestT) (line : List (List StepT)) : BestT × List (List StepT) :=
  line.foldl (fun st c => relaxAll n s c st) (best, [])
structure InvR (n : NetT) (s : StepT) (r : Nat) (best : BestT) (line : List (List StepT)) : Prop where
  walk : ∀ p l, best p = some l → Follows n s l ∧ l ≠ [] ∧ lastS s l = p ∧ l.length ≤ r
  least : ∀ m, Follows n s m → m ≠ [] → m.length ≤ r → ∃ l, best (lastS s m) = some l ∧ leW n l m
  line_ : ∀ c, c ∈ line → Follows n s c ∧ c.length = r ∧ c.Nodup
  cur : ∀ p l, best p = some l → l.length = r → l ∈ line
  zero : r = 0 → [] ∈ line
structure MidR (n : NetT) (s : StepT) (r : Nat) (best : BestT) (best' : BestT) (next : List (List StepT)) : Prop where
  walk : ∀ p l, best' p = some l → Follows n s l ∧ l ≠ [] ∧ lastS s l = p ∧ l.length ≤ r + 1
  mono : ∀ p l, best p = some l → ∃ l', best' p = some l' ∧ leW n l' l
  line_ : ∀ c, c ∈ next → Follows n s c ∧ c.length = r + 1 ∧ c.Nodup
  cur : ∀ p l, best' p = some l → l.length = r + 1 → l ∈ next
theorem MidR.start {n : NetT} {s : StepT} {r : Nat} {best : BestT} {line : List (List StepT)} (h : InvR n s r best line) : MidR n s r best best [] :=
  ⟨fun p l hl => by have := h.walk p l hl; exact ⟨this.1, this.2.1, this.2.2.1, by omega⟩, fun p l hl => ⟨l, hl, leW_refl n l⟩, by simp, fun p l hl h2 => by have := h.walk p l hl; omega⟩
theorem MidR.relax {n : NetT} (hg : Good n) {s : StepT} (hs : stepB n s = true) {r : Nat} {best : BestT} {line : List (List StepT)} (h : InvR n s r best line) {st : BestT × List (List StepT)} (hm : MidR n s r best st.1 st.2)
    {c : List StepT} (hc : c ∈ line) {p : StepT} (hp : p ∈ succS n (lastS s c)) :
    MidR n s r best (relax n st p (c ++ [p])).1 (relax n st p (c ++ [p])).2 ∧ (∃ l, (relax n st p (c ++ [p])).1 p = some l ∧ leW n l (c ++ [p])) ∧ ∀ q l, st.1 q = some l → ∃ l', (relax n st p (c ++ [p])).1 q = some l' ∧ leW n l' l := by
  obtain ⟨c1, c2, c3⟩ := h.line_ c hc
  have hf : Follows n s (c ++ [p]) := (follows_snoc s c p).2 ⟨c1, hp⟩
  by_cases ha : (match st.1 p with | none => true | some l => lessW n (c ++ [p]) l) = true
  · have e : Go.Proofs.Ytckcffjnffcjcaa.relax n st p (c ++ [p]) = (fun q => if q = p then some (c ++ [p]) else st.1 q, st.2 ++ [c ++ [p]]) := if_pos ha
    rw [e]
    have hnew : ∀ l, st.1 p = some l → leW n (c ++ [p]) l := fun l hl => by
      rw [hl] at ha
      exact leW_of_less ha
    refine ⟨⟨fun q l hl => ?_, fun q l hl => ?_, fun x hx => ?_, fun q l hl h2 => ?_⟩, ⟨c ++ [p], by simp, leW_refl n _⟩, fun q l hl => ?_⟩
    · simp only at hl
      split at hl
      · rename_i hq
        injection hl with hl
        subst hl hq
        exact ⟨hf, by simp, lastS_snoc s c q, by simp [c2]⟩
      · exact hm.walk q l hl
    · obtain ⟨l', h1, h2⟩ := hm.mono q l hl
      simp only
      by_cases hq : q = p
      · subst hq
        rw [if_pos rfl]
        exact ⟨_, rfl, leW_trans (hnew l' h1) h2⟩
      · rw [if_neg hq]
        exact ⟨l', h1, h2⟩
    · rcases List.mem_append.1 hx with hx | hx
      · exact hm.line_ x hx
      · have : x = c ++ [p] := by simpa using hx
        subst this
        refine ⟨hf, by simp [c2], ?_⟩
        rw [List.nodup_append]
        refine ⟨c3, by simp, fun a ha2 b hb => ?_⟩
        have hb' : b = p := by simpa using hb
        subst hb'
        rintro rfl
        obtain ⟨d1, d2, hd⟩ := List.append_of_mem ha2
        have hpre : Follows n s (d1 ++ [a]) := by
          rw [hd] at c1
          have : d1 ++ a :: d2 = (d1 ++ [a]) ++ d2 := by simp
          rw [this] at c1
          exact ((follows_append s _ _).1 c1).1
        obtain ⟨l, hl, hle⟩ := h.least (d1 ++ [a]) hpre (by simp) (by rw [← c2, hd]; simp)
        rw [lastS_snoc] at hl
        obtain ⟨l', hl', hle'⟩ := hm.mono a l hl
        have h5 := leW_trans hle' hle
        have h6 := leW_trans (hnew l' hl') h5
        unfold leW at h6
        have h7 : lessW n (d1 ++ [a]) (c ++ [a]) = true := by
          rw [lessW_iff]
          left
          have hall := follows_ok hg hs hf
          have h8 : weighS n (c ++ [a]) = weighS n (d1 ++ [a]) + weighS n d2 + lenS n a := by
            rw [hd]
            have : d1 ++ a :: d2 ++ [a] = (d1 ++ [a]) ++ d2 ++ [a] := by simp
            rw [this, weighS_append, weighS_append, weighS_one]
          have h9 := hg.lenS (hall a (by simp))
          have h10 := weighS_nonneg hg (l := d2) (fun t ht => hall t (by rw [hd]; simp [ht]))
          omega
        rw [h6] at h7
        cases h7
    · simp only at hl
      split at hl
      · rename_i hq
        injection hl with hl
        subst hl
        simp
      · exact List.mem_append_left _ (hm.cur q l hl h2)
    · simp only
      by_cases hq : q = p
      · subst hq
        rw [if_pos rfl]
        exact ⟨_, rfl, hnew l hl⟩
      · rw [if_neg hq]
        exact ⟨l, hl, leW_refl n l⟩
  · have e : Go.Proofs.Ytckcffjnffcjcaa.relax n st p (c ++ [p]) = st := if_neg ha
    rw [e]
    refine ⟨hm, ?_, fun q l hl => ⟨l, hl, leW_refl n l⟩⟩
    cases hq : st.1 p with
    | none => rw [hq] at ha; exact absurd rfl ha
    | some l =>
      rw [hq] at ha
      refine ⟨l, rfl, ?_⟩
      unfold leW
      simpa using ha
theorem MidR.relaxAll {n : NetT} (hg : Good n) {s : StepT} (hs : stepB n s = true) {r : Nat} {best : BestT} {line : List (List StepT)} (h : InvR n s r best line) {c : List StepT} (hc : c ∈ line) :
    ∀ (ps : List StepT), (∀ p ∈ ps, p ∈ succS n (lastS s c)) → ∀ {st : BestT × List (List StepT)}, MidR n s r best st.1 st.2 →
    MidR n s r best (ps.foldl (fun st p => Go.Proofs.Ytckcffjnffcjcaa.relax n st p (c ++ [p])) st).1 (ps.foldl (fun st p => Go.Proofs.Ytckcffjnffcjcaa.relax n st p (c ++ [p])) st).2 ∧
      (∀ p ∈ ps, ∃ l, (ps.foldl (fun st p => Go.Proofs.Ytckcffjnffcjcaa.relax n st p (c ++ [p])) st).1 p = some l ∧ leW n l (c ++ [p])) ∧
      ∀ q l, st.1 q = some l → ∃ l', (ps.foldl (fun st p => Go.Proofs.Ytckcffjnffcjcaa.relax n st p (c ++ [p])) st).1 q = some l' ∧ leW n l' l
  | [], _, st, hm => ⟨hm, by simp, fun q l hl => ⟨l, hl, leW_refl n l⟩⟩
  | p :: ps, hp, st, hm => by
    obtain ⟨h1, ⟨l1, h2, h2'⟩, h3⟩ := hm.relax hg hs h hc (hp p (by simp))
    obtain ⟨g1, g2, g3⟩ := MidR.relaxAll hg hs h hc ps (fun q hq => hp q (by simp [hq])) h1
    rw [List.foldl_cons]
    refine ⟨g1, fun q hq => ?_, fun q l hl => ?_⟩
    · rcases List.mem_cons.1 hq with rfl | hq
      · obtain ⟨l', k1, k2⟩ := g3 q l1 h2
        exact ⟨l', k1, leW_trans k2 h2'⟩
      · exact g2 q hq
    · obtain ⟨l', k1, k2⟩ := h3 q l hl
      obtain ⟨l'', k3, k4⟩ := g3 q l' k1
      exact ⟨l'', k3, leW_trans k4 k2⟩
theorem MidR.line {n : NetT} (hg : Good n) {s : StepT} (hs : stepB n s = true) {r : Nat} {best : BestT} {line : List (List StepT)} (h : InvR n s r best line) :
    ∀ (cs : List (List StepT)), (∀ c ∈ cs, c ∈ line) → ∀ {st : BestT × List (List StepT)}, MidR n s r best st.1 st.2 →
    MidR n s r best (cs.foldl (fun st c => Go.Proofs.Ytckcffjnffcjcaa.relaxAll n s c st) st).1 (cs.foldl (fun st c => Go.Proofs.Ytckcffjnffcjcaa.relaxAll n s c st) st).2 ∧
      (∀ c ∈ cs, ∀ p ∈ succS n (lastS s c), ∃ l, (cs.foldl (fun st c => Go.Proofs.Ytckcffjnffcjcaa.relaxAll n s c st) st).1 p = some l ∧ leW n l (c ++ [p])) ∧
      ∀ q l, st.1 q = some l → ∃ l', (cs.foldl (fun st c => Go.Proofs.Ytckcffjnffcjcaa.relaxAll n s c st) st).1 q = some l' ∧ leW n l' l
  | [], _, st, hm => ⟨hm, by simp, fun q l hl => ⟨l, hl, leW_refl n l⟩⟩
  | c :: cs, hc, st, hm => by
    obtain ⟨h1, h2, h3⟩ := MidR.relaxAll hg hs h (hc c (by simp)) (succS n (lastS s c)) (fun p hp => hp) hm
    obtain ⟨g1, g2, g3⟩ := MidR.line hg hs h cs (fun d hd => hc d (by simp [hd])) (st := Go.Proofs.Ytckcffjnffcjcaa.relaxAll n s c st) h1
    rw [List.foldl_cons]
    refine ⟨g1, fun d hd p hp => ?_, fun q l hl => ?_⟩
    · rcases List.mem_cons.1 hd with rfl | hd
      · obtain ⟨l1, k0, k0'⟩ := h2 p hp
        obtain ⟨l', k1, k2⟩ := g3 p l1 k0
        exact ⟨l', k1, leW_trans k2 k0'⟩
      · exact g2 d hd p hp
    · obtain ⟨l', k1, k2⟩ := h3 q l hl
      obtain ⟨l'', k3, k4⟩ := g3 q l' k1
      exact ⟨l'', k3, leW_trans k4 k2⟩
/-- One round more. -/
theorem InvR.step {n : NetT} (hg : Good n) {s : StepT} (hs : stepB n s = true) {r : Nat} {best : BestT} {line : List (List StepT)} (h : InvR n s r best line) : InvR n s (r + 1) (roundS n s best line).1 (roundS n s best line).2 := by
  obtain ⟨h1, h2, h3⟩ := MidR.line hg hs h line (fun c hc => hc) (st := (best, [])) (MidR.start h)
  refine ⟨h1.walk, fun m hf hne hlen => ?_, h1.line_, h1.cur, fun hz => by omega⟩
  by_cases hl : m.length ≤ r
  · obtain ⟨l, k1, k2⟩ := h.least m hf hne hl
    obtain ⟨l', k3, k4⟩ := h3 _ l k1
    exact ⟨l', k3, leW_trans k4 k2⟩
  · have hsplit := List.dropLast_concat_getLast hne
    obtain ⟨m', p, hmp⟩ : ∃ m' p, m = m' ++ [p] := ⟨_, _, hsplit.symm⟩
    subst hmp
    rw [lastS_snoc]
    obtain ⟨f1, f2⟩ := (follows_snoc s m' p).1 hf
    have hm' : m'.length = r := by simp at hlen hl; omega
    by_cases hr : r = 0
    · have : m' = [] := List.eq_nil_of_length_eq_zero (by omega)
      subst this
      exact h2 [] (h.zero hr) p f2
    · have hne' : m' ≠ [] := fun h0 => by rw [h0] at hm'; simp at hm'; omega
      obtain ⟨l, k1, k2⟩ := h.least m' f1 hne' (by omega)
      have hw := h.walk _ l k1
      by_cases hlr : l.length = r
      · obtain ⟨l', k3, k4⟩ := h2 l (h.cur _ l k1 hlr) p (by rw [hw.2.2.1]; exact f2)
        exact ⟨l', k3, leW_trans k4 (leW_snoc k2 p)⟩
      · obtain ⟨l', k3, k4⟩ := h.least (l ++ [p]) ((follows_snoc s l p).2 ⟨hw.1, by rw [hw.2.2.1]; exact f2⟩) (by simp) (by simp; omega)
        rw [lastS_snoc] at k3
        obtain ⟨l'', k5, k6⟩ := h3 p l' k3
        exact ⟨l'', k5, leW_trans k6 (leW_trans k4 (leW_snoc k2 p))⟩
theorem InvR.start (n : NetT) (s : StepT) : InvR n s 0 (fun _ => none) [[]] :=
  ⟨fun p l h => by simp at h, fun m _ h1 h2 => absurd (List.eq_nil_of_length_eq_zero (by omega)) h1, fun c hc => by
    have : c = [] := by simpa using hc
    subst this
    exact ⟨trivial, rfl, List.nodup_nil⟩, fun p l h => by simp at h, fun _ => by simp⟩
/-- Nothing goes on any more: each is the least of all. -/
theorem InvR.stop {n : NetT} (hg : Good n) {s : StepT} (hs : stepB n s = true) {r : Nat} {best : BestT} (h : InvR n s r best []) : (∀ p l, best p = some l → Least n s p l) ∧ ∀ p, best p = none → NoWalk n s p := by
  have hk : ∀ k, InvR n s (r + k) best [] := by
    intro k
    induction k with
    | zero => exact h
    | succ k ih => have := ih.step hg hs; exact this
  constructor
  · intro p l hl
    have := h.walk p l hl
    refine ⟨this.1, this.2.1, this.2.2.1, fun m f1 f2 f3 => ?_⟩
    obtain ⟨l', k1, k2⟩ := (hk m.length).least m f1 f2 (by omega)
    rw [f3, hl] at k1
    injection k1 with k1
    subst k1
    exact k2
  · intro p hp m f1 f2 f3
    obtain ⟨l', k1, k2⟩ := (hk m.length).least m f1 f2 (by omega)
    rw [f3, hp] at k1
    cases k1
theorem nodup_le : ∀ (N : Nat) (l : List Nat), l.Nodup → (∀ x ∈ l, x < N) → l.length ≤ N
  | 0, l, _, h => by
    cases l with
    | nil => simp
    | cons a l => exact absurd (h a (by simp)) (by omega)
  | N + 1, l, hn, h => by
    have h1 := nodup_le N (l.filter (fun x => decide (x ≠ N))) (hn.filter _) (fun x hx => by
      have := List.mem_filter.1 hx
      have h2 := h x this.1
      have h3 : x ≠ N := by simpa using this.2
      omega)
    have h2 : l.length ≤ (l.filter (fun x => decide (x ≠ N))).length + 1 := by
      have h3 := List.length_eq_countP_add_countP (fun x => decide (x ≠ N)) (l := l)
      rw [List.countP_eq_length_filter] at h3
      have h4 : l.countP (fun x => decide ¬(decide (x ≠ N)) = true) = l.count N := by
        unfold List.count
        refine List.countP_congr fun x _ => ?_
        simp
      have h5 := List.nodup_iff_count.1 hn N
      omega
    omega
def numS (s : StepT) : Nat := 2 * s.piece.toNat + (if s.way = 1 then 0 else 1)
theorem numS_inj {n : NetT} {a b : StepT} (ha : stepB n a = true) (hb : stepB n b = true) (h : numS a = numS b) : a = b := by
  have h1 := stepB_iff.1 ha
  have h2 := stepB_iff.1 hb
  unfold numS at h
  refine StepT.ext_iff.1 ?_
  rcases h1.2.2 with e1 | e1 <;> rcases h2.2.2 with e2 | e2 <;> rw [e1, e2] at h ⊢ <;> simp at h ⊢ <;> omega
theorem numS_lt {n : NetT} {a : StepT} (ha : stepB n a = true) : numS a < 2 * n.pieces.length := by
  have h1 := stepB_iff.1 ha
  unfold numS
  split <;> omega
theorem nodup_steps {n : NetT} {l : List StepT} (h : l.Nodup) (hs : ∀ t ∈ l, stepB n t = true) : l.length ≤ 2 * n.pieces.length := by
  have h1 : (l.map numS).Nodup := by
    rw [List.nodup_iff_pairwise_ne, List.pairwise_map]
    refine List.Pairwise.imp_of_mem ?_ (List.nodup_iff_pairwise_ne.1 h)
    intro a b ha hb hab he
    exact hab (numS_inj (hs a ha) (hs b hb) he)
  have := nodup_le (2 * n.pieces.length) (l.map numS) h1 (fun x hx => by
    obtain ⟨a, ha, rfl⟩ := List.mem_map.1 hx
    exact numS_lt (hs a ha))
  simpa using this
theorem InvR.bound {n : NetT} (hg : Good n) {s : StepT} (hs : stepB n s = true) {r : Nat} {best : BestT} {line : List (List StepT)} (h : InvR n s r best line) (hne : line ≠ []) : r ≤ 2 * n.pieces.length := by
  cases line with
  | nil => exact absurd rfl hne
  | cons c line =>
    obtain ⟨c1, c2, c3⟩ := h.line_ c (by simp)
    rw [← c2]
    exact nodup_steps c3 (follows_ok hg hs c1)
end Go.Proofs.Ytckcffjnffcjcaa
set_option linter.unusedVariables false
set_option linter.unusedSimpArgs false
namespace Go.Proofs.Ytckcffjnffcjcaa
open Go.RowKit Go.Proofs.YtckcffjnffcjcaaW.PrintWords
set_option maxRecDepth 100000 in
theorem l3head_any (s : SpotT) (w : World) :
    Calls Try.prog 157 #[.agg #[.int .i64 s.piece, .int .i64 s.at_, .int .i64 s.way]] w fun e w' => e = .returned (Value.agg #[.int .i64 (headE s).piece, .int .i64 (headE s).side]) ∧ Below w.heap.size w w' := by
  by_cases h : s.way = 1
  · have h1 : (s.way == 1) = true := by simpa using h
    have HV : Aside0 ((Value.agg #[.int .i64 (headE s).piece, .int .i64 (headE s).side]) = (Value.agg #[.int .i64 s.piece, .int .i64 1])) := ⟨by simp [headE, lookS, comesS, h]⟩
    clear h
    go_enter Try.func157, Try.ntmps157
    go_wp2
    exact bodyPost_ret (v := Value.agg #[.int .i64 s.piece, .int .i64 1]) (by simp [results, Try.results157, go_sem]) rfl ⟨by rw [HV.out], by
      repeat (first | (with_reducible exact Below.refl _ _) | (with_reducible exact fb.out) | (with_reducible refine below_drewN' ?_ _) | (with_reducible refine below_drew ?_) | (with_reducible refine below_set ?_ (by simp; done)) | (with_reducible refine below_set ?_ (by omega)) | (with_reducible refine below_alloc ?_ _))⟩
  · have h1 : (s.way == 1) = false := by simpa using h
    have HV : Aside0 ((Value.agg #[.int .i64 (headE s).piece, .int .i64 (headE s).side]) = (Value.agg #[.int .i64 s.piece, .int .i64 0])) := ⟨by simp [headE, lookS, comesS, h]⟩
    clear h
    go_enter Try.func157, Try.ntmps157
    go_wp2
    exact bodyPost_ret (v := Value.agg #[.int .i64 s.piece, .int .i64 0]) (by simp [results, Try.results157, go_sem]) rfl ⟨by rw [HV.out], by
      repeat (first | (with_reducible exact Below.refl _ _) | (with_reducible exact fb.out) | (with_reducible refine below_drewN' ?_ _) | (with_reducible refine below_drew ?_) | (with_reducible refine below_set ?_ (by simp; done)) | (with_reducible refine below_set ?_ (by omega)) | (with_reducible refine below_alloc ?_ _))⟩
set_option maxRecDepth 100000 in
theorem looked_any (s : StepT) (w : World) :
    Calls Try.prog 155 #[.agg #[.int .i64 s.piece, .int .i64 s.way]] w fun e w' => e = .returned (Value.agg #[.int .i64 (lookS s).piece, .int .i64 (lookS s).side]) ∧ Below w.heap.size w w' := by
  by_cases h : s.way = 1
  · have h1 : (s.way == 1) = true := by simpa using h
    have HV : Aside0 ((Value.agg #[.int .i64 (lookS s).piece, .int .i64 (lookS s).side]) = (Value.agg #[.int .i64 s.piece, .int .i64 1])) := ⟨by simp [headE, lookS, comesS, h]⟩
    clear h
    go_enter Try.func155, Try.ntmps155
    go_wp2
    exact bodyPost_ret (v := Value.agg #[.int .i64 s.piece, .int .i64 1]) (by simp [results, Try.results155, go_sem]) rfl ⟨by rw [HV.out], by
      repeat (first | (with_reducible exact Below.refl _ _) | (with_reducible exact fb.out) | (with_reducible refine below_drewN' ?_ _) | (with_reducible refine below_drew ?_) | (with_reducible refine below_set ?_ (by simp; done)) | (with_reducible refine below_set ?_ (by omega)) | (with_reducible refine below_alloc ?_ _))⟩
  · have h1 : (s.way == 1) = false := by simpa using h
    have HV : Aside0 ((Value.agg #[.int .i64 (lookS s).piece, .int .i64 (lookS s).side]) = (Value.agg #[.int .i64 s.piece, .int .i64 0])) := ⟨by simp [headE, lookS, comesS, h]⟩
    clear h
    go_enter Try.func155, Try.ntmps155
    go_wp2
    exact bodyPost_ret (v := Value.agg #[.int .i64 s.piece, .int .i64 0]) (by simp [results, Try.results155, go_sem]) rfl ⟨by rw [HV.out], by
      repeat (first | (with_reducible exact Below.refl _ _) | (with_reducible exact fb.out) | (with_reducible refine below_drewN' ?_ _) | (with_reducible refine below_drew ?_) | (with_reducible refine below_set ?_ (by simp; done)) | (with_reducible refine below_set ?_ (by omega)) | (with_reducible refine below_alloc ?_ _))⟩
set_option maxRecDepth 100000 in
theorem comes_any (x : EndT) (w : World) :
    Calls Try.prog 181 #[.agg #[.int .i64 x.piece, .int .i64 x.side]] w fun e w' => e = .returned (Value.agg #[.int .i64 (comesS x).piece, .int .i64 (comesS x).way]) ∧ Below w.heap.size w w' := by
  by_cases h : x.side = 0
  · have h1 : (x.side == 0) = true := by simpa using h
    have HV : Aside0 ((Value.agg #[.int .i64 (comesS x).piece, .int .i64 (comesS x).way]) = (Value.agg #[.int .i64 x.piece, .int .i64 1])) := ⟨by simp [headE, lookS, comesS, h]⟩
    clear h
    go_enter Try.func181, Try.ntmps181
    go_wp2
    exact bodyPost_ret (v := Value.agg #[.int .i64 x.piece, .int .i64 1]) (by simp [results, Try.results181, go_sem]) rfl ⟨by rw [HV.out], by
      repeat (first | (with_reducible exact Below.refl _ _) | (with_reducible exact fb.out) | (with_reducible refine below_drewN' ?_ _) | (with_reducible refine below_drew ?_) | (with_reducible refine below_set ?_ (by simp; done)) | (with_reducible refine below_set ?_ (by omega)) | (with_reducible refine below_alloc ?_ _))⟩
  · have h1 : (x.side == 0) = false := by simpa using h
    have HV : Aside0 ((Value.agg #[.int .i64 (comesS x).piece, .int .i64 (comesS x).way]) = (Value.agg #[.int .i64 x.piece, .int .i64 (-1)])) := ⟨by simp [headE, lookS, comesS, h]⟩
    clear h
    go_enter Try.func181, Try.ntmps181
    go_wp2
    exact bodyPost_ret (v := Value.agg #[.int .i64 x.piece, .int .i64 (-1)]) (by simp [results, Try.results181, go_sem]) rfl ⟨by rw [HV.out], by
      repeat (first | (with_reducible exact Below.refl _ _) | (with_reducible exact fb.out) | (with_reducible refine below_drewN' ?_ _) | (with_reducible refine below_drew ?_) | (with_reducible refine below_set ?_ (by simp; done)) | (with_reducible refine below_set ?_ (by omega)) | (with_reducible refine below_alloc ?_ _))⟩
set_option maxRecDepth 100000 in
theorem l4step_any (s : SpotT) (w : World) :
    Calls Try.prog 152 #[.agg #[.int .i64 s.piece, .int .i64 s.at_, .int .i64 s.way]] w fun e w' => e = .returned (.agg #[.int .i64 s.piece, .int .i64 s.way]) ∧ Below w.heap.size w w' := by
  go_enter Try.func152, Try.ntmps152
  go_wp2
  try go_region
  all_goals
    try go_wp2
    exact bodyPost_ret (v := .agg #[.int .i64 s.piece, .int .i64 s.way]) (by simp [results, Try.results152, go_sem]) rfl ⟨rfl, by
      repeat (first | (with_reducible exact Below.refl _ _) | (with_reducible exact fb.out) | (with_reducible refine below_drewN' ?_ _) | (with_reducible refine below_drew ?_) | (with_reducible refine below_set ?_ (by simp; done)) | (with_reducible refine below_set ?_ (by omega)) | (with_reducible refine below_alloc ?_ _))⟩
set_option maxRecDepth 100000 in
set_option maxHeartbeats 1000000 in
theorem l3room_any (n : NetT) (u : (Option Addr × Nat) × (Option Addr × Nat)) (s : SpotT) (w : World) (hr : RdNet 67 w u n) (hp : 0 ≤ s.piece) (hl : s.piece < (n.pieces.length : Int)) (ha0 : 0 ≤ s.at_) (ha1 : s.at_ ≤ lenP n s.piece) (hlen : lenP n s.piece ≤ 10000000) :
    Calls Try.prog 158 #[.agg #[.slice u.1.1 n.pieces.length u.1.2, .slice u.2.1 n.joints.length u.2.2], .agg #[.int .i64 s.piece, .int .i64 s.at_, .int .i64 s.way]] w fun e w' => e = .returned (.int .i64 (roomS n s)) ∧ Below w.heap.size w w' := by
  have hm := hr.1.1.2.1
  obtain ⟨⟨A0, c0⟩, ⟨A1, c1⟩⟩ := u
  obtain ⟨sp, sa, sw⟩ := s
  simp only at hp hl ha0 ha1 hlen ⊢
  obtain ⟨i, hi⟩ := Int.eq_ofNat_of_zero_le hp
  subst hi
  have hlt : i < n.pieces.length := by omega
  obtain ⟨ad0, e0, y0, y1, y2, y3⟩ := at_Piece hr.1.1 i hlt
  simp only at e0
  subst e0
  clear hr hp y0 y2 y3
  unfold lenP at ha1 hlen
  rw [Int.toNat_natCast] at ha1 hlen
  obtain ⟨L, hL⟩ : ∃ L, L = (n.pieces.getD i default).len := ⟨_, rfl⟩
  rw [← hL] at y1 ha1 hlen
  have HL := Aside0.mk (show lenP n (i : Int) = L by unfold lenP; rw [Int.toNat_natCast, hL])
  clear hL
  obtain ⟨W0, hW0, hN, hS, fb0, hsz⟩ := box2 w [.slice (some ad0) n.pieces.length c0, .slice A1 n.joints.length c1] [.int .i64 i, .int .i64 sa, .int .i64 sw] 35 38
  have fb := Aside0.mk fb0
  clear hsz
  have n0 := hN.c 0 _ rfl
  have m0 := hS.c 0 _ rfl
  have m1 := hS.c 1 _ rfl
  have m2 := hS.c 2 _ rfl
  have hsz0 := hS.lt
  replace y1 := pw_cell_below fb0 y1
  have HW := Aside0.mk hW0
  clear hW0 fb0 hN hS
  have hsub : IntKind.i64.wrap (L - sa) = L - sa := wrap64 (by omega) (by omega)
  by_cases h : sw = 1
  · subst h
    have HV : Aside0 ((.int .i64 (roomS n ⟨i, sa, 1⟩) : Value) = (.int .i64 (L - sa))) := ⟨by simp [roomS, headE, HL.out]⟩
    go_enter Try.func158, Try.ntmps158
    go_wp2
    try rw [← HW.out]
    go_quiet (fail)
    all_goals
      try go_wp2
      refine bodyPost_ret (v := .int .i64 (L - sa)) (by simp [results, Try.results158, go_sem]) rfl ⟨by rw [HV.out], ?_⟩
      repeat (first | (with_reducible exact Below.refl _ _) | (with_reducible exact fb.out) | (with_reducible refine below_drewN' ?_ _) | (with_reducible refine below_drew ?_) | (with_reducible refine below_set ?_ (by simp; done)) | (with_reducible refine below_set ?_ (by omega)) | (with_reducible refine below_alloc ?_ _))
  · have h1 : (sw == 1) = false := by simpa using h
    have HV : Aside0 ((.int .i64 (roomS n ⟨i, sa, sw⟩) : Value) = (.int .i64 (sa))) := ⟨by simp [roomS, headE, h]⟩
    clear h
    go_enter Try.func158, Try.ntmps158
    go_wp2
    try rw [← HW.out]
    skip
    all_goals
      try go_wp2
      refine bodyPost_ret (v := .int .i64 (sa)) (by simp [results, Try.results158, go_sem]) rfl ⟨by rw [HV.out], ?_⟩
      repeat (first | (with_reducible exact Below.refl _ _) | (with_reducible exact fb.out) | (with_reducible refine below_drewN' ?_ _) | (with_reducible refine below_drew ?_) | (with_reducible refine below_set ?_ (by simp; done)) | (with_reducible refine below_set ?_ (by omega)) | (with_reducible refine below_alloc ?_ _))
set_option maxRecDepth 100000 in
set_option maxHeartbeats 1000000 in
theorem room_any (n : NetT) (u : (Option Addr × Nat) × (Option Addr × Nat)) (s : SpotT) (w : World) (hr : RdNet 67 w u n) (hp : 0 ≤ s.piece) (hl : s.piece < (n.pieces.length : Int)) (ha0 : 0 ≤ s.at_) (ha1 : s.at_ ≤ lenP n s.piece) (hlen : lenP n s.piece ≤ 10000000) :
    Calls Try.prog 156 #[.agg #[.slice u.1.1 n.pieces.length u.1.2, .slice u.2.1 n.joints.length u.2.2], .agg #[.int .i64 s.piece, .int .i64 s.at_, .int .i64 s.way]] w fun e w' => e = .returned (.tuple #[.int .i64 (roomS n s), .agg #[.int .i64 (headE s).piece, .int .i64 (headE s).side]]) ∧ Below w.heap.size w w' := by
  have hm := hr.1.1.2.1
  obtain ⟨⟨A0, c0⟩, ⟨A1, c1⟩⟩ := u
  obtain ⟨sp, sa, sw⟩ := s
  simp only at hp hl ha0 ha1 hlen ⊢
  obtain ⟨i, hi⟩ := Int.eq_ofNat_of_zero_le hp
  subst hi
  have hlt : i < n.pieces.length := by omega
  obtain ⟨ad0, e0, y0, y1, y2, y3⟩ := at_Piece hr.1.1 i hlt
  simp only at e0
  subst e0
  clear hr hp y0 y2 y3
  unfold lenP at ha1 hlen
  rw [Int.toNat_natCast] at ha1 hlen
  obtain ⟨L, hL⟩ : ∃ L, L = (n.pieces.getD i default).len := ⟨_, rfl⟩
  rw [← hL] at y1 ha1 hlen
  have HL := Aside0.mk (show lenP n (i : Int) = L by unfold lenP; rw [Int.toNat_natCast, hL])
  clear hL
  obtain ⟨W0, hW0, hN, hS, fb0, hsz⟩ := box2 w [.slice (some ad0) n.pieces.length c0, .slice A1 n.joints.length c1] [.int .i64 i, .int .i64 sa, .int .i64 sw] 35 38
  have fb := Aside0.mk fb0
  obtain ⟨W1, hW1⟩ : ∃ W1, W1 = W0.alloc (.cells #[.int .i64 0, .int .i64 0] 67) := ⟨_, rfl⟩
  replace fb := Aside0.mk (show Below w.heap.size w W1 by rw [hW1]; exact below_alloc fb0 _)
  have hX : Bx W1 (w.heap.size + 2) [.int .i64 0, .int .i64 0] := by rw [hW1, ← hsz]; exact Bx.new W0 _ 67
  replace hN := hN.alloc (.cells #[.int .i64 0, .int .i64 0] 67)
  replace hS := hS.alloc (.cells #[.int .i64 0, .int .i64 0] 67)
  rw [← hW1] at hN hS
  have x0 := hX.c 0 _ rfl
  have x1 := hX.c 1 _ rfl
  have xf0 := hX.f 0
  have xf1 := hX.f 1
  have hsz2 := hX.lt
  replace fb0 := fb.out
  replace hW0 := show W1 = ((w.alloc (.cells #[.slice (some ad0) n.pieces.length c0, .slice A1 n.joints.length c1] 35)).alloc (.cells #[.int .i64 i, .int .i64 sa, .int .i64 sw] 38)).alloc (.cells #[.int .i64 0, .int .i64 0] 67) by rw [hW1, hW0]
  clear hW1 hX hsz
  have n0 := hN.c 0 _ rfl
  have m0 := hS.c 0 _ rfl
  have m1 := hS.c 1 _ rfl
  have m2 := hS.c 2 _ rfl
  have hsz0 := hS.lt
  replace y1 := pw_cell_below fb0 y1
  have HW := Aside0.mk hW0
  clear hW0 fb0 hN hS
  have hsub : IntKind.i64.wrap (L - sa) = L - sa := wrap64 (by omega) (by omega)
  by_cases h : sw = 1
  · subst h
    have HV : Aside0 ((.tuple #[.int .i64 (roomS n ⟨i, sa, 1⟩), .agg #[.int .i64 (headE ⟨i, sa, 1⟩).piece, .int .i64 (headE ⟨i, sa, 1⟩).side]] : Value) = (.tuple #[.int .i64 (L - sa), .agg #[.int .i64 i, .int .i64 1]])) := ⟨by simp [roomS, headE, HL.out]⟩
    go_enter Try.func156, Try.ntmps156
    go_wp2
    try rw [← HW.out]
    go_region
    all_goals
      try go_wp2
      refine bodyPost_ret (v := .tuple #[.int .i64 (L - sa), .agg #[.int .i64 i, .int .i64 1]]) (by simp [results, Try.results156, go_sem, x0, x1, xf0, xf1, hsz2]) rfl ⟨by rw [HV.out], ?_⟩
      repeat (first | (with_reducible exact Below.refl _ _) | (with_reducible exact fb.out) | (with_reducible refine below_drewN' ?_ _) | (with_reducible refine below_drew ?_) | (with_reducible refine below_set ?_ (by simp; done)) | (with_reducible refine below_set ?_ (by omega)) | (with_reducible refine below_alloc ?_ _))
  · have h1 : (sw == 1) = false := by simpa using h
    have HV : Aside0 ((.tuple #[.int .i64 (roomS n ⟨i, sa, sw⟩), .agg #[.int .i64 (headE ⟨i, sa, sw⟩).piece, .int .i64 (headE ⟨i, sa, sw⟩).side]] : Value) = (.tuple #[.int .i64 (sa), .agg #[.int .i64 i, .int .i64 0]])) := ⟨by simp [roomS, headE, h]⟩
    clear h
    go_enter Try.func156, Try.ntmps156
    go_wp2
    try rw [← HW.out]
    go_region
    all_goals
      try go_wp2
      refine bodyPost_ret (v := .tuple #[.int .i64 (sa), .agg #[.int .i64 i, .int .i64 0]]) (by simp [results, Try.results156, go_sem, x0, x1, xf0, xf1, hsz2]) rfl ⟨by rw [HV.out], ?_⟩
      repeat (first | (with_reducible exact Below.refl _ _) | (with_reducible exact fb.out) | (with_reducible refine below_drewN' ?_ _) | (with_reducible refine below_drew ?_) | (with_reducible refine below_set ?_ (by simp; done)) | (with_reducible refine below_set ?_ (by omega)) | (with_reducible refine below_alloc ?_ _))
set_option maxRecDepth 100000 in
set_option maxHeartbeats 1000000 in
theorem l3enter_any (n : NetT) (u : (Option Addr × Nat) × (Option Addr × Nat)) (x : EndT) (w : World) (hr : RdNet 67 w u n) (hp : 0 ≤ x.piece) (hl : x.piece < (n.pieces.length : Int)) :
    Calls Try.prog 143 #[.agg #[.slice u.1.1 n.pieces.length u.1.2, .slice u.2.1 n.joints.length u.2.2], .agg #[.int .i64 x.piece, .int .i64 x.side]] w fun e w' => e = .returned (.agg #[.int .i64 (enterS n x).piece, .int .i64 (enterS n x).at_, .int .i64 (enterS n x).way]) ∧ Below w.heap.size w w' := by
  have hm := hr.1.1.2.1
  obtain ⟨⟨A0, c0⟩, ⟨A1, c1⟩⟩ := u
  obtain ⟨sp, sd⟩ := x
  simp only at hp hl ⊢
  obtain ⟨i, hi⟩ := Int.eq_ofNat_of_zero_le hp
  subst hi
  have hlt : i < n.pieces.length := by omega
  obtain ⟨ad0, e0, y0, y1, y2, y3⟩ := at_Piece hr.1.1 i hlt
  simp only at e0
  subst e0
  clear hr hp y0 y2 y3
  obtain ⟨L, hL⟩ : ∃ L, L = (n.pieces.getD i default).len := ⟨_, rfl⟩
  rw [← hL] at y1
  have HL := Aside0.mk (show lenP n (i : Int) = L by unfold lenP; rw [Int.toNat_natCast, hL])
  clear hL
  obtain ⟨W0, hW0, hN, hS, fb0, hsz⟩ := box2 w [.slice (some ad0) n.pieces.length c0, .slice A1 n.joints.length c1] [.int .i64 i, .int .i64 sd] 35 67
  obtain ⟨W1, hW1⟩ : ∃ W1, W1 = W0.alloc (.cells #[.int .i64 0, .int .i64 0, .int .i64 0] 38) := ⟨_, rfl⟩
  have fb := Aside0.mk (show Below w.heap.size w W1 by rw [hW1]; exact below_alloc fb0 _)
  have hX : Bx W1 (w.heap.size + 2) [.int .i64 0, .int .i64 0, .int .i64 0] := by rw [hW1, ← hsz]; exact Bx.new W0 _ 38
  have hN1 := hN.alloc (.cells #[.int .i64 0, .int .i64 0, .int .i64 0] 38)
  have hS1 := hS.alloc (.cells #[.int .i64 0, .int .i64 0, .int .i64 0] 38)
  rw [← hW1] at hN1 hS1
  have n0 := hN1.c 0 _ rfl
  have m0 := hS1.c 0 _ rfl
  have m1 := hS1.c 1 _ rfl
  have x0 := hX.c 0 _ rfl
  have x1 := hX.c 1 _ rfl
  have x2 := hX.c 2 _ rfl
  have xf0 := hX.f 0
  have xf1 := hX.f 1
  have xf2 := hX.f 2
  have hsz2 := hX.lt
  replace y1 := pw_cell_below fb.out y1
  have HW := Aside0.mk (show W1 = ((w.alloc (.cells #[.slice (some ad0) n.pieces.length c0, .slice A1 n.joints.length c1] 35)).alloc (.cells #[.int .i64 i, .int .i64 sd] 67)).alloc (.cells #[.int .i64 0, .int .i64 0, .int .i64 0] 38) by rw [hW1, hW0])
  clear hW0 hW1 fb0 hN hS hN1 hS1 hX hsz
  by_cases h : sd = 0
  · subst h
    have HV : Aside0 ((Value.agg #[.int .i64 (enterS n ⟨i, 0⟩).piece, .int .i64 (enterS n ⟨i, 0⟩).at_, .int .i64 (enterS n ⟨i, 0⟩).way]) = .agg #[.int .i64 i, .int .i64 0, .int .i64 1]) := ⟨by unfold enterS; simp⟩
    go_enter Try.func143, Try.ntmps143
    go_wp2
    refine bodyPost_ret (v := .agg #[.int .i64 i, .int .i64 0, .int .i64 1]) (by simp [results, Try.results143, go_sem, x0, x1, x2, hsz2]) rfl ⟨by rw [HV.out], ?_⟩
    repeat (first | (with_reducible exact Below.refl _ _) | (with_reducible exact fb.out) | (with_reducible refine below_drewN' ?_ _) | (with_reducible refine below_drew ?_) | (with_reducible refine below_set ?_ (by simp; done)) | (with_reducible refine below_set ?_ (by omega)) | (with_reducible refine below_alloc ?_ _))
  · have h1 : (sd == 0) = false := by simpa using h
    have HV : Aside0 ((Value.agg #[.int .i64 (enterS n ⟨i, sd⟩).piece, .int .i64 (enterS n ⟨i, sd⟩).at_, .int .i64 (enterS n ⟨i, sd⟩).way]) = .agg #[.int .i64 i, .int .i64 L, .int .i64 (-1)]) := ⟨by unfold enterS; simp [h, HL.out]⟩
    clear h
    go_enter Try.func143, Try.ntmps143
    go_wp2
    try rw [← HW.out]
    go_region
    all_goals
      try go_wp2
      refine bodyPost_ret (v := .agg #[.int .i64 i, .int .i64 L, .int .i64 (-1)]) (by simp [results, Try.results143, go_sem, x0, x1, x2, hsz2]) rfl ⟨by rw [HV.out], ?_⟩
      repeat (first | (with_reducible exact Below.refl _ _) | (with_reducible exact fb.out) | (with_reducible refine below_drewN' ?_ _) | (with_reducible refine below_drew ?_) | (with_reducible refine below_set ?_ (by simp; done)) | (with_reducible refine below_set ?_ (by omega)) | (with_reducible refine below_alloc ?_ _))
set_option maxRecDepth 100000 in
set_option maxHeartbeats 1000000 in
theorem enter_any (n : NetT) (u : (Option Addr × Nat) × (Option Addr × Nat)) (x : EndT) (w : World) (hr : RdNet 67 w u n) (hp : 0 ≤ x.piece) (hl : x.piece < (n.pieces.length : Int)) :
    Calls Try.prog 141 #[.agg #[.slice u.1.1 n.pieces.length u.1.2, .slice u.2.1 n.joints.length u.2.2], .agg #[.int .i64 x.piece, .int .i64 x.side]] w fun e w' => e = .returned (.agg #[.int .i64 (enterS n x).piece, .int .i64 (enterS n x).at_, .int .i64 (enterS n x).way]) ∧ Below w.heap.size w w' := by
  have hm := hr.1.1.2.1
  obtain ⟨⟨A0, c0⟩, ⟨A1, c1⟩⟩ := u
  obtain ⟨sp, sd⟩ := x
  simp only at hp hl ⊢
  obtain ⟨i, hi⟩ := Int.eq_ofNat_of_zero_le hp
  subst hi
  have hlt : i < n.pieces.length := by omega
  obtain ⟨ad0, e0, y0, y1, y2, y3⟩ := at_Piece hr.1.1 i hlt
  simp only at e0
  subst e0
  clear hr hp y0 y2 y3
  obtain ⟨L, hL⟩ : ∃ L, L = (n.pieces.getD i default).len := ⟨_, rfl⟩
  rw [← hL] at y1
  have HL := Aside0.mk (show lenP n (i : Int) = L by unfold lenP; rw [Int.toNat_natCast, hL])
  clear hL
  obtain ⟨W0, hW0, hN, hS, fb0, hsz⟩ := box2 w [.slice (some ad0) n.pieces.length c0, .slice A1 n.joints.length c1] [.int .i64 i, .int .i64 sd] 35 67
  obtain ⟨W1, hW1⟩ : ∃ W1, W1 = W0.alloc (.cells #[.int .i64 0, .int .i64 0, .int .i64 0] 38) := ⟨_, rfl⟩
  have fb := Aside0.mk (show Below w.heap.size w W1 by rw [hW1]; exact below_alloc fb0 _)
  have hX : Bx W1 (w.heap.size + 2) [.int .i64 0, .int .i64 0, .int .i64 0] := by rw [hW1, ← hsz]; exact Bx.new W0 _ 38
  have hN1 := hN.alloc (.cells #[.int .i64 0, .int .i64 0, .int .i64 0] 38)
  have hS1 := hS.alloc (.cells #[.int .i64 0, .int .i64 0, .int .i64 0] 38)
  rw [← hW1] at hN1 hS1
  have n0 := hN1.c 0 _ rfl
  have m0 := hS1.c 0 _ rfl
  have m1 := hS1.c 1 _ rfl
  have x0 := hX.c 0 _ rfl
  have x1 := hX.c 1 _ rfl
  have x2 := hX.c 2 _ rfl
  have xf0 := hX.f 0
  have xf1 := hX.f 1
  have xf2 := hX.f 2
  have hsz2 := hX.lt
  replace y1 := pw_cell_below fb.out y1
  have HW := Aside0.mk (show W1 = ((w.alloc (.cells #[.slice (some ad0) n.pieces.length c0, .slice A1 n.joints.length c1] 35)).alloc (.cells #[.int .i64 i, .int .i64 sd] 67)).alloc (.cells #[.int .i64 0, .int .i64 0, .int .i64 0] 38) by rw [hW1, hW0])
  clear hW0 hW1 fb0 hN hS hN1 hS1 hX hsz
  by_cases h : sd = 0
  · subst h
    have HV : Aside0 ((Value.agg #[.int .i64 (enterS n ⟨i, 0⟩).piece, .int .i64 (enterS n ⟨i, 0⟩).at_, .int .i64 (enterS n ⟨i, 0⟩).way]) = .agg #[.int .i64 i, .int .i64 0, .int .i64 1]) := ⟨by unfold enterS; simp⟩
    go_enter Try.func141, Try.ntmps141
    go_wp2
    refine bodyPost_ret (v := .agg #[.int .i64 i, .int .i64 0, .int .i64 1]) (by simp [results, Try.results141, go_sem, x0, x1, x2, hsz2]) rfl ⟨by rw [HV.out], ?_⟩
    repeat (first | (with_reducible exact Below.refl _ _) | (with_reducible exact fb.out) | (with_reducible refine below_drewN' ?_ _) | (with_reducible refine below_drew ?_) | (with_reducible refine below_set ?_ (by simp; done)) | (with_reducible refine below_set ?_ (by omega)) | (with_reducible refine below_alloc ?_ _))
  · have h1 : (sd == 0) = false := by simpa using h
    have HV : Aside0 ((Value.agg #[.int .i64 (enterS n ⟨i, sd⟩).piece, .int .i64 (enterS n ⟨i, sd⟩).at_, .int .i64 (enterS n ⟨i, sd⟩).way]) = .agg #[.int .i64 i, .int .i64 L, .int .i64 (-1)]) := ⟨by unfold enterS; simp [h, HL.out]⟩
    clear h
    go_enter Try.func141, Try.ntmps141
    go_wp2
    try rw [← HW.out]
    go_region
    all_goals
      try go_wp2
      refine bodyPost_ret (v := .agg #[.int .i64 i, .int .i64 L, .int .i64 (-1)]) (by simp [results, Try.results141, go_sem, x0, x1, x2, hsz2]) rfl ⟨by rw [HV.out], ?_⟩
      repeat (first | (with_reducible exact Below.refl _ _) | (with_reducible exact fb.out) | (with_reducible refine below_drewN' ?_ _) | (with_reducible refine below_drew ?_) | (with_reducible refine below_set ?_ (by simp; done)) | (with_reducible refine below_set ?_ (by omega)) | (with_reducible refine below_alloc ?_ _))
end Go.Proofs.Ytckcffjnffcjcaa
set_option linter.unusedVariables false
set_option linter.unusedSimpArgs false
namespace Go.Proofs.Ytckcffjnffcjcaa
open Go.RowKit Go.Proofs.YtckcffjnffcjcaaW.PrintWords
theorem Bx.under {W w1 : World} {base b : Nat} {vs : List Value} (h : Bx W b vs) (hb : Below base W w1) (hlt : b < base) : Bx w1 b vs :=
  ⟨Nat.lt_of_lt_of_le h.lt hb.size, fun i v hv => (hb.cell (p := ⟨b, i, none⟩) hlt).trans (h.c i v hv), fun i => (hb.frozen (p := ⟨b, i, none⟩) hlt).trans (h.f i)⟩
end Go.Proofs.Ytckcffjnffcjcaa
set_option linter.unusedVariables false
set_option linter.unusedSimpArgs false
namespace Go.Proofs.Ytckcffjnffcjcaa
open Go.RowKit Go.Proofs.YtckcffjnffcjcaaW.PrintWords
theorem nets_of (code : List Int) (A : Option Addr) (c : Nat) (n : NetT) (w : World) (hr : Kd.C (Kd.int .u8) w A code.length code) (hg : GCode code) (hn : n = netG code) :
    Calls Try.prog 33 #[.slice A code.length c] w
      fun e w' => ∃ u : (Option Addr × Nat) × (Option Addr × Nat), e = .returned (.agg #[.slice u.1.1 n.pieces.length u.1.2, .slice u.2.1 n.joints.length u.2.2]) ∧ RdNet 67 w' u n ∧ Below w.heap.size w w' := by
  subst hn; exact nets_any code A c w hr hg
theorem nameG_size (i : Nat) (h : i ≤ 1000) : (nameG i).size ≤ 1002 := by
  have h1 : (nameG i).size = (nameL i).length := by show (nameL i).toArray.size = _; simp
  have := decL_len i
  rw [h1]
  unfold nameL
  simp only [List.length_cons]
  omega
theorem netG_fits (code : List Int) : NetFits (netG code) := by
  have hP := piecesN_bd code
  have hl : (netG code).pieces.length = piecesN code := genPs_len code
  have hJ := netG_joints code
  have hE := netG_ends code
  have hEl := genEs_len code
  have hj : ∀ x ∈ (netG code).joints, x.ends.length ≤ 18 ∧ x.name.size ≤ 1002 := fun x hx => by
    obtain ⟨i, hi, he⟩ := List.getElem_of_mem hx
    obtain ⟨es, q, h1, h2, h3⟩ := netG_joint code hi
    rw [getD_at _ _ hi, he] at h3
    have hm := sum_mem_le (fun j : JointT => j.ends.length) (netG code).joints x hx
    have hfl : ((netG code).joints.map (fun j : JointT => j.ends.length)).sum = (allEnds (netG code)).length := by unfold allEnds; rw [List.length_flatMap]
    rw [hfl, hE, hEl] at hm
    refine ⟨by omega, ?_⟩
    rw [h3]
    unfold jointG
    simp only
    split
    · exact nameG_size _ (by omega)
    · show (0 : Nat) ≤ 1002; omega
  refine ⟨by omega, by omega, fun x hx => by have := (hj x hx).1; omega, by rw [hE, hEl]; omega, fun x hx => ?_, fun x hx => by have := (hj x hx).2; omega⟩
  obtain ⟨i, hi, he⟩ := List.getElem_of_mem hx
  obtain ⟨k, hk⟩ := genPieces_at code (pickV code 4 0) 2 (piecesN code) i (by omega)
  have hk2 : (netG code).pieces.getD i default = (genPiece code (pickV code 4 0) i k).1 := hk
  rw [getD_at _ _ hi, he] at hk2
  rw [hk2, (genPiece_is code (pickV code 4 0) i k).1]
  have := nameG_size i (by omega)
  omega
theorem netG_small (code : List Int) : (netG code).pieces.length ≤ 9 ∧ ∀ p : Int, 0 ≤ p → p < ((netG code).pieces.length : Int) → lenP (netG code) p ≤ 300 := by
  have hP := piecesN_bd code
  have hl : (netG code).pieces.length = piecesN code := genPs_len code
  refine ⟨by omega, fun p h0 h1 => ?_⟩
  obtain ⟨k, hk⟩ := genPieces_at code (pickV code 4 0) 2 (piecesN code) p.toNat (by omega)
  have hk2 : (netG code).pieces.getD p.toNat default = (genPiece code (pickV code 4 0) p.toNat k).1 := hk
  unfold lenP
  rw [hk2]
  exact (genPiece_is code (pickV code 4 0) p.toNat k).2.2.1
end Go.Proofs.Ytckcffjnffcjcaa
set_option linter.unusedVariables false
set_option linter.unusedSimpArgs false
namespace Go.Proofs.Ytckcffjnffcjcaa
open Go.RowKit Go.Proofs.YtckcffjnffcjcaaW.PrintWords
/-- The list of entries without a key. -/
def dl {κ ν : Type} [DecidableEq κ] (l : List (κ × ν)) (k : κ) : List (κ × ν) := l.filter (fun p => decide (p.1 ≠ k))
theorem dl_none {κ ν : Type} [DecidableEq κ] {l : List (κ × ν)} {k : κ} (h : ∀ p ∈ l, p.1 ≠ k) : dl l k = l := by
  unfold dl; rw [List.filter_eq_self]; intro p hp; simpa using h p hp
theorem dl_at {κ ν : Type} [DecidableEq κ] {l : List (κ × ν)} (hn : (l.map (·.1)).Nodup) {j : Nat} {k : κ} {v : ν} (h : l[j]? = some (k, v)) : dl l k = l.eraseIdx j := by
  induction l generalizing j with
  | nil => simp at h
  | cons p l ih =>
    simp only [List.map_cons, List.nodup_cons] at hn
    cases j with
    | zero =>
      simp at h; subst h
      have : dl l k = l := dl_none fun q hq e => hn.1 (by rw [← e]; exact List.mem_map.2 ⟨q, hq, rfl⟩)
      unfold dl at this ⊢
      rw [List.filter_cons, if_neg (by simp), this]; rfl
    | succ j =>
      have h2 : l[j]? = some (k, v) := by simpa using h
      have hp : p.1 ≠ k := fun e => hn.1 (by rw [e]; exact List.mem_map.2 ⟨_, List.mem_of_getElem? h2, rfl⟩)
      have := ih hn.2 h2
      unfold dl at this ⊢
      rw [List.filter_cons, if_pos (by simpa using hp), this]; rfl
theorem map_eraseIdx' {α β : Type} (f : α → β) : ∀ (l : List α) (i : Nat), (l.eraseIdx i).map f = (l.map f).eraseIdx i
  | [], _ => rfl
  | _ :: _, 0 => rfl
  | a :: l, i + 1 => by rw [List.eraseIdx_cons_succ, List.map_cons, List.map_cons, List.eraseIdx_cons_succ, map_eraseIdx' f l i]
theorem nodup_sub {α : Type} {l m : List α} (h : l.Sublist m) (hn : m.Nodup) : l.Nodup := List.Nodup.sublist h hn
section
variable {P : Program} {κ ν : Type} {K : KeyEnc P κ} {V : ν → Value} {w w1 : World} {b r : Nat} {l left : List (κ × ν)}
theorem MapOf.put (h : MapOf K V w b l) {k : Nat} {o : Obj} (hk : b ≠ k) : MapOf K V (putMap w k o) b l := h.move (putMap_other w k o hk)
/-- len(m). -/
theorem MapOf.len {t e : TypeId} (h : MapOf K V w b l) (ht : P.underlying t = some (.map K.t e)) (ty : TypeId) : (Builtin.len_ #[t] ty #[.map (some b)]).run P w = .ok (.int .i64 l.length) w := by
  obtain ⟨⟨es, clock, h1, h2, _⟩, _⟩ := h
  have hl : es.size = l.length := by have := congrArg List.length h2; simpa using this
  simp [Builtin.len_, run_underlying ht, MapKept.run_getObj_map h1, goInt, Result.andThen, hl]
/-- delete(m, k). -/
theorem MapOf.delete [DecidableEq κ] {t e : TypeId} (h : MapOf K V w b l) (ht : P.underlying t = some (.map K.t e)) (k : κ) (ty : TypeId) :
    ∃ o, (Builtin.delete_ #[t, K.t] ty #[.map (some b), K.enc k]).run P w = .ok (.tuple #[]) (putMap w b o) ∧ MapOf K V (putMap w b o) b (dl l k) := by
  obtain ⟨es, clock, h1, h2, h3, h4, h5⟩ := h.run_find k
  have hlt := h.lt
  rcases h5 with ⟨h5, h6⟩ | ⟨j, v0, h5, h6⟩
  · refine ⟨.map es clock, ?_, ⟨⟨es, clock, ?_, by rw [dl_none h6]; exact h2, h3, h4⟩, by rw [dl_none h6]; exact h.nodup⟩⟩
    · simp [Builtin.delete_, run_underlying ht, MapKept.run_getObj_map h1, K.chk, h5, MapKept.run_setObj_map _ h1, Result.andThen, putMap]
    · unfold putMap; simp [Array.getElem?_setIfInBounds, hlt]
  · have hl : es.size = l.length := by have := congrArg List.length h2; simpa using this
    have hj : j < es.size := by rw [hl]; exact (List.getElem?_eq_some_iff.1 h6).1
    have hsub : (es.eraseIdxIfInBounds j).toList = es.toList.eraseIdx j := by
      unfold Array.eraseIdxIfInBounds
      rw [dif_pos hj]; simp
    have hd := dl_at h.nodup h6
    refine ⟨.map (es.eraseIdxIfInBounds j) clock, ?_, ⟨⟨es.eraseIdxIfInBounds j, clock, by unfold putMap; simp [Array.getElem?_setIfInBounds, hlt], ?_, fun e he => ?_, ?_⟩, ?_⟩⟩
    · simp [Builtin.delete_, run_underlying ht, MapKept.run_getObj_map h1, K.chk, h5, MapKept.run_setObj_map _ h1, Result.andThen, putMap]
    · rw [hsub, hd, map_eraseIdx', map_eraseIdx', h2]
    · rw [hsub] at he
      exact h3 e ((List.eraseIdx_sublist _ _).subset he)
    · rw [hsub]
      exact nodup_sub ((List.eraseIdx_sublist _ _).map _) h4
    · rw [hd]
      exact nodup_sub ((List.eraseIdx_sublist _ _).map _) h.nodup
/-- Block r is an iterator over the map in block b, which holds the entries l; those of left are still to come. -/
structure Iter {P : Program} {κ ν : Type} (K : KeyEnc P κ) (V : ν → Value) (w : World) (b r : Nat) (l left : List (κ × ν)) : Prop where
  map : MapOf K V w b l
  out : ∃ es clock since c0 seen, w.heap[b]? = some (.map es clock) ∧ es.toList.map (fun e => (e.key, e.val)) = l.map (fun p => (K.enc p.1, V p.2)) ∧ w.heap[r]? = some (.mapIter (some b) since seen c0) ∧ since ≤ c0 ∧ c0 ≤ clock ∧
    (∀ e ∈ es.toList, e.born < since) ∧ (es.toList.map (·.born)).Nodup ∧ left = ((l.zip es.toList).filter (fun p => !seen.contains p.2.born)).map (·.1)
theorem Iter.move (h : Iter K V w b r l left) (hb : w1.heap[b]? = w.heap[b]?) (hr : w1.heap[r]? = w.heap[r]?) : Iter K V w1 b r l left := by
  obtain ⟨hm, es, clock, since, c0, seen, h1, h2, h3, h4⟩ := h
  exact ⟨hm.move hb, es, clock, since, c0, seen, hb.trans h1, h2, hr.trans h3, h4⟩
theorem Iter.ne (h : Iter K V w b r l left) : b ≠ r := by
  obtain ⟨hm, es, clock, since, c0, seen, h1, h2, h3, h4⟩ := h
  rintro rfl
  rw [h1] at h3
  cases h3
theorem Iter.ltr (h : Iter K V w b r l left) : r < w.heap.size := by
  obtain ⟨hm, es, clock, since, c0, seen, h1, h2, h3, h4⟩ := h
  exact (Array.getElem?_eq_some_iff.1 h3).1
theorem Iter.below (h : Iter K V w b r l left) (hb : Below w.heap.size w w1) : Iter K V w1 b r l left := h.move (hb.block b h.map.lt) (hb.block r h.ltr)
theorem zip_all {α β : Type} (l : List α) (es : List β) (h : es.length = l.length) : (l.zip es).map (·.1) = l := by
  rw [List.map_fst_zip (by omega)]
/-- range m. -/
theorem MapOf.range {t e : TypeId} (h : MapOf K V w b l) (ht : P.underlying t = some (.map K.t e)) :
    ∃ o, (Instr.range t (.map (some b))).run P w = .ok (.pointer (some ⟨w.heap.size, 0, none⟩)) (w.alloc o) ∧ Iter K V (w.alloc o) b w.heap.size l l := by
  have hm := h
  have hlt := h.lt
  obtain ⟨⟨es, clock, h1, h2, h3, h4⟩, hn⟩ := h
  have hl : es.toList.length = l.length := by have := congrArg List.length h2; simpa using this
  refine ⟨_, run_range_map w t K.t e b es clock ht h1, hm.alloc _, es, clock, clock, clock, #[], ?_, h2, (MapKept.heap_alloc w _).1, Nat.le_refl _, Nat.le_refl _, h3, h4, ?_⟩
  · rw [heap_alloc_old w _ hlt, Array.getElem?_eq_getElem hlt, ← Array.getElem?_eq_getElem hlt]; exact h1
  · rw [show ((l.zip es.toList).filter (fun p => !(#[] : Array Nat).contains p.2.born)) = l.zip es.toList from List.filter_eq_self.2 (by simp), zip_all l es.toList hl]
/-- The iterator's step: nothing is left; or an entry that is left, whichever. -/
theorem Iter.next (h : Iter K V w b r l left) (ty : TypeId) :
    (left = [] ∧ (Instr.next (.pointer (some ⟨r, 0, none⟩)) false ty).run P w = .ok (.tuple #[.bool false]) w) ∨
    ∃ k v left' w' o, (Instr.next (.pointer (some ⟨r, 0, none⟩)) false ty).run P w = .ok (.tuple #[.bool true, K.enc k, V v]) w' ∧ (w' = putMap w r o ∨ w' = putMap w.drew r o) ∧
      (k, v) ∈ left ∧ left'.length < left.length ∧ (∀ p, p ∈ left ↔ p = (k, v) ∨ p ∈ left') ∧ (∀ p ∈ left', p.1 ≠ k) ∧ Iter K V w' b r l left' ∧ (Instr.entry (.pointer (some ⟨r, 0, none⟩))).run P w' = .ok (.tuple #[K.enc k, V v]) w' := by
  have hne := h.ne
  have hltr := h.ltr
  have hmap := h.map
  obtain ⟨hm, es, clock, since, c0, seen, h1, h2, h3, h4, h5, h6, h7, hleft⟩ := h
  have hl : es.toList.length = l.length := by have := congrArg List.length h2; simpa using this
  rcases run_next_at w ty r b since c0 seen es clock h3 h1 h6 h4 with ⟨h0, hrun⟩ | ⟨e, he, w1, hw1, hrun⟩
  · left
    refine ⟨?_, hrun⟩
    rw [hleft]
    have hz : ∀ e ∈ es.toList, seen.contains e.born = true := fun e he => by
      have hemp : leftOf es seen = #[] := Array.eq_empty_of_size_eq_zero h0
      unfold leftOf at hemp
      have := Array.filter_eq_empty_iff.1 hemp e (by simpa using he)
      simpa using this
    rw [List.filter_eq_nil_iff.2]
    · rfl
    · intro p hp
      rw [hz p.2 (List.of_mem_zip hp).2]; simp
  · right
    have hem : e ∈ es.toList ∧ seen.contains e.born = false := by
      unfold leftOf at he
      simp only [Array.toList_filter, List.mem_filter] at he
      exact ⟨he.1, by simpa using he.2⟩
    obtain ⟨j, hj, hje⟩ := List.getElem_of_mem hem.1
    have hjl : j < l.length := by omega
    have hkv : e.key = K.enc l[j].1 ∧ e.val = V l[j].2 := by
      have := congrArg (fun z => z[j]?) h2
      simp only [List.getElem?_map, List.getElem?_eq_getElem hj, List.getElem?_eq_getElem hjl, Option.map_some, hje, Option.some.injEq, Prod.mk.injEq] at this
      exact this
    have hpair : (l[j], e) ∈ l.zip es.toList := by
      have : (l.zip es.toList)[j]? = some (l[j], e) := by
        rw [List.getElem?_zip_eq_some]
        exact ⟨List.getElem?_eq_getElem hjl, by rw [List.getElem?_eq_getElem hj, hje]⟩
      exact List.mem_of_getElem? this
    -- what has this stamp is this entry; what has this key is this pair
    have hstamp : ∀ p ∈ l.zip es.toList, p.2.born = e.born → p = (l[j], e) := by
      intro p hp hb
      obtain ⟨i, hi, hpi⟩ := List.getElem_of_mem hp
      have hi' : i < l.length ∧ i < es.toList.length := by simp at hi; omega
      have h8 : (es.toList.map (·.born))[i]? = (es.toList.map (·.born))[j]? := by
        rw [List.getElem?_map, List.getElem?_map, List.getElem?_eq_getElem hi'.2, List.getElem?_eq_getElem hj, hje]
        rw [List.getElem_zip] at hpi
        rw [← hpi] at hb
        simpa using hb
      have h9 := (List.getElem?_inj (by simpa using hi'.2) h7).1 h8
      subst h9
      rw [← hpi, List.getElem_zip, hje]
    have hkey : ∀ p ∈ l.zip es.toList, p.1.1 = l[j].1 → p = (l[j], e) := by
      intro p hp hb
      obtain ⟨i, hi, hpi⟩ := List.getElem_of_mem hp
      have hi' : i < l.length ∧ i < es.toList.length := by simp at hi; omega
      have h8 : (l.map (·.1))[i]? = (l.map (·.1))[j]? := by
        rw [List.getElem?_map, List.getElem?_map, List.getElem?_eq_getElem hi'.1, List.getElem?_eq_getElem hjl]
        rw [List.getElem_zip] at hpi
        rw [← hpi] at hb
        simpa using hb
      have h9 := (List.getElem?_inj (by simpa using hi'.1) hmap.nodup).1 h8
      subst h9
      rw [← hpi, List.getElem_zip, hje]
    have hw : w1.heap = w.heap := by rcases hw1 with rfl | rfl <;> rfl
    have hb1 : (putMap w1 r (.mapIter (some b) since (seen.push e.born) clock)).heap[b]? = some (.map es clock) := by rw [putMap_other _ _ _ hne, hw]; exact h1
    have hr1 : (putMap w1 r (.mapIter (some b) since (seen.push e.born) clock)).heap[r]? = some (.mapIter (some b) since (seen.push e.born) clock) := by
      unfold putMap; rw [hw]; simp [Array.getElem?_setIfInBounds, hltr]
    have hiter : Iter K V (putMap w1 r (.mapIter (some b) since (seen.push e.born) clock)) b r l (((l.zip es.toList).filter (fun p => !(seen.push e.born).contains p.2.born)).map (·.1)) :=
      ⟨hmap.move (hb1.trans h1.symm), es, clock, since, clock, seen.push e.born, hb1, h2, hr1, by omega, Nat.le_refl _, h6, h7, rfl⟩
    have hcont : ∀ p ∈ l.zip es.toList, (seen.push e.born).contains p.2.born = (seen.contains p.2.born || p.2.born == e.born) := fun p _ => by
      rw [Array.contains_push]
    refine ⟨l[j].1, l[j].2, ((l.zip es.toList).filter (fun p => !(seen.push e.born).contains p.2.born)).map (·.1), putMap w1 r (.mapIter (some b) since (seen.push e.born) clock), .mapIter (some b) since (seen.push e.born) clock, by rw [hrun, hkv.1, hkv.2]; rfl, ?_, ?_, ?_, ?_, ?_, hiter, ?_⟩
    · rcases hw1 with rfl | rfl
      · exact .inl rfl
      · exact .inr rfl
    · rw [hleft]
      exact List.mem_map.2 ⟨(l[j], e), List.mem_filter.2 ⟨hpair, by simp only; rw [hem.2]; rfl⟩, rfl⟩
    · rw [hleft, List.length_map, List.length_map]
      refine filter_lt (fun p : (κ × ν) × MapEntry => !seen.contains p.2.born) (fun p => !(seen.push e.born).contains p.2.born) (fun p hp => ?_) (l[j], e) (by simp only; rw [hem.2]; rfl) ?_ _ hpair
      · simp only [Array.contains_push, Bool.not_or, Bool.and_eq_true] at hp
        exact hp.1
      · simp only [Array.contains_push]; simp
    · intro p
      rw [hleft]
      simp only [List.mem_map, List.mem_filter]
      constructor
      · rintro ⟨x, ⟨hx1, hx2⟩, rfl⟩
        by_cases hb : x.2.born = e.born
        · exact .inl (by rw [hstamp x hx1 hb])
        · refine .inr ⟨x, ⟨hx1, ?_⟩, rfl⟩
          rw [hcont x hx1, Bool.not_or, hx2]
          simpa using hb
      · rintro (rfl | ⟨x, ⟨hx1, hx2⟩, rfl⟩)
        · exact ⟨(l[j], e), ⟨hpair, by simp only; rw [hem.2]; rfl⟩, rfl⟩
        · refine ⟨x, ⟨hx1, ?_⟩, rfl⟩
          rw [hcont x hx1, Bool.not_or, Bool.and_eq_true] at hx2
          exact hx2.1
    · intro p hp
      obtain ⟨x, hx, rfl⟩ := List.mem_map.1 hp
      obtain ⟨hx1, hx2⟩ := List.mem_filter.1 hx
      intro hk
      have := hkey x hx1 hk
      rw [hcont x hx1, this] at hx2
      simp at hx2
    · rw [← hkv.1, ← hkv.2]
      exact run_entry_at _ r b since seen es clock e hr1 hb1 hem.1 h7
end
end Go.Proofs.Ytckcffjnffcjcaa
set_option linter.unusedVariables false
set_option linter.unusedSimpArgs false
namespace Go.Proofs.Ytckcffjnffcjcaa
theorem lk_dl {κ ν : Type} [DecidableEq κ] (l : List (κ × ν)) (k k' : κ) : lk (dl l k) k' = if k = k' then none else lk l k' := by
  unfold dl
  induction l with
  | nil => simp [lk]
  | cons p l ih =>
    simp only [List.filter_cons]
    by_cases h : p.1 = k
    · rw [if_neg (by simp [h]), ih]
      by_cases h2 : k = k'
      · rw [if_pos h2, if_pos h2]
      · rw [if_neg h2, if_neg h2]
        simp only [lk]
        rw [if_neg (by rw [h]; exact h2)]
    · rw [if_pos (by simp [h])]
      simp only [lk, ih]
      by_cases h2 : k = k'
      · rw [if_pos h2, if_neg (by rw [← h2]; exact h), if_pos h2]
      · rw [if_neg h2, if_neg h2]
abbrev CostT := Int × Int
def ltC (a b : CostT) : Bool := decide (a.1 < b.1 ∨ a.1 = b.1 ∧ a.2 < b.2)
theorem ltC_iff {a b : CostT} : ltC a b = true ↔ a.1 < b.1 ∨ a.1 = b.1 ∧ a.2 < b.2 := by unfold ltC; simp
def leC (a b : CostT) : Prop := a.1 < b.1 ∨ a.1 = b.1 ∧ a.2 ≤ b.2
theorem leC_iff {a b : CostT} : leC a b ↔ ltC b a = false := by
  rw [Bool.eq_false_iff, ne_eq, ltC_iff]; unfold leC; omega
theorem leC_refl (a : CostT) : leC a a := by unfold leC; omega
theorem leC_trans {a b c : CostT} (h : leC a b) (h2 : leC b c) : leC a c := by unfold leC at *; omega
theorem leC_antisymm {a b : CostT} (h : leC a b) (h2 : leC b a) : a = b := by
  unfold leC at *
  obtain ⟨a1, a2⟩ := a
  obtain ⟨b1, b2⟩ := b
  simp only at h h2
  simp only [Prod.mk.injEq]
  omega
theorem ltC_le {a b : CostT} (h : ltC a b = true) : leC a b := by rw [ltC_iff] at h; unfold leC; omega
/-- From the beginning of a step to the place: how far, how many steps. -/
inductive Cst (n : NetT) (fin : StepT) (inb : Int) : StepT → CostT → Prop
  | here : Cst n fin inb fin (inb, 1)
  | step {s t : StepT} {c : CostT} : t ∈ succS n s → Cst n fin inb t c → Cst n fin inb s (c.1 + lenS n s, c.2 + 1)
structure MinC (n : NetT) (fin : StepT) (inb : Int) (s : StepT) (c : CostT) : Prop where
  is : Cst n fin inb s c
  le : ∀ c', Cst n fin inb s c' → leC c c'
def relaxD (n : NetT) (known : List (StepT × CostT)) (c : CostT) (opn : List (StepT × CostT)) (t : StepT) : List (StepT × CostT) :=
  if (lk known t).isSome = true then opn
  else match lk opn t with
    | some o => if ltC (c.1 + lenS n t, c.2 + 1) o = true then up opn t (c.1 + lenS n t, c.2 + 1) else opn
    | none => up opn t (c.1 + lenS n t, c.2 + 1)
def stepD (n : NetT) (known opn : List (StepT × CostT)) (s : StepT) (c : CostT) : List (StepT × CostT) :=
  (acrossE n (beginS s)).foldl (fun o e => relaxD n (up known s c) c o (outS e)) (dl opn s)
structure DInv (n : NetT) (fin : StepT) (inb : Int) (known opn : List (StepT × CostT)) : Prop where
  kmin : ∀ s c, lk known s = some c → MinC n fin inb s c
  ocst : ∀ s c, lk opn s = some c → Cst n fin inb s c
  kok : ∀ s c, lk known s = some c → stepB n s = true
  ook : ∀ s c, lk opn s = some c → stepB n s = true
  dis : ∀ s c, lk opn s = some c → lk known s = none
  pred : ∀ s c t, lk known s = some c → stepB n t = true → s ∈ succS n t → (∃ c', lk known t = some c') ∨ ∃ c', lk opn t = some c' ∧ leC c' (c.1 + lenS n t, c.2 + 1)
  fin_ : (∃ c, lk known fin = some c) ∨ ∃ c', lk opn fin = some c' ∧ leC c' (inb, 1)
  bdk : ∀ s c, lk known s = some c → 0 ≤ c.1 ∧ c.1 ≤ 10000000 * ((known.length : Int) + 1) ∧ 1 ≤ c.2 ∧ c.2 ≤ (known.length : Int) + 1
  bdo : ∀ s c, lk opn s = some c → 0 ≤ c.1 ∧ c.1 ≤ 10000000 * ((known.length : Int) + 1) ∧ 1 ≤ c.2 ∧ c.2 ≤ (known.length : Int) + 1
  nd : (known.map (·.1)).Nodup
section
variable {n : NetT} {fin : StepT} {inb : Int}
theorem DInv.start (hf : stepB n fin = true) (h0 : 0 ≤ inb) (h1 : inb ≤ 10000000) : DInv n fin inb [] [(fin, (inb, 1))] := by
  have key : ∀ s c, lk [(fin, ((inb, 1) : CostT))] s = some c → s = fin ∧ c = (inb, 1) := fun s c h => by
    simp only [lk] at h
    split at h
    · rename_i e; injection h with h; exact ⟨e.symm, h.symm⟩
    · cases h
  refine ⟨fun s c h => by simp [lk] at h, fun s c h => ?_, fun s c h => by simp [lk] at h, fun s c h => ?_, fun s c h => rfl, fun s c t h => by simp [lk] at h, .inr ⟨_, by simp only [lk, if_pos], leC_refl _⟩, fun s c h => by simp [lk] at h, fun s c h => ?_, by simp⟩
  · obtain ⟨rfl, rfl⟩ := key s c h; exact .here
  · obtain ⟨rfl, rfl⟩ := key s c h; exact hf
  · obtain ⟨rfl, rfl⟩ := key s c h; simp; omega
/-- Whatever leads to the place is known, or something that is no dearer is open. -/
theorem DInv.reach (hg : Good n) {known opn : List (StepT × CostT)} (h : DInv n fin inb known opn) {s : StepT} {c : CostT} (hc : Cst n fin inb s c) (hs : stepB n s = true) :
    (∃ ck, lk known s = some ck) ∨ ∃ t ct, lk opn t = some ct ∧ leC ct c := by
  induction hc with
  | here =>
    rcases h.fin_ with ⟨c, hk⟩ | ⟨c', h1, h2⟩
    · exact .inl ⟨c, hk⟩
    · exact .inr ⟨_, c', h1, h2⟩
  | @step s t c ht hct ih =>
    have ht' := succ_ok hg hs ht
    have hl := hg.lenS hs
    rcases ih ht' with ⟨ck, hk⟩ | ⟨t', ct, h1, h2⟩
    · rcases h.pred t ck s hk hs ht with h3 | ⟨c', h3, h4⟩
      · exact .inl h3
      · refine .inr ⟨s, c', h3, leC_trans h4 ?_⟩
        have := (h.kmin t ck hk).le c hct
        unfold leC at *
        simp only
        omega
    · refine .inr ⟨t', ct, h1, leC_trans h2 ?_⟩
      unfold leC
      simp only
      omega
theorem DInv.pick (hg : Good n) {known opn : List (StepT × CostT)} (h : DInv n fin inb known opn) {s : StepT} {c : CostT} (hs : lk opn s = some c) (hm : ∀ t ct, lk opn t = some ct → leC c ct) : MinC n fin inb s c := by
  refine ⟨h.ocst s c hs, fun c' hc' => ?_⟩
  rcases h.reach hg hc' (h.ook s c hs) with ⟨ck, hk⟩ | ⟨t, ct, h1, h2⟩
  · rw [h.dis s c hs] at hk; cases hk
  · exact leC_trans (hm t ct h1) h2
theorem lk_relaxD {known opn : List (StepT × CostT)} {c : CostT} {t : StepT} (q : StepT) :
    lk (relaxD n known c opn t) q = lk opn q ∨ (q = t ∧ lk known t = none ∧ lk (relaxD n known c opn t) q = some (c.1 + lenS n t, c.2 + 1) ∧ ∀ o, lk opn t = some o → leC (c.1 + lenS n t, c.2 + 1) o) := by
  unfold relaxD
  split
  · exact .inl rfl
  · rename_i hk
    have hk' : lk known t = none := by
      cases e : lk known t with
      | none => rfl
      | some v => rw [e] at hk; exact absurd rfl hk
    split
    · rename_i o ho
      split
      · rename_i hl
        rw [lk_up]
        by_cases e : t = q
        · rw [if_pos e]
          refine .inr ⟨e.symm, hk', rfl, fun o' ho' => ?_⟩
          rw [ho] at ho'
          injection ho' with ho'
          subst ho'
          exact ltC_le hl
        · rw [if_neg e]; exact .inl rfl
      · exact .inl rfl
    · rename_i ho
      rw [lk_up]
      by_cases e : t = q
      · rw [if_pos e]
        refine .inr ⟨e.symm, hk', rfl, fun o' ho' => ?_⟩
        rw [ho] at ho'; cases ho'
      · rw [if_neg e]; exact .inl rfl
theorem relaxD_self {known opn : List (StepT × CostT)} {c : CostT} {t : StepT} : (∃ c', lk known t = some c') ∨ ∃ c', lk (relaxD n known c opn t) t = some c' ∧ leC c' (c.1 + lenS n t, c.2 + 1) := by
  unfold relaxD
  split
  · rename_i h
    exact .inl (Option.isSome_iff_exists.1 h)
  · split
    · rename_i o ho
      split
      · exact .inr ⟨_, by rw [lk_up, if_pos rfl], leC_refl _⟩
      · rename_i hl
        refine .inr ⟨o, ho, ?_⟩
        rw [leC_iff]; simpa using hl
    · exact .inr ⟨_, by rw [lk_up, if_pos rfl], leC_refl _⟩
/-- While the beginnings are looked at: ts: those that were. -/
structure DMid (n : NetT) (fin : StepT) (inb : Int) (known : List (StepT × CostT)) (s : StepT) (c : CostT) (ts : List StepT) (opn : List (StepT × CostT)) : Prop where
  ocst : ∀ s c, lk opn s = some c → Cst n fin inb s c
  ook : ∀ s c, lk opn s = some c → stepB n s = true
  dis : ∀ s c, lk opn s = some c → lk known s = none
  pred : ∀ s' c' t, lk known s' = some c' → stepB n t = true → s' ∈ succS n t → (s' = s → t ∈ ts) → (∃ c'', lk known t = some c'') ∨ ∃ c'', lk opn t = some c'' ∧ leC c'' (c'.1 + lenS n t, c'.2 + 1)
  fin_ : (∃ c, lk known fin = some c) ∨ ∃ c', lk opn fin = some c' ∧ leC c' (inb, 1)
  bdo : ∀ s c, lk opn s = some c → 0 ≤ c.1 ∧ c.1 ≤ 10000000 * ((known.length : Int) + 1) ∧ 1 ≤ c.2 ∧ c.2 ≤ (known.length : Int) + 1
theorem DMid.relax (hg : Good n) {known opn : List (StepT × CostT)} {s : StepT} {c : CostT} {ts : List StepT} (h : DMid n fin inb known s c ts opn) (hs : lk known s = some c) (hsok : stepB n s = true) (hsc : Cst n fin inb s c)
    (hb : 0 ≤ c.1 ∧ c.1 ≤ 10000000 * (known.length : Int) ∧ 1 ≤ c.2 ∧ c.2 ≤ (known.length : Int)) {t : StepT} (ht : stepB n t = true) (hst : s ∈ succS n t) :
    DMid n fin inb known s c (ts ++ [t]) (relaxD n known c opn t) := by
  have hl := hg.lenS ht
  refine ⟨fun q cq hq => ?_, fun q cq hq => ?_, fun q cq hq => ?_, fun s' c' t' h1 h2 h3 h4 => ?_, ?_, fun q cq hq => ?_⟩
  · rcases lk_relaxD (n := n) (known := known) (opn := opn) (c := c) (t := t) q with e | ⟨rfl, _, e, _⟩
    · rw [e] at hq; exact h.ocst q cq hq
    · rw [e] at hq; injection hq with hq; subst hq; exact .step hst hsc
  · rcases lk_relaxD (n := n) (known := known) (opn := opn) (c := c) (t := t) q with e | ⟨rfl, _, e, _⟩
    · rw [e] at hq; exact h.ook q cq hq
    · exact ht
  · rcases lk_relaxD (n := n) (known := known) (opn := opn) (c := c) (t := t) q with e | ⟨rfl, e0, e, _⟩
    · rw [e] at hq; exact h.dis q cq hq
    · exact e0
  · by_cases hn : s' = s ∧ t' = t
    · obtain ⟨rfl, rfl⟩ := hn
      rw [hs] at h1
      injection h1 with h1
      subst h1
      exact relaxD_self
    · have hmem : s' = s → t' ∈ ts := fun e => by
        rcases List.mem_append.1 (h4 e) with h5 | h5
        · exact h5
        · exact absurd ⟨e, by simpa using h5⟩ hn
      rcases h.pred s' c' t' h1 h2 h3 hmem with h5 | ⟨c'', h5, h6⟩
      · exact .inl h5
      · rcases lk_relaxD (n := n) (known := known) (opn := opn) (c := c) (t := t) t' with e | ⟨rfl, _, e, e2⟩
        · exact .inr ⟨c'', by rw [e]; exact h5, h6⟩
        · exact .inr ⟨_, e, leC_trans (e2 c'' h5) h6⟩
  · rcases h.fin_ with h5 | ⟨c'', h5, h6⟩
    · exact .inl h5
    · rcases lk_relaxD (n := n) (known := known) (opn := opn) (c := c) (t := t) fin with e | ⟨rfl, _, e, e2⟩
      · exact .inr ⟨c'', by rw [e]; exact h5, h6⟩
      · exact .inr ⟨_, e, leC_trans (e2 c'' h5) h6⟩
  · rcases lk_relaxD (n := n) (known := known) (opn := opn) (c := c) (t := t) q with e | ⟨rfl, _, e, _⟩
    · rw [e] at hq; exact h.bdo q cq hq
    · rw [e] at hq; injection hq with hq; subst hq; simp only; omega
theorem DMid.relaxAll (hg : Good n) {known : List (StepT × CostT)} {s : StepT} {c : CostT} (hs : lk known s = some c) (hsok : stepB n s = true) (hsc : Cst n fin inb s c)
    (hb : 0 ≤ c.1 ∧ c.1 ≤ 10000000 * (known.length : Int) ∧ 1 ≤ c.2 ∧ c.2 ≤ (known.length : Int)) :
    ∀ (es : List EndT), (∀ e ∈ es, stepB n (outS e) = true ∧ s ∈ succS n (outS e)) → ∀ {opn : List (StepT × CostT)} {ts : List StepT}, DMid n fin inb known s c ts opn →
    DMid n fin inb known s c (ts ++ es.map outS) (es.foldl (fun o e => relaxD n known c o (outS e)) opn)
  | [], _, opn, ts, h => by simpa using h
  | e :: es, he, opn, ts, h => by
    have h1 := h.relax hg hs hsok hsc hb (he e (by simp)).1 (he e (by simp)).2
    have h2 := DMid.relaxAll hg hs hsok hsc hb es (fun x hx => he x (by simp [hx])) h1
    simpa using h2
theorem DInv.step (hg : Good n) {known opn : List (StepT × CostT)} (h : DInv n fin inb known opn) {s : StepT} {c : CostT} (hs : lk opn s = some c) (hm : ∀ t ct, lk opn t = some ct → leC c ct) :
    DInv n fin inb (up known s c) (stepD n known opn s c) ∧ (up known s c).length = known.length + 1 := by
  have hmin := h.pick hg hs hm
  have hsok := h.ook s c hs
  have hks : ∀ p ∈ known, p.1 ≠ s := fun p hp e => by
    have := h.dis s c hs
    have h2 : (lk known s).isSome = true := lk_isSome.2 (List.mem_map.2 ⟨p, hp, e⟩)
    rw [this] at h2; cases h2
  have hlen : (up known s c).length = known.length + 1 := by rw [up_none hks]; simp
  have hbs := h.bdo s c hs
  have hku : ∀ q cq, lk (up known s c) q = some cq → (q = s ∧ cq = c) ∨ (lk known q = some cq) := fun q cq hq => by
    rw [lk_up] at hq
    split at hq
    · rename_i e; injection hq with hq; exact .inl ⟨e.symm, hq.symm⟩
    · exact .inr hq
  have hkm : ∀ q cq, lk known q = some cq → lk (up known s c) q = some cq := fun q cq hq => by
    rw [lk_up, if_neg]
    · exact hq
    · rintro rfl
      rw [h.dis s c hs] at hq; cases hq
  have hss : lk (up known s c) s = some c := by rw [lk_up, if_pos rfl]
  have hpreds : ∀ e ∈ acrossE n (beginS s), stepB n (outS e) = true ∧ s ∈ succS n (outS e) := fun e he => by
    have := hg.across (beginS_ok hsok) he
    have ho := outS_ok this.1
    exact ⟨ho, (succ_iff hg hsok ho).2 (by rw [look_out this.1]; exact he)⟩
  have hmid : DMid n fin inb (up known s c) s c [] (dl opn s) := by
    have hd : ∀ q cq, lk (dl opn s) q = some cq → q ≠ s ∧ lk opn q = some cq := fun q cq hq => by
      rw [lk_dl] at hq
      split at hq
      · cases hq
      · rename_i e; exact ⟨Ne.symm e, hq⟩
    have hd2 : ∀ q, q ≠ s → lk (dl opn s) q = lk opn q := fun q hq => by rw [lk_dl, if_neg (Ne.symm hq)]
    refine ⟨fun q cq hq => h.ocst q cq (hd q cq hq).2, fun q cq hq => h.ook q cq (hd q cq hq).2, fun q cq hq => ?_, fun s' c' t h1 h2 h3 h4 => ?_, ?_, fun q cq hq => ?_⟩
    · rw [lk_up, if_neg (Ne.symm (hd q cq hq).1)]
      exact h.dis q cq (hd q cq hq).2
    · rcases hku s' c' h1 with ⟨e, _⟩ | h5
      · exact absurd (h4 e) (by simp)
      · by_cases et : t = s
        · subst et; exact .inl ⟨c, hss⟩
        · rcases h.pred s' c' t h5 h2 h3 with ⟨c'', h6⟩ | ⟨c'', h6, h7⟩
          · exact .inl ⟨c'', hkm t c'' h6⟩
          · exact .inr ⟨c'', by rw [hd2 t et]; exact h6, h7⟩
    · by_cases et : fin = s
      · subst et; exact .inl ⟨c, hss⟩
      · rcases h.fin_ with ⟨c'', h6⟩ | ⟨c'', h6, h7⟩
        · exact .inl ⟨c'', hkm _ c'' h6⟩
        · exact .inr ⟨c'', by rw [hd2 _ et]; exact h6, h7⟩
    · have := h.bdo q cq (hd q cq hq).2
      rw [hlen]
      push_cast
      omega
  have hend := DMid.relaxAll hg hss hsok hmin.is (by rw [hlen]; push_cast; omega) (acrossE n (beginS s)) hpreds hmid
  refine ⟨⟨fun q cq hq => ?_, hend.ocst, fun q cq hq => ?_, hend.ook, hend.dis, fun s' c' t h1 h2 h3 => ?_, hend.fin_, fun q cq hq => ?_, hend.bdo, up_nodup h.nd s c⟩, hlen⟩
  · rcases hku q cq hq with ⟨rfl, rfl⟩ | h5
    · exact hmin
    · exact h.kmin q cq h5
  · rcases hku q cq hq with ⟨rfl, rfl⟩ | h5
    · exact hsok
    · exact h.kok q cq h5
  · refine hend.pred s' c' t h1 h2 h3 fun e => ?_
    subst e
    have := (succ_iff hg hsok h2).1 h3
    simp only [List.nil_append]
    exact List.mem_map.2 ⟨lookS t, this, out_look h2⟩
  · rw [hlen]
    rcases hku q cq hq with ⟨rfl, rfl⟩ | h5
    · push_cast; omega
    · have := h.bdk q cq h5
      push_cast; omega
theorem DInv.few {known opn : List (StepT × CostT)} (h : DInv n fin inb known opn) : known.length ≤ 2 * n.pieces.length := by
  have := nodup_steps (n := n) h.nd (fun t ht => by
    obtain ⟨c, hc⟩ := Option.isSome_iff_exists.1 (lk_isSome.2 ht)
    exact h.kok t c hc)
  simpa using this
/-- What is known of the costs at the end. -/
structure Costs (n : NetT) (fin : StepT) (inb : Int) (known : List (StepT × CostT)) : Prop where
  some_ : ∀ s c, lk known s = some c → MinC n fin inb s c ∧ stepB n s = true ∧ 0 ≤ c.1 ∧ c.1 ≤ 2010000000 ∧ 1 ≤ c.2 ∧ c.2 ≤ 201
  all : ∀ s c, stepB n s = true → Cst n fin inb s c → ∃ ck, lk known s = some ck
theorem DInv.stop (hg : Good n) {known opn : List (StepT × CostT)} (h : DInv n fin inb known opn) (ho : ∀ s, lk opn s = none) : Costs n fin inb known := by
  have hf := h.few
  have hp := hg.p1
  refine ⟨fun s c hc => ⟨h.kmin s c hc, h.kok s c hc, ?_⟩, fun s c hs hc => ?_⟩
  · have := h.bdk s c hc
    omega
  · rcases h.reach hg hc hs with h1 | ⟨t, ct, h1, _⟩
    · exact h1
    · rw [ho t] at h1; cases h1
structure IsPick (n : NetT) (known : List (StepT × CostT)) (s t : StepT) (c : CostT) : Prop where
  k : lk known t = some c
  m : t ∈ succS n s
  b : ∀ t' c', t' ∈ succS n s → lk known t' = some c' → leC c c' ∧ (c = c' → stepLt t' t = false)
def Gr (n : NetT) (known : List (StepT × CostT)) (fin : StepT) : StepT → List StepT → Prop
  | s, [] => s = fin
  | s, t :: l => s ≠ fin ∧ (∃ c, IsPick n known s t c) ∧ Gr n known fin t l
theorem Cst.path {s : StepT} {m : List StepT} (hf : Follows n s m) (hl : lastS s m = fin) : Cst n fin inb s (weighS n (s :: m) - lenS n fin + inb, (m.length : Int) + 1) := by
  induction m generalizing s with
  | nil =>
    have : s = fin := hl
    subst this
    rw [weighS_one, show lenS n s - lenS n s + inb = inb by omega]
    exact .here
  | cons t m ih =>
    have := Cst.step (s := s) hf.1 (ih hf.2 hl)
    simp only at this
    rw [weighS_cons, List.length_cons]
    have e1 : weighS n (t :: m) - lenS n fin + inb + lenS n s = lenS n s + weighS n (t :: m) - lenS n fin + inb := by omega
    have e2 : (m.length : Int) + 1 + 1 = ((m.length + 1 : Nat) : Int) + 1 := by push_cast; rfl
    rw [e1, e2] at this
    exact this
/-- A pick, then what is least from there: the least. -/
theorem pick_least {known : List (StepT × CostT)} (hk : Costs n fin inb known) (hg : Good n) {s t : StepT} (hs : stepB n s = true) {c : CostT} (hp : IsPick n known s t c) {l : List StepT}
    (hw : weighS n (t :: l) - lenS n fin + inb = c.1 ∧ (l.length : Int) + 1 = c.2) (hl : ∀ m, Follows n t m → lastS t m = fin → leW n l m) :
    ∀ m, Follows n s m → m ≠ [] → lastS s m = fin → leW n (t :: l) m := by
  intro m hf hne hlast
  cases m with
  | nil => exact absurd rfl hne
  | cons t' m =>
    have hc' := Cst.path (inb := inb) hf.2 hlast
    have ht' := succ_ok hg hs hf.1
    obtain ⟨ck, hck⟩ := hk.all t' _ ht' hc'
    have hmin := (hk.some_ t' ck hck).1
    have h1 := hmin.le _ hc'
    obtain ⟨h2, h3⟩ := hp.b t' ck hf.1 hck
    have h4 := leC_trans h2 h1
    unfold leW
    rw [Bool.eq_false_iff, ne_eq, lessW_iff]
    unfold leC at h4
    simp only at h4
    rintro (h5 | ⟨h5, h6 | ⟨h6, h7⟩⟩)
    · omega
    · simp only [List.length_cons] at h6
      omega
    · simp only [List.length_cons] at h6
      have hceq : c = ck := by
        refine leC_antisymm h2 (leC_trans h1 ?_)
        unfold leC; simp only; omega
      have h8 := h3 hceq
      simp only [lexB] at h7
      split at h7
      · rename_i e
        subst e
        have h9 := hl m hf.2 hlast
        unfold leW at h9
        rw [weighS_cons, weighS_cons] at h5
        have : lessW n m l = true := lessW_iff.2 (.inr ⟨by omega, .inr ⟨by omega, h7⟩⟩)
        rw [this] at h9; cases h9
      · rw [h8] at h7; cases h7
theorem gr_least {known : List (StepT × CostT)} (hk : Costs n fin inb known) (hg : Good n) {l : List StepT} : ∀ {s : StepT} {c : CostT}, lk known s = some c → Gr n known fin s l →
    Follows n s l ∧ lastS s l = fin ∧ (weighS n (s :: l) - lenS n fin + inb = c.1 ∧ (l.length : Int) + 1 = c.2) ∧ ∀ m, Follows n s m → lastS s m = fin → leW n l m := by
  induction l with
  | nil =>
    intro s c hc hgr
    have : s = fin := hgr
    subst this
    obtain ⟨hm, hs, b1, b2, b3, b4⟩ := hk.some_ s c hc
    have h1 := hm.le _ .here
    have hcc : c = (inb, 1) := by
      refine leC_antisymm h1 ?_
      have := hm.is
      have key : ∀ q cq, Cst n s inb q cq → stepB n q = true → leC (inb, 1) cq := by
        intro q cq h
        induction h with
        | here => intro _; exact leC_refl _
        | @step q t cq ht _ ih =>
          intro hq
          have h2 := ih (succ_ok hg hq ht)
          have h3 := hg.lenS hq
          unfold leC at *
          simp only at *
          omega
      exact key s c this hs
    refine ⟨trivial, rfl, ?_, fun m hf hl => ?_⟩
    · rw [hcc, weighS_one]; simp; try omega
    · have h2 := weighS_nonneg hg (follows_ok hg hs hf)
      unfold leW
      rw [Bool.eq_false_iff, ne_eq, lessW_iff]
      have : weighS n ([] : List StepT) = 0 := by simp [weighS]
      rw [this]
      rintro (h5 | ⟨h5, h6 | ⟨h6, h7⟩⟩)
      · omega
      · simp at h6
      · cases m with
        | nil => simp [lexB] at h7
        | cons => simp [lexB] at h7
  | cons t l ih =>
    intro s c hc hgr
    obtain ⟨hne, ⟨ct, hp⟩, hgt⟩ := hgr
    obtain ⟨hm, hs, _⟩ := hk.some_ s c hc
    obtain ⟨i1, i2, i3, i4⟩ := ih hp.k hgt
    have hfw : Follows n s (t :: l) := ⟨hp.m, i1⟩
    refine ⟨hfw, i2, ?_, fun m hf hl => ?_⟩
    · have h1 := hm.le _ (.step hp.m (hk.some_ t ct hp.k).1.is)
      have h2 : leC (ct.1 + lenS n s, ct.2 + 1) c := by
        have := hm.is
        cases this with
        | here => exact absurd rfl hne
        | @step _ t0 c0 ht0 hc0 =>
          obtain ⟨k0, hk0⟩ := hk.all t0 c0 (succ_ok hg hs ht0) hc0
          have h3 := (hk.some_ t0 k0 hk0).1.le _ hc0
          have h4 := leC_trans (hp.b t0 k0 ht0 hk0).1 h3
          unfold leC at *
          simp only
          omega
      have h3 := leC_antisymm h1 h2
      rw [h3, weighS_cons, List.length_cons]
      simp only
      push_cast
      omega
    · refine pick_least hk hg hs hp i3 i4 m hf ?_ hl
      rintro rfl
      exact hne hl
/-- The first pick, then the best each time: the least walk. -/
theorem greedy_least {known : List (StepT × CostT)} (hk : Costs n fin inb known) (hg : Good n) {s t : StepT} (hs : stepB n s = true) {c : CostT} (hp : IsPick n known s t c) {l : List StepT} (hgr : Gr n known fin t l) :
    Least n s fin (t :: l) ∧ c.1 = weighS n (t :: l) - lenS n fin + inb := by
  obtain ⟨i1, i2, i3, i4⟩ := gr_least hk hg hp.k hgr
  exact ⟨⟨⟨hp.m, i1⟩, by simp, i2, pick_least hk hg hs hp i3 i4⟩, i3.1.symm⟩
theorem no_pick {known : List (StepT × CostT)} (hk : Costs n fin inb known) (hg : Good n) {s : StepT} (hs : stepB n s = true) (hn : ∀ t ∈ succS n s, lk known t = none) : NoWalk n s fin := by
  intro m hf hne hl
  cases m with
  | nil => exact hne rfl
  | cons t m =>
    obtain ⟨ck, h⟩ := hk.all t _ (succ_ok hg hs hf.1) (Cst.path (inb := inb) hf.2 hl)
    rw [hn t hf.1] at h; cases h
/-- What is known and not the end leads to something known. -/
theorem goes_on {known : List (StepT × CostT)} (hk : Costs n fin inb known) (hg : Good n) {s : StepT} {c : CostT} (hc : lk known s = some c) (hne : s ≠ fin) : ∃ t ∈ succS n s, ∃ ct, lk known t = some ct ∧ ct.2 < c.2 := by
  obtain ⟨hm, hs, _⟩ := hk.some_ s c hc
  have := hm.is
  cases this with
  | here => exact absurd rfl hne
  | @step _ t0 c0 ht0 hc0 =>
    obtain ⟨k0, hk0⟩ := hk.all t0 c0 (succ_ok hg hs ht0) hc0
    refine ⟨t0, ht0, k0, hk0, ?_⟩
    have h1 := (hk.some_ t0 k0 hk0).1
    have h2 := h1.le _ hc0
    have h3 := hm.le _ (.step ht0 h1.is)
    unfold leC at h2 h3
    simp only at h3
    simp only
    omega
end
end Go.Proofs.Ytckcffjnffcjcaa
set_option linter.unusedVariables false
set_option linter.unusedSimpArgs false
namespace Go.Proofs.Ytckcffjnffcjcaa
/-- What two steps ask of a switch. none: the second does not follow the first; some none: no switch. -/
def stepLie (n : NetT) (s t : StepT) : Option (Option LieT) :=
  if beginS t ∈ acrossE n (lookS s) then
    (if (jOf n (lookS s)).kind = 3 then some (some ⟨(iOf n (lookS s) : Int), (kOf n (lookS s) : Int) + (kOf n (beginS t) : Int)⟩) else some none)
  else none
def addLie (out : List LieT) (x : LieT) : Option (List LieT) :=
  if out.any (fun y => decide (y.joint = x.joint ∧ y.lie ≠ x.lie)) = true then none
  else if out.any (fun y => decide (y.joint = x.joint)) = true then some out
  else some (out ++ [x])
def liesGo (n : NetT) : StepT → List StepT → List LieT → Option (List LieT)
  | _, [], out => some out
  | s, t :: l, out => match stepLie n s t with
    | none => none
    | some none => liesGo n t l out
    | some (some x) => match addLie out x with
      | none => none
      | some o => liesGo n t l o
/-- The whole: the lies of a row of steps. -/
def liesAll (n : NetT) : List StepT → Option (List LieT)
  | [] => some []
  | s :: l => liesGo n s l []
def stepsB (n : NetT) (l : List StepT) : Bool := decide (l.length ≤ 400) && l.all (stepB n)
theorem addLie_len {out o : List LieT} {x : LieT} (h : addLie out x = some o) : o.length ≤ out.length + 1 := by
  unfold addLie at h
  split at h
  · cases h
  · split at h
    · injection h with h; subst h; omega
    · injection h with h; subst h; simp
/-- The lies that a switch has for the ways over it. -/
theorem how_at {n : NetT} (hg : Good n) {a : EndT} (ha : endB n a = true) {q : Nat} (hq : q < (acrossE n a).length) :
    q < (howJ (jOf n a) (kOf n a)).length ∧ (if (jOf n a).kind = 3 then (howJ (jOf n a) (kOf n a)).getD q 0 = (kOf n a : Int) + (kOf n ((acrossE n a).getD q default) : Int) ∧ (howJ (jOf n a) (kOf n a)).getD q 0 ≠ 0 else (howJ (jOf n a) (kOf n a)).getD q 0 = 0) := by
  obtain ⟨i, p, hat⟩ := hg.at_ ha
  obtain ⟨k1, k2, k3, k4⟩ := hg.kindAt hat.hi
  have hpq := hat.hq
  unfold acrossE at hq ⊢
  rw [hat.j, hat.k] at hq ⊢
  unfold acrossJ howJ at *
  split at hq
  · rename_i hk
    simp only [hk, if_true]
    simp only [List.length_cons, List.length_nil] at hq
    obtain rfl : q = 0 := by omega
    simp
  · split at hq
    · rename_i hk2 hk
      rw [hk] at k3
      simp only [hk, if_true, if_false, show ¬ ((3 : Int) = 2) by omega]
      split at hq
      · rename_i hp0
        subst hp0
        simp only [List.length_cons, List.length_nil] at hq
        have : q = 0 ∨ q = 1 := by omega
        rcases this with rfl | rfl
        · have hp := hg.place hat.hi (q := 1) (by omega)
          refine ⟨by simp, ?_, by simp⟩
          show (1 : Int) = ((0 : Nat) : Int) + (kOf n ((n.joints.getD i default).ends.getD 1 default) : Int)
          rw [hp.k]; rfl
        · have hp := hg.place hat.hi (q := 2) (by omega)
          refine ⟨by simp, ?_, by simp⟩
          show (2 : Int) = ((0 : Nat) : Int) + (kOf n ((n.joints.getD i default).ends.getD 2 default) : Int)
          rw [hp.k]; rfl
      · rename_i hp0
        simp only [List.length_cons, List.length_nil] at hq
        obtain rfl : q = 0 := by omega
        have hp := hg.place hat.hi (q := 0) (by omega)
        refine ⟨by simp [hp0], ?_, ?_⟩
        · rw [if_neg hp0, if_neg hp0]
          show (p : Int) = (p : Int) + (kOf n ((n.joints.getD i default).ends.getD 0 default) : Int)
          rw [hp.k]; simp
        · rw [if_neg hp0]
          simp; omega
    · split at hq
      · rename_i hk2 hk3 hk
        simp only [hk, if_true, if_false, show ¬ ((4 : Int) = 2) by omega, show ¬ ((4 : Int) = 3) by omega]
        simp only [List.length_cons, List.length_nil] at hq
        obtain rfl : q = 0 := by omega
        simp
      · simp at hq
theorem comes_eq {n : NetT} {e : EndT} (he : endB n e = true) {t : StepT} (ht : stepB n t = true) : comesS e = t ↔ e = beginS t :=
  ⟨fun h => by rw [← h, begin_comes he], fun h => by rw [h, comes_begin ht]⟩
/-- What the program's way over two steps comes to. -/
theorem stepLie_none {n : NetT} (hg : Good n) {s t : StepT} (hs : stepB n s = true) (ht : stepB n t = true) (h : ∀ e ∈ acrossE n (lookS s), comesS e ≠ t) : stepLie n s t = none := by
  unfold stepLie
  rw [if_neg]
  intro hm
  exact h _ hm (comes_begin ht)
theorem stepLie_some {n : NetT} (hg : Good n) {s t : StepT} (hs : stepB n s = true) (ht : stepB n t = true) {q : Nat} (hq : q < (acrossE n (lookS s)).length) (h : comesS ((acrossE n (lookS s)).getD q default) = t) :
    stepLie n s t = if (howJ (jOf n (lookS s)) (kOf n (lookS s))).getD q 0 = 0 then some none else some (some ⟨(iOf n (lookS s) : Int), (howJ (jOf n (lookS s)) (kOf n (lookS s))).getD q 0⟩) := by
  have ha := lookS_ok hs
  obtain ⟨h1, h2⟩ := how_at hg ha hq
  have hm := getD_mem (acrossE n (lookS s)) q hq
  have hb : (acrossE n (lookS s)).getD q default = beginS t := (comes_eq (hg.across ha hm).1 ht).1 h
  unfold stepLie
  rw [if_pos (by rw [← hb]; exact hm)]
  by_cases hk : (jOf n (lookS s)).kind = 3
  · rw [if_pos hk] at h2 ⊢
    rw [if_neg h2.2, h2.1, hb]
  · rw [if_neg hk] at h2 ⊢
    rw [if_pos h2]
/-- A map that holds what has been told. -/
def LiesOf (lm : List (Int × Int)) (out : List LieT) : Prop := ∀ j v, lk lm j = some v ↔ (⟨j, v⟩ : LieT) ∈ out
theorem LiesOf.nil : LiesOf [] [] := fun j v => by simp [lk]
theorem LiesOf.has {lm : List (Int × Int)} {out : List LieT} (h : LiesOf lm out) {x : LieT} {v : Int} (hv : lk lm x.joint = some v) : addLie out x = if v = x.lie then some out else none := by
  have hm := (h _ _).1 hv
  unfold addLie
  by_cases he : v = x.lie
  · rw [if_pos he, if_neg, if_pos]
    · rw [List.any_eq_true]; exact ⟨_, hm, by simp⟩
    · rw [List.any_eq_true]
      rintro ⟨y, hy, h1⟩
      simp only [decide_eq_true_eq] at h1
      obtain ⟨yj, yl⟩ := y
      simp only at h1
      have := (h _ _).2 hy
      rw [h1.1, hv] at this
      injection this with this
      omega
  · rw [if_neg he, if_pos]
    rw [List.any_eq_true]
    exact ⟨_, hm, by simp [he]⟩
theorem LiesOf.lacks {lm : List (Int × Int)} {out : List LieT} (h : LiesOf lm out) {x : LieT} (hv : lk lm x.joint = none) : addLie out x = some (out ++ [x]) := by
  have hn : ∀ y ∈ out, y.joint ≠ x.joint := fun y hy he => by
    obtain ⟨yj, yl⟩ := y
    simp only at he
    have := (h _ _).2 hy
    rw [he, hv] at this
    cases this
  unfold addLie
  rw [if_neg, if_neg]
  · rw [List.any_eq_true]
    rintro ⟨y, hy, h1⟩
    simp only [decide_eq_true_eq] at h1
    exact hn y hy h1
  · rw [List.any_eq_true]
    rintro ⟨y, hy, h1⟩
    simp only [decide_eq_true_eq] at h1
    exact hn y hy h1.1
theorem LiesOf.up {lm : List (Int × Int)} {out : List LieT} (h : LiesOf lm out) {x : LieT} (hv : lk lm x.joint = none) : LiesOf (up lm x.joint x.lie) (out ++ [x]) := fun j v => by
  obtain ⟨xj, xl⟩ := x
  simp only at hv ⊢
  rw [lk_up, List.mem_append, List.mem_singleton]
  by_cases he : xj = j
  · subst he
    rw [if_pos rfl]
    constructor
    · intro h1; injection h1 with h1; subst h1; exact .inr rfl
    · rintro (h1 | h1)
      · rw [(h _ _).2 h1] at hv; cases hv
      · injection h1 with _ h1; rw [h1]
  · rw [if_neg he]
    constructor
    · intro h1; exact .inl ((h _ _).1 h1)
    · rintro (h1 | h1)
      · exact (h _ _).2 h1
      · injection h1 with h1 _; exact absurd h1.symm he
end Go.Proofs.Ytckcffjnffcjcaa
set_option linter.unusedVariables false
set_option linter.unusedSimpArgs false
namespace Go.Proofs.Ytckcffjnffcjcaa
def stepOf (s : SpotT) : StepT := ⟨s.piece, s.way⟩
theorem stepOf_ok {n : NetT} {s : SpotT} (h : spotB n s = true) : stepB n (stepOf s) = true := by
  have := spotB_iff.1 h
  rw [stepB_iff]
  unfold stepOf
  exact ⟨this.1, this.2.1, this.2.2.1⟩
theorem enter_step (n : NetT) (e : EndT) : stepOf (enterS n e) = comesS e := by unfold stepOf enterS comesS; split <;> rfl
end Go.Proofs.Ytckcffjnffcjcaa
set_option linter.unusedVariables false
set_option linter.unusedSimpArgs false
namespace Go.Proofs.Ytckcffjnffcjcaa
open Classical in
/-- The least walk, where there is one. -/
noncomputable def shortL (n : NetT) (s t : StepT) : Option (List StepT) := if h : ∃ l, Least n s t l then some h.choose else none
theorem shortL_some {n : NetT} {s t : StepT} {l : List StepT} (h : Least n s t l) : shortL n s t = some l := by
  have he : ∃ l, Least n s t l := ⟨l, h⟩
  unfold shortL
  rw [dif_pos he]
  exact congrArg some (he.choose_spec.unique h)
theorem shortL_none {n : NetT} {s t : StepT} (h : NoWalk n s t) : shortL n s t = none := by
  unfold shortL
  rw [dif_neg]
  rintro ⟨l, hl⟩
  exact h l hl.f hl.ne hl.last
theorem shortL_is {n : NetT} {s t : StepT} {l : List StepT} (h : shortL n s t = some l) : Least n s t l := by
  unfold shortL at h
  split at h
  · rename_i he
    injection h with h
    rw [← h]
    exact he.choose_spec
  · cases h
def inOf (n : NetT) (b : SpotT) : Int := if b.way = -1 then lenP n b.piece - b.at_ else b.at_
def directB (a b : SpotT) : Bool := decide (a.piece = b.piece ∧ a.way = b.way ∧ 0 ≤ (b.at_ - a.at_) * a.way)
def noPath : PathT := ⟨false, 0, [], []⟩
noncomputable def farV (n : NetT) (a b : SpotT) : PathT := match shortL n (stepOf a) (stepOf b) with
  | none => noPath
  | some l => ⟨true, roomS n a + (weighS n l - lenP n b.piece) + inOf n b, stepOf a :: l, (liesAll n (stepOf a :: l)).getD []⟩
noncomputable def loopV (n : NetT) (e : EndT) : List (List StepT) := match shortL n (comesS e) (comesS e) with
  | none => []
  | some l => [comesS e :: l]
noncomputable def loopsV (n : NetT) : List (List StepT) := if netGood n = true then (List.range n.pieces.length).flatMap (fun (i : Nat) => loopV n ⟨(i : Int), 0⟩ ++ loopV n ⟨(i : Int), 1⟩) else []
theorem lastS_getD (s : StepT) : ∀ (l : List StepT), (s :: l).getD l.length default = lastS s l
  | [] => rfl
  | t :: l => by
    rw [List.length_cons, List.getD_cons_succ]
    exact lastS_getD t l
theorem loopV_each {n : NetT} {e : EndT} {x : List StepT} (h : x ∈ loopV n e) : 2 ≤ x.length ∧ x.getD 0 default = x.getD (x.length - 1) default := by
  unfold loopV at h
  split at h
  · simp at h
  · rename_i l hl
    have hl := shortL_is hl
    have : x = comesS e :: l := by simpa using h
    subst this
    have hp : 0 < l.length := List.length_pos_iff.2 hl.ne
    refine ⟨by simp; omega, ?_⟩
    rw [show (comesS e :: l).length - 1 = l.length by simp, lastS_getD, hl.last]
    rfl
theorem loopsV_each {n : NetT} {x : List StepT} (h : x ∈ loopsV n) : 2 ≤ x.length ∧ x.getD 0 default = x.getD (x.length - 1) default := by
  unfold loopsV at h
  split at h
  · obtain ⟨i, _, hx⟩ := List.mem_flatMap.1 h
    rcases List.mem_append.1 hx with hx | hx
    · exact loopV_each hx
    · exact loopV_each hx
  · simp at h
theorem loopV_len (n : NetT) (e : EndT) : (loopV n e).length ≤ 1 := by
  unfold loopV
  split <;> simp
end Go.Proofs.Ytckcffjnffcjcaa
set_option linter.unusedVariables false
set_option linter.unusedSimpArgs false
namespace Go.Proofs.Ytckcffjnffcjcaa
open Go.RowKit Go.Proofs.YtckcffjnffcjcaaW.PrintWords
set_option maxRecDepth 100000 in
set_option maxHeartbeats 4000000 in
theorem isStep_any (x : EndT) (bs bi : Nat) (A : Option Addr) (c : Nat) (l : List StepT) (i : Nat) (w : World) (hb : Bx w bs [.slice A l.length c]) (hi : Bx w bi [.int .i64 (i : Int)]) (hC : Kd.C kStep w A l.length l) (hil : i < l.length) :
    Calls Try.prog 184 #[.agg #[.int .i64 x.piece, .int .i64 x.side], .pointer (some ⟨bs, 0, none⟩), .pointer (some ⟨bi, 0, none⟩)] w
      fun e w' => e = .returned (.bool (decide (comesS x = l.getD i default))) ∧ Below w.heap.size w w' := by
  obtain ⟨ad, e0, y0, y1⟩ := at_Step hC i hil
  subst e0
  have hm := hC.2.1
  obtain ⟨⟨tp, tw⟩, ht⟩ : ∃ t, t = l.getD i default := ⟨_, rfl⟩
  rw [← ht] at y0 y1 ⊢
  obtain ⟨⟨cp, cw⟩, hcs⟩ : ∃ t, t = comesS x := ⟨_, rfl⟩
  rw [← hcs]
  have HCS := Aside0.mk hcs.symm
  have HV : Aside0 (decide ((⟨cp, cw⟩ : StepT) = ⟨tp, tw⟩) = ((cp == tp) && (cw == tw))) := ⟨by
    by_cases h1 : cp = tp
    · by_cases h2 : cw = tw
      · subst h1; subst h2; simp
      · have : ¬ ((⟨cp, cw⟩ : StepT) = ⟨tp, tw⟩) := fun h => h2 (by injection h)
        simp [this, h2]
    · have : ¬ ((⟨cp, cw⟩ : StepT) = ⟨tp, tw⟩) := fun h => h1 (by injection h)
      simp [this, h1]⟩
  obtain ⟨W0, hW0⟩ : ∃ W0, W0 = w.alloc (.cells #[.int .i64 x.piece, .int .i64 x.side] 67) := ⟨_, rfl⟩
  have fb : Below w.heap.size w W0 := by rw [hW0]; exact below_alloc (Below.refl _ _) _
  have XE : Aside0 (Bx W0 w.heap.size [.int .i64 x.piece, .int .i64 x.side]) := ⟨by rw [hW0]; exact Bx.new w _ 67⟩
  have XS := Aside0.mk (hb.below fb)
  have XI := Aside0.mk (hi.below fb)
  replace y0 := pw_cell_below fb y0
  replace y1 := pw_cell_below fb y1
  have Y0 := Aside0.mk y0
  have Y1 := Aside0.mk y1
  have FB := Aside0.mk fb
  have HW0 := Aside0.mk hW0
  have hi0 : (0 : Int) ≤ (i : Int) := by omega
  have hi1 : (i : Int) < (l.length : Int) := by omega
  clear hb hi hC ht hcs fb hW0
  have HS0 : Aside0 (∀ W, Below W0.heap.size W0 W → (Below W0.heap.size W0 W ∧ W.cell? ⟨w.heap.size, 0, none⟩ = some (.int .i64 x.piece) ∧ W.cell? ⟨w.heap.size, 1, none⟩ = some (.int .i64 x.side) ∧ W.cell? ⟨bs, 0, none⟩ = some (.slice (some ad) l.length c) ∧ W.cell? ⟨bi, 0, none⟩ = some (.int .i64 (i : Int)) ∧ W.cell? (ad.add (i * 2)) = some (.int .i64 tp) ∧ W.cell? ⟨(ad.add (i * 2)).block, (ad.add (i * 2)).off + 1, none⟩ = some (.int .i64 tw))) :=
    ⟨fun W hb => ⟨hb, (XE.out.below hb).c 0 _ rfl, (XE.out.below hb).c 1 _ rfl, (XS.out.below hb).c 0 _ rfl, (XI.out.below hb).c 0 _ rfl, pw_cell_below hb Y0.out, pw_cell_below hb Y1.out⟩⟩
  have e0 := XE.out.c 0 _ rfl; have e1 := XE.out.c 1 _ rfl; have s0 := XS.out.c 0 _ rfl; have i0 := XI.out.c 0 _ rfl
  cases h1 : (cp == tp) with
  | false =>
    rw [h1] at HV
    go_enter Try.func184, Try.ntmps184
    go_wp2_with fail
    rw [← HW0.out]
    go_region_held3 (fun W => Below W0.heap.size W0 W ∧ W.cell? ⟨w.heap.size, 0, none⟩ = some (.int .i64 x.piece) ∧ W.cell? ⟨w.heap.size, 1, none⟩ = some (.int .i64 x.side) ∧ W.cell? ⟨bs, 0, none⟩ = some (.slice (some ad) l.length c) ∧ W.cell? ⟨bi, 0, none⟩ = some (.int .i64 (i : Int)) ∧ W.cell? (ad.add (i * 2)) = some (.int .i64 tp) ∧ W.cell? ⟨(ad.add (i * 2)).block, (ad.add (i * 2)).off + 1, none⟩ = some (.int .i64 tw))
      (first | assumption | (with_reducible exact HS0.out _ (by assumption)) | (with_reducible exact HS0.out _ (Below.drew (Below.refl _ _))))
      (first | (go_at_call 181; go_split_ands; (with_reducible refine Calls.mono (comes_any x _) ?_); rintro e w3 ⟨rfl, b3⟩; rw [HCS.out]; have q3 : Below W0.heap.size W0 w3 := below_more (by assumption) b3; clear b3))
    all_goals
      try go_wp2_with fail
      go_ret
      exact ⟨by rw [HV.out]; rfl, below_more FB.out (by assumption)⟩
  | true =>
    cases h2 : (cw == tw) with
    | false =>
      rw [h1, h2] at HV
      go_enter Try.func184, Try.ntmps184
      go_wp2_with fail
      rw [← HW0.out]
      go_region_held3 (fun W => Below W0.heap.size W0 W ∧ W.cell? ⟨w.heap.size, 0, none⟩ = some (.int .i64 x.piece) ∧ W.cell? ⟨w.heap.size, 1, none⟩ = some (.int .i64 x.side) ∧ W.cell? ⟨bs, 0, none⟩ = some (.slice (some ad) l.length c) ∧ W.cell? ⟨bi, 0, none⟩ = some (.int .i64 (i : Int)) ∧ W.cell? (ad.add (i * 2)) = some (.int .i64 tp) ∧ W.cell? ⟨(ad.add (i * 2)).block, (ad.add (i * 2)).off + 1, none⟩ = some (.int .i64 tw))
        (first | assumption | (with_reducible exact HS0.out _ (by assumption)) | (with_reducible exact HS0.out _ (Below.drew (Below.refl _ _))))
        (first | (go_at_call 181; go_split_ands; (with_reducible refine Calls.mono (comes_any x _) ?_); rintro e w3 ⟨rfl, b3⟩; rw [HCS.out]; have q3 : Below W0.heap.size W0 w3 := below_more (by assumption) b3; clear b3))
      all_goals
        try go_wp2_with fail
        go_ret
        exact ⟨by rw [HV.out]; rfl, below_more FB.out (by assumption)⟩
    | true =>
      rw [h1, h2] at HV
      go_enter Try.func184, Try.ntmps184
      go_wp2_with fail
      rw [← HW0.out]
      go_region_held3 (fun W => Below W0.heap.size W0 W ∧ W.cell? ⟨w.heap.size, 0, none⟩ = some (.int .i64 x.piece) ∧ W.cell? ⟨w.heap.size, 1, none⟩ = some (.int .i64 x.side) ∧ W.cell? ⟨bs, 0, none⟩ = some (.slice (some ad) l.length c) ∧ W.cell? ⟨bi, 0, none⟩ = some (.int .i64 (i : Int)) ∧ W.cell? (ad.add (i * 2)) = some (.int .i64 tp) ∧ W.cell? ⟨(ad.add (i * 2)).block, (ad.add (i * 2)).off + 1, none⟩ = some (.int .i64 tw))
        (first | assumption | (with_reducible exact HS0.out _ (by assumption)) | (with_reducible exact HS0.out _ (Below.drew (Below.refl _ _))))
        (first | (go_at_call 181; go_split_ands; (with_reducible refine Calls.mono (comes_any x _) ?_); rintro e w3 ⟨rfl, b3⟩; rw [HCS.out]; have q3 : Below W0.heap.size W0 w3 := below_more (by assumption) b3; clear b3))
      all_goals
        try go_wp2_with fail
        go_ret
        exact ⟨by rw [HV.out]; rfl, below_more FB.out (by assumption)⟩
end Go.Proofs.Ytckcffjnffcjcaa
set_option linter.unusedVariables false
set_option linter.unusedSimpArgs false
namespace Go.Proofs.Ytckcffjnffcjcaa
open Go.RowKit Go.Proofs.YtckcffjnffcjcaaW.PrintWords
set_option maxRecDepth 100000 in
set_option maxHeartbeats 4000000 in
theorem index_any (E : Option Addr) (ce : Nat) (xs : List EndT) (bs bi : Nat) (A : Option Addr) (c : Nat) (l : List StepT) (i : Nat) (w : World) (hE : Kd.C kEnd w E xs.length xs) (hb : Bx w bs [.slice A l.length c]) (hi : Bx w bi [.int .i64 (i : Int)]) (hC : Kd.C kStep w A l.length l) (hil : i < l.length) :
    Calls Try.prog 183 #[.slice E xs.length ce, .func (.func 184) #[] #[.pointer (some ⟨bs, 0, none⟩), .pointer (some ⟨bi, 0, none⟩)]] w
      fun e w' => ∃ r : Int, e = .returned (.int .i64 r) ∧ ((r = -1 ∧ ∀ x ∈ xs, comesS x ≠ l.getD i default) ∨ ∃ q : Nat, r = (q : Int) ∧ q < xs.length ∧ comesS (xs.getD q default) = l.getD i default) ∧ Below w.heap.size w w' := by
  have hm := hE.2.1
  have HE := Aside0.mk hE
  have HB := Aside0.mk hb
  have HI := Aside0.mk hi
  have HC := Aside0.mk hC
  have HL := Aside0.mk hil
  clear hE hb hi hC hil
  go_enter Try.func183, Try.ntmps183
  go_wp2_with fail
  go_loopw [8] (fun v8 wr => ∃ q : Nat, v8 = .int .i64 (q : Int) ∧ q ≤ xs.length ∧ Aside0 (∀ k, k < q → comesS (xs.getD k default) ≠ l.getD i default) ∧ Aside0 (Below w.heap.size w wr)) (fun v8 _ => xs.length - (intOf v8).toNat)
  case atStart => exact ⟨0, rfl, Nat.zero_le _, ⟨fun k hk => by omega⟩, ⟨Below.refl _ _⟩⟩
  case round =>
    obtain ⟨q, rfl, hq, HN, HBr⟩ := hrel
    by_cases hlt : q < xs.length
    · obtain ⟨ad0, e0, y0, y1⟩ := at_End HE.out q hlt
      subst e0
      replace y0 := pw_cell_below HBr.out y0
      replace y1 := pw_cell_below HBr.out y1
      obtain ⟨x, hx⟩ : ∃ x, x = xs.getD q default := ⟨_, rfl⟩
      rw [← hx] at y0 y1
      have HX := Aside0.mk hx
      clear hx
      cases hd : decide (comesS x = l.getD i default) with
      | true =>
        have HD := Aside0.mk hd
        clear hd
        go_wp2_with (go_at_call 184; (with_reducible refine Calls.mono (isStep_any x bs bi A c l i _ (HB.out.below HBr.out) (HI.out.below HBr.out) (Kd.C_below HC.out HBr.out) HL.out) ?_); rintro e w3 ⟨rfl, b3⟩; rw [HD.out]; have B3 := Aside0.mk (below_more HBr.out b3); clear b3)
        go_ret
        exact ⟨(q : Int), rfl, .inr ⟨q, rfl, hlt, by rw [← HX.out]; exact of_decide_eq_true HD.out⟩, B3.out⟩
      | false =>
        have HD := Aside0.mk hd
        clear hd
        go_wp2_with (go_at_call 184; (with_reducible refine Calls.mono (isStep_any x bs bi A c l i _ (HB.out.below HBr.out) (HI.out.below HBr.out) (Kd.C_below HC.out HBr.out) HL.out) ?_); rintro e w3 ⟨rfl, b3⟩; rw [HD.out]; have B3 := Aside0.mk (below_more HBr.out b3); clear b3)
        go_roundw
        case rel => exact ⟨q + 1, by go_num, by omega, ⟨upto_step HN.out (by rw [← HX.out]; exact of_decide_eq_false HD.out)⟩, B3⟩
        case measure => simp [intOf]; omega
    · go_wp2_with fail
      go_ret
      refine ⟨-1, rfl, .inl ⟨rfl, fun x hx => ?_⟩, HBr.out⟩
      obtain ⟨k, hk, rfl⟩ := List.mem_iff_getElem.1 hx
      have := HN.out k (by omega)
      rwa [getD_at xs k hk] at this
end Go.Proofs.Ytckcffjnffcjcaa
set_option linter.unusedVariables false
set_option linter.unusedSimpArgs false
namespace Go.Proofs.Ytckcffjnffcjcaa
/-- The rest of the row from place j on: what is still to be told. -/
def PI (n : NetT) (l : List StepT) (j : Nat) (out : List LieT) : Prop := 1 ≤ j ∧ out.length + 1 ≤ j ∧ liesAll n l = liesGo n (l.getD (j - 1) default) (l.drop j) out
theorem PI.start (n : NetT) (l : List StepT) : PI n l 1 [] := by
  refine ⟨Nat.le_refl _, by simp, ?_⟩
  cases l with
  | nil => rfl
  | cons s l => rfl
theorem PI.stop {n : NetT} {l : List StepT} {j : Nat} {out : List LieT} (h : PI n l j out) (hj : l.length ≤ j) : liesAll n l = some out := by
  rw [h.2.2, List.drop_eq_nil_of_le hj]; rfl
theorem drop_getDP (l : List StepT) (j : Nat) (hj : j < l.length) : l.drop j = l.getD j default :: l.drop (j + 1) := by
  rw [List.drop_eq_getElem_cons hj, getD_at l j hj]
theorem PI.fail {n : NetT} {l : List StepT} {j : Nat} {out : List LieT} (h : PI n l j out) (hj : j < l.length) (hs : stepLie n (l.getD (j - 1) default) (l.getD j default) = none) : liesAll n l = none := by
  rw [h.2.2, drop_getDP l j hj]
  simp only [liesGo, hs]
theorem PI.skip {n : NetT} {l : List StepT} {j : Nat} {out : List LieT} (h : PI n l j out) (hj : j < l.length) (hs : stepLie n (l.getD (j - 1) default) (l.getD j default) = some none) : PI n l (j + 1) out := by
  refine ⟨by omega, by have := h.2.1; omega, ?_⟩
  rw [h.2.2, drop_getDP l j hj]
  simp only [liesGo, hs, Nat.add_sub_cancel]
theorem PI.bad {n : NetT} {l : List StepT} {j : Nat} {out : List LieT} {x : LieT} (h : PI n l j out) (hj : j < l.length) (hs : stepLie n (l.getD (j - 1) default) (l.getD j default) = some (some x)) (ha : addLie out x = none) : liesAll n l = none := by
  rw [h.2.2, drop_getDP l j hj]
  simp only [liesGo, hs, ha]
theorem PI.add {n : NetT} {l : List StepT} {j : Nat} {out o : List LieT} {x : LieT} (h : PI n l j out) (hj : j < l.length) (hs : stepLie n (l.getD (j - 1) default) (l.getD j default) = some (some x)) (ha : addLie out x = some o) : PI n l (j + 1) o := by
  refine ⟨by omega, by have := addLie_len ha; have := h.2.1; omega, ?_⟩
  rw [h.2.2, drop_getDP l j hj]
  simp only [liesGo, hs, ha, Nat.add_sub_cancel]
end Go.Proofs.Ytckcffjnffcjcaa
