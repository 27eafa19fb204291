/- Texts of this work, of each what the claim leans on: Costs, PlLaw, StrDef, ShortLaw, ReachLaw2, Hdr, ReachP, RchL, RchX. No conditions. -/
import Derived.Test.YtckcffjnffcjcaaVRc7
import Derived.Outline
set_option linter.unusedVariables false
set_option linter.unusedSimpArgs false
namespace Go.Proofs.Ytckcffjnffcjcaa
theorem lk_dl {κ ν : Type} [DecidableEq κ] (l : List (κ × ν)) (k k' : κ) : lk (dl l k) k' = if k = k' then none else lk l k' := by
  unfold dl
  induction l with
  | nil => simp [lk]
  | cons p l ih =>
    simp only [List.filter_cons]
    by_cases h : p.1 = k
    · rw [if_neg (by simp [h]), ih]
      by_cases h2 : k = k'
      · rw [if_pos h2, if_pos h2]
      · rw [if_neg h2, if_neg h2]
        simp only [lk]
        rw [if_neg (by rw [h]; exact h2)]
    · rw [if_pos (by simp [h])]
      simp only [lk, ih]
      by_cases h2 : k = k'
      · rw [if_pos h2, if_neg (by rw [← h2]; exact h), if_pos h2]
      · rw [if_neg h2, if_neg h2]
abbrev CostT := Int × Int
def ltC (a b : CostT) : Bool := decide (a.1 < b.1 ∨ a.1 = b.1 ∧ a.2 < b.2)
theorem ltC_iff {a b : CostT} : ltC a b = true ↔ a.1 < b.1 ∨ a.1 = b.1 ∧ a.2 < b.2 := by unfold ltC; simp
def leC (a b : CostT) : Prop := a.1 < b.1 ∨ a.1 = b.1 ∧ a.2 ≤ b.2
theorem leC_iff {a b : CostT} : leC a b ↔ ltC b a = false := by
  rw [Bool.eq_false_iff, ne_eq, ltC_iff]; unfold leC; omega
theorem leC_refl (a : CostT) : leC a a := by unfold leC; omega
theorem leC_trans {a b c : CostT} (h : leC a b) (h2 : leC b c) : leC a c := by unfold leC at *; omega
theorem leC_antisymm {a b : CostT} (h : leC a b) (h2 : leC b a) : a = b := by
  unfold leC at *
  obtain ⟨a1, a2⟩ := a
  obtain ⟨b1, b2⟩ := b
  simp only at h h2
  simp only [Prod.mk.injEq]
  omega
theorem ltC_le {a b : CostT} (h : ltC a b = true) : leC a b := by rw [ltC_iff] at h; unfold leC; omega
/-- From the beginning of a step to the place: how far, how many steps. -/
inductive Cst (n : NetT) (fin : StepT) (inb : Int) : StepT → CostT → Prop
  | here : Cst n fin inb fin (inb, 1)
  | step {s t : StepT} {c : CostT} : t ∈ succS n s → Cst n fin inb t c → Cst n fin inb s (c.1 + lenS n s, c.2 + 1)
structure MinC (n : NetT) (fin : StepT) (inb : Int) (s : StepT) (c : CostT) : Prop where
  is : Cst n fin inb s c
  le : ∀ c', Cst n fin inb s c' → leC c c'
def relaxD (n : NetT) (known : List (StepT × CostT)) (c : CostT) (opn : List (StepT × CostT)) (t : StepT) : List (StepT × CostT) :=
  if (lk known t).isSome = true then opn
  else match lk opn t with
    | some o => if ltC (c.1 + lenS n t, c.2 + 1) o = true then up opn t (c.1 + lenS n t, c.2 + 1) else opn
    | none => up opn t (c.1 + lenS n t, c.2 + 1)
def stepD (n : NetT) (known opn : List (StepT × CostT)) (s : StepT) (c : CostT) : List (StepT × CostT) :=
  (acrossE n (beginS s)).foldl (fun o e => relaxD n (up known s c) c o (outS e)) (dl opn s)
structure DInv (n : NetT) (fin : StepT) (inb : Int) (known opn : List (StepT × CostT)) : Prop where
  kmin : ∀ s c, lk known s = some c → MinC n fin inb s c
  ocst : ∀ s c, lk opn s = some c → Cst n fin inb s c
  kok : ∀ s c, lk known s = some c → stepB n s = true
  ook : ∀ s c, lk opn s = some c → stepB n s = true
  dis : ∀ s c, lk opn s = some c → lk known s = none
  pred : ∀ s c t, lk known s = some c → stepB n t = true → s ∈ succS n t → (∃ c', lk known t = some c') ∨ ∃ c', lk opn t = some c' ∧ leC c' (c.1 + lenS n t, c.2 + 1)
  fin_ : (∃ c, lk known fin = some c) ∨ ∃ c', lk opn fin = some c' ∧ leC c' (inb, 1)
  bdk : ∀ s c, lk known s = some c → 0 ≤ c.1 ∧ c.1 ≤ 10000000 * ((known.length : Int) + 1) ∧ 1 ≤ c.2 ∧ c.2 ≤ (known.length : Int) + 1
  bdo : ∀ s c, lk opn s = some c → 0 ≤ c.1 ∧ c.1 ≤ 10000000 * ((known.length : Int) + 1) ∧ 1 ≤ c.2 ∧ c.2 ≤ (known.length : Int) + 1
  nd : (known.map (·.1)).Nodup
section
variable {n : NetT} {fin : StepT} {inb : Int}
theorem DInv.start (hf : stepB n fin = true) (h0 : 0 ≤ inb) (h1 : inb ≤ 10000000) : DInv n fin inb [] [(fin, (inb, 1))] := by
  have key : ∀ s c, lk [(fin, ((inb, 1) : CostT))] s = some c → s = fin ∧ c = (inb, 1) := fun s c h => by
    simp only [lk] at h
    split at h
    · rename_i e; injection h with h; exact ⟨e.symm, h.symm⟩
    · cases h
  refine ⟨fun s c h => by simp [lk] at h, fun s c h => ?_, fun s c h => by simp [lk] at h, fun s c h => ?_, fun s c h => rfl, fun s c t h => by simp [lk] at h, .inr ⟨_, by simp only [lk, if_pos], leC_refl _⟩, fun s c h => by simp [lk] at h, fun s c h => ?_, by simp⟩
  · obtain ⟨rfl, rfl⟩ := key s c h; exact .here
  · obtain ⟨rfl, rfl⟩ := key s c h; exact hf
  · obtain ⟨rfl, rfl⟩ := key s c h; simp; omega
/-- Whatever leads to the place is known, or something that is no dearer is open. -/
theorem DInv.reach (hg : Good n) {known opn : List (StepT × CostT)} (h : DInv n fin inb known opn) {s : StepT} {c : CostT} (hc : Cst n fin inb s c) (hs : stepB n s = true) :
    (∃ ck, lk known s = some ck) ∨ ∃ t ct, lk opn t = some ct ∧ leC ct c := by
  induction hc with
  | here =>
    rcases h.fin_ with ⟨c, hk⟩ | ⟨c', h1, h2⟩
    · exact .inl ⟨c, hk⟩
    · exact .inr ⟨_, c', h1, h2⟩
  | @step s t c ht hct ih =>
    have ht' := succ_ok hg hs ht
    have hl := hg.lenS hs
    rcases ih ht' with ⟨ck, hk⟩ | ⟨t', ct, h1, h2⟩
    · rcases h.pred t ck s hk hs ht with h3 | ⟨c', h3, h4⟩
      · exact .inl h3
      · refine .inr ⟨s, c', h3, leC_trans h4 ?_⟩
        have := (h.kmin t ck hk).le c hct
        unfold leC at *
        simp only
        omega
    · refine .inr ⟨t', ct, h1, leC_trans h2 ?_⟩
      unfold leC
      simp only
      omega
theorem DInv.pick (hg : Good n) {known opn : List (StepT × CostT)} (h : DInv n fin inb known opn) {s : StepT} {c : CostT} (hs : lk opn s = some c) (hm : ∀ t ct, lk opn t = some ct → leC c ct) : MinC n fin inb s c := by
  refine ⟨h.ocst s c hs, fun c' hc' => ?_⟩
  rcases h.reach hg hc' (h.ook s c hs) with ⟨ck, hk⟩ | ⟨t, ct, h1, h2⟩
  · rw [h.dis s c hs] at hk; cases hk
  · exact leC_trans (hm t ct h1) h2
theorem lk_relaxD {known opn : List (StepT × CostT)} {c : CostT} {t : StepT} (q : StepT) :
    lk (relaxD n known c opn t) q = lk opn q ∨ (q = t ∧ lk known t = none ∧ lk (relaxD n known c opn t) q = some (c.1 + lenS n t, c.2 + 1) ∧ ∀ o, lk opn t = some o → leC (c.1 + lenS n t, c.2 + 1) o) := by
  unfold relaxD
  split
  · exact .inl rfl
  · rename_i hk
    have hk' : lk known t = none := by
      cases e : lk known t with
      | none => rfl
      | some v => rw [e] at hk; exact absurd rfl hk
    split
    · rename_i o ho
      split
      · rename_i hl
        rw [lk_up]
        by_cases e : t = q
        · rw [if_pos e]
          refine .inr ⟨e.symm, hk', rfl, fun o' ho' => ?_⟩
          rw [ho] at ho'
          injection ho' with ho'
          subst ho'
          exact ltC_le hl
        · rw [if_neg e]; exact .inl rfl
      · exact .inl rfl
    · rename_i ho
      rw [lk_up]
      by_cases e : t = q
      · rw [if_pos e]
        refine .inr ⟨e.symm, hk', rfl, fun o' ho' => ?_⟩
        rw [ho] at ho'; cases ho'
      · rw [if_neg e]; exact .inl rfl
theorem relaxD_self {known opn : List (StepT × CostT)} {c : CostT} {t : StepT} : (∃ c', lk known t = some c') ∨ ∃ c', lk (relaxD n known c opn t) t = some c' ∧ leC c' (c.1 + lenS n t, c.2 + 1) := by
  unfold relaxD
  split
  · rename_i h
    exact .inl (Option.isSome_iff_exists.1 h)
  · split
    · rename_i o ho
      split
      · exact .inr ⟨_, by rw [lk_up, if_pos rfl], leC_refl _⟩
      · rename_i hl
        refine .inr ⟨o, ho, ?_⟩
        rw [leC_iff]; simpa using hl
    · exact .inr ⟨_, by rw [lk_up, if_pos rfl], leC_refl _⟩
/-- While the beginnings are looked at: ts: those that were. -/
structure DMid (n : NetT) (fin : StepT) (inb : Int) (known : List (StepT × CostT)) (s : StepT) (c : CostT) (ts : List StepT) (opn : List (StepT × CostT)) : Prop where
  ocst : ∀ s c, lk opn s = some c → Cst n fin inb s c
  ook : ∀ s c, lk opn s = some c → stepB n s = true
  dis : ∀ s c, lk opn s = some c → lk known s = none
  pred : ∀ s' c' t, lk known s' = some c' → stepB n t = true → s' ∈ succS n t → (s' = s → t ∈ ts) → (∃ c'', lk known t = some c'') ∨ ∃ c'', lk opn t = some c'' ∧ leC c'' (c'.1 + lenS n t, c'.2 + 1)
  fin_ : (∃ c, lk known fin = some c) ∨ ∃ c', lk opn fin = some c' ∧ leC c' (inb, 1)
  bdo : ∀ s c, lk opn s = some c → 0 ≤ c.1 ∧ c.1 ≤ 10000000 * ((known.length : Int) + 1) ∧ 1 ≤ c.2 ∧ c.2 ≤ (known.length : Int) + 1
theorem DMid.relax (hg : Good n) {known opn : List (StepT × CostT)} {s : StepT} {c : CostT} {ts : List StepT} (h : DMid n fin inb known s c ts opn) (hs : lk known s = some c) (hsok : stepB n s = true) (hsc : Cst n fin inb s c)
    (hb : 0 ≤ c.1 ∧ c.1 ≤ 10000000 * (known.length : Int) ∧ 1 ≤ c.2 ∧ c.2 ≤ (known.length : Int)) {t : StepT} (ht : stepB n t = true) (hst : s ∈ succS n t) :
    DMid n fin inb known s c (ts ++ [t]) (relaxD n known c opn t) := by
  have hl := hg.lenS ht
  refine ⟨fun q cq hq => ?_, fun q cq hq => ?_, fun q cq hq => ?_, fun s' c' t' h1 h2 h3 h4 => ?_, ?_, fun q cq hq => ?_⟩
  · rcases lk_relaxD (n := n) (known := known) (opn := opn) (c := c) (t := t) q with e | ⟨rfl, _, e, _⟩
    · rw [e] at hq; exact h.ocst q cq hq
    · rw [e] at hq; injection hq with hq; subst hq; exact .step hst hsc
  · rcases lk_relaxD (n := n) (known := known) (opn := opn) (c := c) (t := t) q with e | ⟨rfl, _, e, _⟩
    · rw [e] at hq; exact h.ook q cq hq
    · exact ht
  · rcases lk_relaxD (n := n) (known := known) (opn := opn) (c := c) (t := t) q with e | ⟨rfl, e0, e, _⟩
    · rw [e] at hq; exact h.dis q cq hq
    · exact e0
  · by_cases hn : s' = s ∧ t' = t
    · obtain ⟨rfl, rfl⟩ := hn
      rw [hs] at h1
      injection h1 with h1
      subst h1
      exact relaxD_self
    · have hmem : s' = s → t' ∈ ts := fun e => by
        rcases List.mem_append.1 (h4 e) with h5 | h5
        · exact h5
        · exact absurd ⟨e, by simpa using h5⟩ hn
      rcases h.pred s' c' t' h1 h2 h3 hmem with h5 | ⟨c'', h5, h6⟩
      · exact .inl h5
      · rcases lk_relaxD (n := n) (known := known) (opn := opn) (c := c) (t := t) t' with e | ⟨rfl, _, e, e2⟩
        · exact .inr ⟨c'', by rw [e]; exact h5, h6⟩
        · exact .inr ⟨_, e, leC_trans (e2 c'' h5) h6⟩
  · rcases h.fin_ with h5 | ⟨c'', h5, h6⟩
    · exact .inl h5
    · rcases lk_relaxD (n := n) (known := known) (opn := opn) (c := c) (t := t) fin with e | ⟨rfl, _, e, e2⟩
      · exact .inr ⟨c'', by rw [e]; exact h5, h6⟩
      · exact .inr ⟨_, e, leC_trans (e2 c'' h5) h6⟩
  · rcases lk_relaxD (n := n) (known := known) (opn := opn) (c := c) (t := t) q with e | ⟨rfl, _, e, _⟩
    · rw [e] at hq; exact h.bdo q cq hq
    · rw [e] at hq; injection hq with hq; subst hq; simp only; omega
theorem DMid.relaxAll (hg : Good n) {known : List (StepT × CostT)} {s : StepT} {c : CostT} (hs : lk known s = some c) (hsok : stepB n s = true) (hsc : Cst n fin inb s c)
    (hb : 0 ≤ c.1 ∧ c.1 ≤ 10000000 * (known.length : Int) ∧ 1 ≤ c.2 ∧ c.2 ≤ (known.length : Int)) :
    ∀ (es : List EndT), (∀ e ∈ es, stepB n (outS e) = true ∧ s ∈ succS n (outS e)) → ∀ {opn : List (StepT × CostT)} {ts : List StepT}, DMid n fin inb known s c ts opn →
    DMid n fin inb known s c (ts ++ es.map outS) (es.foldl (fun o e => relaxD n known c o (outS e)) opn)
  | [], _, opn, ts, h => by simpa using h
  | e :: es, he, opn, ts, h => by
    have h1 := h.relax hg hs hsok hsc hb (he e (by simp)).1 (he e (by simp)).2
    have h2 := DMid.relaxAll hg hs hsok hsc hb es (fun x hx => he x (by simp [hx])) h1
    simpa using h2
theorem DInv.step (hg : Good n) {known opn : List (StepT × CostT)} (h : DInv n fin inb known opn) {s : StepT} {c : CostT} (hs : lk opn s = some c) (hm : ∀ t ct, lk opn t = some ct → leC c ct) :
    DInv n fin inb (up known s c) (stepD n known opn s c) ∧ (up known s c).length = known.length + 1 := by
  have hmin := h.pick hg hs hm
  have hsok := h.ook s c hs
  have hks : ∀ p ∈ known, p.1 ≠ s := fun p hp e => by
    have := h.dis s c hs
    have h2 : (lk known s).isSome = true := lk_isSome.2 (List.mem_map.2 ⟨p, hp, e⟩)
    rw [this] at h2; cases h2
  have hlen : (up known s c).length = known.length + 1 := by rw [up_none hks]; simp
  have hbs := h.bdo s c hs
  have hku : ∀ q cq, lk (up known s c) q = some cq → (q = s ∧ cq = c) ∨ (lk known q = some cq) := fun q cq hq => by
    rw [lk_up] at hq
    split at hq
    · rename_i e; injection hq with hq; exact .inl ⟨e.symm, hq.symm⟩
    · exact .inr hq
  have hkm : ∀ q cq, lk known q = some cq → lk (up known s c) q = some cq := fun q cq hq => by
    rw [lk_up, if_neg]
    · exact hq
    · rintro rfl
      rw [h.dis s c hs] at hq; cases hq
  have hss : lk (up known s c) s = some c := by rw [lk_up, if_pos rfl]
  have hpreds : ∀ e ∈ acrossE n (beginS s), stepB n (outS e) = true ∧ s ∈ succS n (outS e) := fun e he => by
    have := hg.across (beginS_ok hsok) he
    have ho := outS_ok this.1
    exact ⟨ho, (succ_iff hg hsok ho).2 (by rw [look_out this.1]; exact he)⟩
  have hmid : DMid n fin inb (up known s c) s c [] (dl opn s) := by
    have hd : ∀ q cq, lk (dl opn s) q = some cq → q ≠ s ∧ lk opn q = some cq := fun q cq hq => by
      rw [lk_dl] at hq
      split at hq
      · cases hq
      · rename_i e; exact ⟨Ne.symm e, hq⟩
    have hd2 : ∀ q, q ≠ s → lk (dl opn s) q = lk opn q := fun q hq => by rw [lk_dl, if_neg (Ne.symm hq)]
    refine ⟨fun q cq hq => h.ocst q cq (hd q cq hq).2, fun q cq hq => h.ook q cq (hd q cq hq).2, fun q cq hq => ?_, fun s' c' t h1 h2 h3 h4 => ?_, ?_, fun q cq hq => ?_⟩
    · rw [lk_up, if_neg (Ne.symm (hd q cq hq).1)]
      exact h.dis q cq (hd q cq hq).2
    · rcases hku s' c' h1 with ⟨e, _⟩ | h5
      · exact absurd (h4 e) (by simp)
      · by_cases et : t = s
        · subst et; exact .inl ⟨c, hss⟩
        · rcases h.pred s' c' t h5 h2 h3 with ⟨c'', h6⟩ | ⟨c'', h6, h7⟩
          · exact .inl ⟨c'', hkm t c'' h6⟩
          · exact .inr ⟨c'', by rw [hd2 t et]; exact h6, h7⟩
    · by_cases et : fin = s
      · subst et; exact .inl ⟨c, hss⟩
      · rcases h.fin_ with ⟨c'', h6⟩ | ⟨c'', h6, h7⟩
        · exact .inl ⟨c'', hkm _ c'' h6⟩
        · exact .inr ⟨c'', by rw [hd2 _ et]; exact h6, h7⟩
    · have := h.bdo q cq (hd q cq hq).2
      rw [hlen]
      push_cast
      omega
  have hend := DMid.relaxAll hg hss hsok hmin.is (by rw [hlen]; push_cast; omega) (acrossE n (beginS s)) hpreds hmid
  refine ⟨⟨fun q cq hq => ?_, hend.ocst, fun q cq hq => ?_, hend.ook, hend.dis, fun s' c' t h1 h2 h3 => ?_, hend.fin_, fun q cq hq => ?_, hend.bdo, up_nodup h.nd s c⟩, hlen⟩
  · rcases hku q cq hq with ⟨rfl, rfl⟩ | h5
    · exact hmin
    · exact h.kmin q cq h5
  · rcases hku q cq hq with ⟨rfl, rfl⟩ | h5
    · exact hsok
    · exact h.kok q cq h5
  · refine hend.pred s' c' t h1 h2 h3 fun e => ?_
    subst e
    have := (succ_iff hg hsok h2).1 h3
    simp only [List.nil_append]
    exact List.mem_map.2 ⟨lookS t, this, out_look h2⟩
  · rw [hlen]
    rcases hku q cq hq with ⟨rfl, rfl⟩ | h5
    · push_cast; omega
    · have := h.bdk q cq h5
      push_cast; omega
theorem DInv.few {known opn : List (StepT × CostT)} (h : DInv n fin inb known opn) : known.length ≤ 2 * n.pieces.length := by
  have := nodup_steps (n := n) h.nd (fun t ht => by
    obtain ⟨c, hc⟩ := Option.isSome_iff_exists.1 (lk_isSome.2 ht)
    exact h.kok t c hc)
  simpa using this
/-- What is known of the costs at the end. -/
structure Costs (n : NetT) (fin : StepT) (inb : Int) (known : List (StepT × CostT)) : Prop where
  some_ : ∀ s c, lk known s = some c → MinC n fin inb s c ∧ stepB n s = true ∧ 0 ≤ c.1 ∧ c.1 ≤ 2010000000 ∧ 1 ≤ c.2 ∧ c.2 ≤ 201
  all : ∀ s c, stepB n s = true → Cst n fin inb s c → ∃ ck, lk known s = some ck
theorem DInv.stop (hg : Good n) {known opn : List (StepT × CostT)} (h : DInv n fin inb known opn) (ho : ∀ s, lk opn s = none) : Costs n fin inb known := by
  have hf := h.few
  have hp := hg.p1
  refine ⟨fun s c hc => ⟨h.kmin s c hc, h.kok s c hc, ?_⟩, fun s c hs hc => ?_⟩
  · have := h.bdk s c hc
    omega
  · rcases h.reach hg hc hs with h1 | ⟨t, ct, h1, _⟩
    · exact h1
    · rw [ho t] at h1; cases h1
structure IsPick (n : NetT) (known : List (StepT × CostT)) (s t : StepT) (c : CostT) : Prop where
  k : lk known t = some c
  m : t ∈ succS n s
  b : ∀ t' c', t' ∈ succS n s → lk known t' = some c' → leC c c' ∧ (c = c' → stepLt t' t = false)
def Gr (n : NetT) (known : List (StepT × CostT)) (fin : StepT) : StepT → List StepT → Prop
  | s, [] => s = fin
  | s, t :: l => s ≠ fin ∧ (∃ c, IsPick n known s t c) ∧ Gr n known fin t l
theorem Cst.path {s : StepT} {m : List StepT} (hf : Follows n s m) (hl : lastS s m = fin) : Cst n fin inb s (weighS n (s :: m) - lenS n fin + inb, (m.length : Int) + 1) := by
  induction m generalizing s with
  | nil =>
    have : s = fin := hl
    subst this
    rw [weighS_one, show lenS n s - lenS n s + inb = inb by omega]
    exact .here
  | cons t m ih =>
    have := Cst.step (s := s) hf.1 (ih hf.2 hl)
    simp only at this
    rw [weighS_cons, List.length_cons]
    have e1 : weighS n (t :: m) - lenS n fin + inb + lenS n s = lenS n s + weighS n (t :: m) - lenS n fin + inb := by omega
    have e2 : (m.length : Int) + 1 + 1 = ((m.length + 1 : Nat) : Int) + 1 := by push_cast; rfl
    rw [e1, e2] at this
    exact this
/-- A pick, then what is least from there: the least. -/
theorem pick_least {known : List (StepT × CostT)} (hk : Costs n fin inb known) (hg : Good n) {s t : StepT} (hs : stepB n s = true) {c : CostT} (hp : IsPick n known s t c) {l : List StepT}
    (hw : weighS n (t :: l) - lenS n fin + inb = c.1 ∧ (l.length : Int) + 1 = c.2) (hl : ∀ m, Follows n t m → lastS t m = fin → leW n l m) :
    ∀ m, Follows n s m → m ≠ [] → lastS s m = fin → leW n (t :: l) m := by
  intro m hf hne hlast
  cases m with
  | nil => exact absurd rfl hne
  | cons t' m =>
    have hc' := Cst.path (inb := inb) hf.2 hlast
    have ht' := succ_ok hg hs hf.1
    obtain ⟨ck, hck⟩ := hk.all t' _ ht' hc'
    have hmin := (hk.some_ t' ck hck).1
    have h1 := hmin.le _ hc'
    obtain ⟨h2, h3⟩ := hp.b t' ck hf.1 hck
    have h4 := leC_trans h2 h1
    unfold leW
    rw [Bool.eq_false_iff, ne_eq, lessW_iff]
    unfold leC at h4
    simp only at h4
    rintro (h5 | ⟨h5, h6 | ⟨h6, h7⟩⟩)
    · omega
    · simp only [List.length_cons] at h6
      omega
    · simp only [List.length_cons] at h6
      have hceq : c = ck := by
        refine leC_antisymm h2 (leC_trans h1 ?_)
        unfold leC; simp only; omega
      have h8 := h3 hceq
      simp only [lexB] at h7
      split at h7
      · rename_i e
        subst e
        have h9 := hl m hf.2 hlast
        unfold leW at h9
        rw [weighS_cons, weighS_cons] at h5
        have : lessW n m l = true := lessW_iff.2 (.inr ⟨by omega, .inr ⟨by omega, h7⟩⟩)
        rw [this] at h9; cases h9
      · rw [h8] at h7; cases h7
theorem gr_least {known : List (StepT × CostT)} (hk : Costs n fin inb known) (hg : Good n) {l : List StepT} : ∀ {s : StepT} {c : CostT}, lk known s = some c → Gr n known fin s l →
    Follows n s l ∧ lastS s l = fin ∧ (weighS n (s :: l) - lenS n fin + inb = c.1 ∧ (l.length : Int) + 1 = c.2) ∧ ∀ m, Follows n s m → lastS s m = fin → leW n l m := by
  induction l with
  | nil =>
    intro s c hc hgr
    have : s = fin := hgr
    subst this
    obtain ⟨hm, hs, b1, b2, b3, b4⟩ := hk.some_ s c hc
    have h1 := hm.le _ .here
    have hcc : c = (inb, 1) := by
      refine leC_antisymm h1 ?_
      have := hm.is
      have key : ∀ q cq, Cst n s inb q cq → stepB n q = true → leC (inb, 1) cq := by
        intro q cq h
        induction h with
        | here => intro _; exact leC_refl _
        | @step q t cq ht _ ih =>
          intro hq
          have h2 := ih (succ_ok hg hq ht)
          have h3 := hg.lenS hq
          unfold leC at *
          simp only at *
          omega
      exact key s c this hs
    refine ⟨trivial, rfl, ?_, fun m hf hl => ?_⟩
    · rw [hcc, weighS_one]; simp; try omega
    · have h2 := weighS_nonneg hg (follows_ok hg hs hf)
      unfold leW
      rw [Bool.eq_false_iff, ne_eq, lessW_iff]
      have : weighS n ([] : List StepT) = 0 := by simp [weighS]
      rw [this]
      rintro (h5 | ⟨h5, h6 | ⟨h6, h7⟩⟩)
      · omega
      · simp at h6
      · cases m with
        | nil => simp [lexB] at h7
        | cons => simp [lexB] at h7
  | cons t l ih =>
    intro s c hc hgr
    obtain ⟨hne, ⟨ct, hp⟩, hgt⟩ := hgr
    obtain ⟨hm, hs, _⟩ := hk.some_ s c hc
    obtain ⟨i1, i2, i3, i4⟩ := ih hp.k hgt
    have hfw : Follows n s (t :: l) := ⟨hp.m, i1⟩
    refine ⟨hfw, i2, ?_, fun m hf hl => ?_⟩
    · have h1 := hm.le _ (.step hp.m (hk.some_ t ct hp.k).1.is)
      have h2 : leC (ct.1 + lenS n s, ct.2 + 1) c := by
        have := hm.is
        cases this with
        | here => exact absurd rfl hne
        | @step _ t0 c0 ht0 hc0 =>
          obtain ⟨k0, hk0⟩ := hk.all t0 c0 (succ_ok hg hs ht0) hc0
          have h3 := (hk.some_ t0 k0 hk0).1.le _ hc0
          have h4 := leC_trans (hp.b t0 k0 ht0 hk0).1 h3
          unfold leC at *
          simp only
          omega
      have h3 := leC_antisymm h1 h2
      rw [h3, weighS_cons, List.length_cons]
      simp only
      push_cast
      omega
    · refine pick_least hk hg hs hp i3 i4 m hf ?_ hl
      rintro rfl
      exact hne hl
/-- The first pick, then the best each time: the least walk. -/
theorem greedy_least {known : List (StepT × CostT)} (hk : Costs n fin inb known) (hg : Good n) {s t : StepT} (hs : stepB n s = true) {c : CostT} (hp : IsPick n known s t c) {l : List StepT} (hgr : Gr n known fin t l) :
    Least n s fin (t :: l) ∧ c.1 = weighS n (t :: l) - lenS n fin + inb := by
  obtain ⟨i1, i2, i3, i4⟩ := gr_least hk hg hp.k hgr
  exact ⟨⟨⟨hp.m, i1⟩, by simp, i2, pick_least hk hg hs hp i3 i4⟩, i3.1.symm⟩
theorem no_pick {known : List (StepT × CostT)} (hk : Costs n fin inb known) (hg : Good n) {s : StepT} (hs : stepB n s = true) (hn : ∀ t ∈ succS n s, lk known t = none) : NoWalk n s fin := by
  intro m hf hne hl
  cases m with
  | nil => exact hne rfl
  | cons t m =>
    obtain ⟨ck, h⟩ := hk.all t _ (succ_ok hg hs hf.1) (Cst.path (inb := inb) hf.2 hl)
    rw [hn t hf.1] at h; cases h
/-- What is known and not the end leads to something known. -/
theorem goes_on {known : List (StepT × CostT)} (hk : Costs n fin inb known) (hg : Good n) {s : StepT} {c : CostT} (hc : lk known s = some c) (hne : s ≠ fin) : ∃ t ∈ succS n s, ∃ ct, lk known t = some ct ∧ ct.2 < c.2 := by
  obtain ⟨hm, hs, _⟩ := hk.some_ s c hc
  have := hm.is
  cases this with
  | here => exact absurd rfl hne
  | @step _ t0 c0 ht0 hc0 =>
    obtain ⟨k0, hk0⟩ := hk.all t0 c0 (succ_ok hg hs ht0) hc0
    refine ⟨t0, ht0, k0, hk0, ?_⟩
    have h1 := (hk.some_ t0 k0 hk0).1
    have h2 := h1.le _ hc0
    have h3 := hm.le _ (.step ht0 h1.is)
    unfold leC at h2 h3
    simp only at h3
    simp only
    omega
end
end Go.Proofs.Ytckcffjnffcjcaa
set_option linter.unusedVariables false
set_option linter.unusedSimpArgs false
namespace Go.Proofs.Ytckcffjnffcjcaa
/-- What two steps ask of a switch. none: the second does not follow the first; some none: no switch. -/
def stepLie (n : NetT) (s t : StepT) : Option (Option LieT) :=
  if beginS t ∈ acrossE n (lookS s) then
    (if (jOf n (lookS s)).kind = 3 then some (some ⟨(iOf n (lookS s) : Int), (kOf n (lookS s) : Int) + (kOf n (beginS t) : Int)⟩) else some none)
  else none
def addLie (out : List LieT) (x : LieT) : Option (List LieT) :=
  if out.any (fun y => decide (y.joint = x.joint ∧ y.lie ≠ x.lie)) = true then none
  else if out.any (fun y => decide (y.joint = x.joint)) = true then some out
  else some (out ++ [x])
def liesGo (n : NetT) : StepT → List StepT → List LieT → Option (List LieT)
  | _, [], out => some out
  | s, t :: l, out => match stepLie n s t with
    | none => none
    | some none => liesGo n t l out
    | some (some x) => match addLie out x with
      | none => none
      | some o => liesGo n t l o
/-- The whole: the lies of a row of steps. -/
def liesAll (n : NetT) : List StepT → Option (List LieT)
  | [] => some []
  | s :: l => liesGo n s l []
def stepsB (n : NetT) (l : List StepT) : Bool := decide (l.length ≤ 400) && l.all (stepB n)
theorem addLie_len {out o : List LieT} {x : LieT} (h : addLie out x = some o) : o.length ≤ out.length + 1 := by
  unfold addLie at h
  split at h
  · cases h
  · split at h
    · injection h with h; subst h; omega
    · injection h with h; subst h; simp
/-- The lies that a switch has for the ways over it. -/
theorem how_at {n : NetT} (hg : Good n) {a : EndT} (ha : endB n a = true) {q : Nat} (hq : q < (acrossE n a).length) :
    q < (howJ (jOf n a) (kOf n a)).length ∧ (if (jOf n a).kind = 3 then (howJ (jOf n a) (kOf n a)).getD q 0 = (kOf n a : Int) + (kOf n ((acrossE n a).getD q default) : Int) ∧ (howJ (jOf n a) (kOf n a)).getD q 0 ≠ 0 else (howJ (jOf n a) (kOf n a)).getD q 0 = 0) := by
  obtain ⟨i, p, hat⟩ := hg.at_ ha
  obtain ⟨k1, k2, k3, k4⟩ := hg.kindAt hat.hi
  have hpq := hat.hq
  unfold acrossE at hq ⊢
  rw [hat.j, hat.k] at hq ⊢
  unfold acrossJ howJ at *
  split at hq
  · rename_i hk
    simp only [hk, if_true]
    simp only [List.length_cons, List.length_nil] at hq
    obtain rfl : q = 0 := by omega
    simp
  · split at hq
    · rename_i hk2 hk
      rw [hk] at k3
      simp only [hk, if_true, if_false, show ¬ ((3 : Int) = 2) by omega]
      split at hq
      · rename_i hp0
        subst hp0
        simp only [List.length_cons, List.length_nil] at hq
        have : q = 0 ∨ q = 1 := by omega
        rcases this with rfl | rfl
        · have hp := hg.place hat.hi (q := 1) (by omega)
          refine ⟨by simp, ?_, by simp⟩
          show (1 : Int) = ((0 : Nat) : Int) + (kOf n ((n.joints.getD i default).ends.getD 1 default) : Int)
          rw [hp.k]; rfl
        · have hp := hg.place hat.hi (q := 2) (by omega)
          refine ⟨by simp, ?_, by simp⟩
          show (2 : Int) = ((0 : Nat) : Int) + (kOf n ((n.joints.getD i default).ends.getD 2 default) : Int)
          rw [hp.k]; rfl
      · rename_i hp0
        simp only [List.length_cons, List.length_nil] at hq
        obtain rfl : q = 0 := by omega
        have hp := hg.place hat.hi (q := 0) (by omega)
        refine ⟨by simp [hp0], ?_, ?_⟩
        · rw [if_neg hp0, if_neg hp0]
          show (p : Int) = (p : Int) + (kOf n ((n.joints.getD i default).ends.getD 0 default) : Int)
          rw [hp.k]; simp
        · rw [if_neg hp0]
          simp; omega
    · split at hq
      · rename_i hk2 hk3 hk
        simp only [hk, if_true, if_false, show ¬ ((4 : Int) = 2) by omega, show ¬ ((4 : Int) = 3) by omega]
        simp only [List.length_cons, List.length_nil] at hq
        obtain rfl : q = 0 := by omega
        simp
      · simp at hq
theorem comes_eq {n : NetT} {e : EndT} (he : endB n e = true) {t : StepT} (ht : stepB n t = true) : comesS e = t ↔ e = beginS t :=
  ⟨fun h => by rw [← h, begin_comes he], fun h => by rw [h, comes_begin ht]⟩
/-- What the program's way over two steps comes to. -/
theorem stepLie_none {n : NetT} (hg : Good n) {s t : StepT} (hs : stepB n s = true) (ht : stepB n t = true) (h : ∀ e ∈ acrossE n (lookS s), comesS e ≠ t) : stepLie n s t = none := by
  unfold stepLie
  rw [if_neg]
  intro hm
  exact h _ hm (comes_begin ht)
theorem stepLie_some {n : NetT} (hg : Good n) {s t : StepT} (hs : stepB n s = true) (ht : stepB n t = true) {q : Nat} (hq : q < (acrossE n (lookS s)).length) (h : comesS ((acrossE n (lookS s)).getD q default) = t) :
    stepLie n s t = if (howJ (jOf n (lookS s)) (kOf n (lookS s))).getD q 0 = 0 then some none else some (some ⟨(iOf n (lookS s) : Int), (howJ (jOf n (lookS s)) (kOf n (lookS s))).getD q 0⟩) := by
  have ha := lookS_ok hs
  obtain ⟨h1, h2⟩ := how_at hg ha hq
  have hm := getD_mem (acrossE n (lookS s)) q hq
  have hb : (acrossE n (lookS s)).getD q default = beginS t := (comes_eq (hg.across ha hm).1 ht).1 h
  unfold stepLie
  rw [if_pos (by rw [← hb]; exact hm)]
  by_cases hk : (jOf n (lookS s)).kind = 3
  · rw [if_pos hk] at h2 ⊢
    rw [if_neg h2.2, h2.1, hb]
  · rw [if_neg hk] at h2 ⊢
    rw [if_pos h2]
/-- A map that holds what has been told. -/
def LiesOf (lm : List (Int × Int)) (out : List LieT) : Prop := ∀ j v, lk lm j = some v ↔ (⟨j, v⟩ : LieT) ∈ out
theorem LiesOf.nil : LiesOf [] [] := fun j v => by simp [lk]
theorem LiesOf.has {lm : List (Int × Int)} {out : List LieT} (h : LiesOf lm out) {x : LieT} {v : Int} (hv : lk lm x.joint = some v) : addLie out x = if v = x.lie then some out else none := by
  have hm := (h _ _).1 hv
  unfold addLie
  by_cases he : v = x.lie
  · rw [if_pos he, if_neg, if_pos]
    · rw [List.any_eq_true]; exact ⟨_, hm, by simp⟩
    · rw [List.any_eq_true]
      rintro ⟨y, hy, h1⟩
      simp only [decide_eq_true_eq] at h1
      obtain ⟨yj, yl⟩ := y
      simp only at h1
      have := (h _ _).2 hy
      rw [h1.1, hv] at this
      injection this with this
      omega
  · rw [if_neg he, if_pos]
    rw [List.any_eq_true]
    exact ⟨_, hm, by simp [he]⟩
theorem LiesOf.lacks {lm : List (Int × Int)} {out : List LieT} (h : LiesOf lm out) {x : LieT} (hv : lk lm x.joint = none) : addLie out x = some (out ++ [x]) := by
  have hn : ∀ y ∈ out, y.joint ≠ x.joint := fun y hy he => by
    obtain ⟨yj, yl⟩ := y
    simp only at he
    have := (h _ _).2 hy
    rw [he, hv] at this
    cases this
  unfold addLie
  rw [if_neg, if_neg]
  · rw [List.any_eq_true]
    rintro ⟨y, hy, h1⟩
    simp only [decide_eq_true_eq] at h1
    exact hn y hy h1
  · rw [List.any_eq_true]
    rintro ⟨y, hy, h1⟩
    simp only [decide_eq_true_eq] at h1
    exact hn y hy h1.1
theorem LiesOf.up {lm : List (Int × Int)} {out : List LieT} (h : LiesOf lm out) {x : LieT} (hv : lk lm x.joint = none) : LiesOf (up lm x.joint x.lie) (out ++ [x]) := fun j v => by
  obtain ⟨xj, xl⟩ := x
  simp only at hv ⊢
  rw [lk_up, List.mem_append, List.mem_singleton]
  by_cases he : xj = j
  · subst he
    rw [if_pos rfl]
    constructor
    · intro h1; injection h1 with h1; subst h1; exact .inr rfl
    · rintro (h1 | h1)
      · rw [(h _ _).2 h1] at hv; cases hv
      · injection h1 with _ h1; rw [h1]
  · rw [if_neg he]
    constructor
    · intro h1; exact .inl ((h _ _).1 h1)
    · rintro (h1 | h1)
      · exact (h _ _).2 h1
      · injection h1 with h1 _; exact absurd h1.symm he
end Go.Proofs.Ytckcffjnffcjcaa
set_option linter.unusedVariables false
set_option linter.unusedSimpArgs false
namespace Go.Proofs.Ytckcffjnffcjcaa
def stepOf (s : SpotT) : StepT := ⟨s.piece, s.way⟩
theorem stepOf_ok {n : NetT} {s : SpotT} (h : spotB n s = true) : stepB n (stepOf s) = true := by
  have := spotB_iff.1 h
  rw [stepB_iff]
  unfold stepOf
  exact ⟨this.1, this.2.1, this.2.2.1⟩
theorem enter_step (n : NetT) (e : EndT) : stepOf (enterS n e) = comesS e := by unfold stepOf enterS comesS; split <;> rfl
end Go.Proofs.Ytckcffjnffcjcaa
set_option linter.unusedVariables false
set_option linter.unusedSimpArgs false
namespace Go.Proofs.Ytckcffjnffcjcaa
open Classical in
/-- The least walk, where there is one. -/
noncomputable def shortL (n : NetT) (s t : StepT) : Option (List StepT) := if h : ∃ l, Least n s t l then some h.choose else none
theorem shortL_some {n : NetT} {s t : StepT} {l : List StepT} (h : Least n s t l) : shortL n s t = some l := by
  have he : ∃ l, Least n s t l := ⟨l, h⟩
  unfold shortL
  rw [dif_pos he]
  exact congrArg some (he.choose_spec.unique h)
theorem shortL_none {n : NetT} {s t : StepT} (h : NoWalk n s t) : shortL n s t = none := by
  unfold shortL
  rw [dif_neg]
  rintro ⟨l, hl⟩
  exact h l hl.f hl.ne hl.last
def inOf (n : NetT) (b : SpotT) : Int := if b.way = -1 then lenP n b.piece - b.at_ else b.at_
def directB (a b : SpotT) : Bool := decide (a.piece = b.piece ∧ a.way = b.way ∧ 0 ≤ (b.at_ - a.at_) * a.way)
def noPath : PathT := ⟨false, 0, [], []⟩
noncomputable def farV (n : NetT) (a b : SpotT) : PathT := match shortL n (stepOf a) (stepOf b) with
  | none => noPath
  | some l => ⟨true, roomS n a + (weighS n l - lenP n b.piece) + inOf n b, stepOf a :: l, (liesAll n (stepOf a :: l)).getD []⟩
noncomputable def shortV (n : NetT) (a b : SpotT) : PathT := if directB a b = true then ⟨true, (b.at_ - a.at_) * a.way, [stepOf a], []⟩ else farV n a b
noncomputable def shortestV (n : NetT) (a b : SpotT) : PathT := if (spotOkB n a && spotB n b) = true then shortV n a b else noPath
theorem least_le {n : NetT} {s t : StepT} {l : List StepT} (h : Least n s t l) {m : List StepT} (hf : Follows n s m) (hne : m ≠ []) (hl : lastS s m = t) : weighS n l ≤ weighS n m := by
  have h1 := h.le m hf hne hl
  unfold leW at h1
  rw [Bool.eq_false_iff] at h1
  have : ¬ weighS n m < weighS n l := fun hlt => h1 (lessW_iff.2 (.inl hlt))
  omega
def bestAt (n : NetT) (s : StepT) : Nat → BestT × List (List StepT)
  | 0 => (fun _ => none, [[]])
  | k + 1 => roundS n s (bestAt n s k).1 (bestAt n s k).2
theorem bestAt_inv {n : NetT} (hg : Good n) {s : StepT} (hs : stepB n s = true) : ∀ k, InvR n s k (bestAt n s k).1 (bestAt n s k).2
  | 0 => InvR.start n s
  | k + 1 => (bestAt_inv hg hs k).step hg hs
theorem least_all {n : NetT} (hg : Good n) {s t : StepT} (hs : stepB n s = true) : (∃ l, Least n s t l ∧ l.length ≤ 2 * n.pieces.length + 1) ∨ NoWalk n s t := by
  have h := bestAt_inv hg hs (2 * n.pieces.length + 1)
  have he : (bestAt n s (2 * n.pieces.length + 1)).2 = [] := by
    cases hl : (bestAt n s (2 * n.pieces.length + 1)).2 with
    | nil => rfl
    | cons a l =>
      have := h.bound hg hs (by rw [hl]; simp)
      omega
  have hw := h.walk t
  rw [he] at h
  obtain ⟨h1, h2⟩ := h.stop hg hs
  cases hb : (bestAt n s (2 * n.pieces.length + 1)).1 t with
  | none => exact .inr (h2 t hb)
  | some l => exact .inl ⟨l, h1 t l hb, (hw l hb).2.2.2⟩
theorem shortL_cases {n : NetT} (hg : Good n) {s t : StepT} (hs : stepB n s = true) : (∃ l, shortL n s t = some l ∧ Least n s t l ∧ l.length ≤ 2 * n.pieces.length + 1) ∨ (shortL n s t = none ∧ NoWalk n s t) := by
  rcases least_all hg hs (t := t) with ⟨l, h1, h2⟩ | h
  · exact .inl ⟨l, shortL_some h1, h1, h2⟩
  · exact .inr ⟨shortL_none h, h⟩
theorem inOf_bd {n : NetT} {s : SpotT} (h : spotB n s = true) : 0 ≤ inOf n s ∧ inOf n s ≤ lenP n s.piece := by
  have := spotB_iff.1 h
  unfold inOf
  split <;> omega
theorem weigh_last {n : NetT} (hg : Good n) : ∀ (l : List StepT) (s : StepT), stepB n s = true → Follows n s l → l ≠ [] → lenS n (lastS s l) ≤ weighS n l
  | [], s, _, _, h => absurd rfl h
  | [t], s, hs, hf, _ => by rw [weighS_one]; exact Int.le_refl _
  | t :: u :: l, s, hs, hf, _ => by
    have ht := succ_ok hg hs hf.1
    have h1 := hg.lenS ht
    have h2 := weigh_last hg (u :: l) t ht hf.2 (by simp)
    rw [weighS_cons]
    show lenS n (lastS t (u :: l)) ≤ _
    omega
/-- A walk to the spot is no shorter than the shortest way. -/
theorem short_le {n : NetT} (hg : Good n) {a b : SpotT} (ha : spotB n a = true) (hb : spotB n b = true) {f : Int} (h : (b = moveS a f ∧ 0 ≤ f ∧ f ≤ roomS n a) ∨ ∃ l, Follows n (stepOf a) l ∧ l ≠ [] ∧ lastS (stepOf a) l = stepOf b ∧ f = roomS n a + (weighS n l - lenP n b.piece) + inOf n b) :
    (shortV n a b).ok = true ∧ (shortV n a b).far ≤ f := by
  have hw := way_cases ha
  rcases h with ⟨rfl, g0, g1⟩ | ⟨l, l1, l2, l3, l4⟩
  · have e : ((moveS a f).at_ - a.at_) * a.way = f := by
      unfold moveS
      simp only
      rcases hw with h | h <;> rw [h] <;> omega
    have hd : directB a (moveS a f) = true := by
      unfold directB
      rw [decide_eq_true_eq, e]
      exact ⟨rfl, rfl, g0⟩
    unfold shortV
    rw [if_pos hd]
    exact ⟨rfl, by simp only; omega⟩
  · have hsa := stepOf_ok ha
    unfold shortV
    split
    · rename_i hd
      unfold directB at hd
      simp only [decide_eq_true_eq] at hd
      refine ⟨rfl, ?_⟩
      have h1 := weigh_last hg l (stepOf a) hsa l1 l2
      rw [l3] at h1
      have h2 : lenS n (stepOf b) = lenP n b.piece := rfl
      have h3 := spotB_iff.1 ha
      have h4 := spotB_iff.1 hb
      have h5 : (b.at_ - a.at_) * a.way ≤ roomS n a := by
        have hp := hd.1
        rw [hp] at h3
        unfold roomS
        rw [hp]
        rcases hw with h | h <;> rw [h] <;> simp <;> omega
      have h6 := (inOf_bd hb).1
      simp only
      omega
    · unfold farV
      rcases shortL_cases hg hsa (t := stepOf b) with ⟨l', e1, q1, _⟩ | ⟨e1, n1⟩
      · rw [e1]
        have := least_le q1 l1 l2 l3
        refine ⟨rfl, ?_⟩
        simp only
        omega
      · exact absurd l3 (n1 l l1 l2)
end Go.Proofs.Ytckcffjnffcjcaa
set_option linter.unusedVariables false
set_option linter.unusedSimpArgs false
namespace Go.Proofs.Ytckcffjnffcjcaa
/-- An item of the line: the start, or the beginning of a piece behind a walk. -/
def ItemOk (n : NetT) (s : SpotT) (F : Int) (c : ItemT) : Prop :=
  spotB n c.1 = true ∧ roomS n c.1 < F - c.2 ∧ ((c = (s, 0)) ∨ ∃ l, Follows n (stepOf s) l ∧ l ≠ [] ∧ lastS (stepOf s) l = stepOf c.1 ∧ c.2 = roomS n s + (weighS n l - lenP n c.1.piece) ∧ inOf n c.1 = 0)
theorem next_walk {n : NetT} (hg : Good n) {s : SpotT} {F : Int} (hs : spotB n s = true) {c x : ItemT} (h : ItemOk n s F c) (hx : x ∈ nextR n c) :
    spotB n x.1 = true ∧ 0 < F - x.2 ∧ ∃ l, Follows n (stepOf s) l ∧ l ≠ [] ∧ lastS (stepOf s) l = stepOf x.1 ∧ x.2 = roomS n s + (weighS n l - lenP n x.1.piece) ∧ inOf n x.1 = 0 := by
  obtain ⟨h1, h2, h3⟩ := h
  unfold nextR at hx
  obtain ⟨e, he, rfl⟩ := List.mem_map.1 hx
  have hh := headE_ok h1
  have hen := (hg.across hh he).1
  have hsp := enterS_ok hg hen
  have hin : inOf n (enterS n e) = 0 := by
    unfold inOf enterS
    split <;> simp
  refine ⟨hsp, by simp only; omega, ?_⟩
  have hsucc : comesS e ∈ succS n (stepOf c.1) := List.mem_map.2 ⟨e, he, rfl⟩
  have hp : (enterS n e).piece = e.piece := enterS_piece n e
  rcases h3 with rfl | ⟨l, l1, l2, l3, l4, l5⟩
  · refine ⟨[comesS e], ⟨hsucc, trivial⟩, by simp, by rw [enter_step]; rfl, ?_, hin⟩
    simp only
    rw [weighS_one, hp]
    unfold lenS comesS
    simp only
    omega
  · refine ⟨l ++ [comesS e], (follows_snoc _ _ _).2 ⟨l1, by rw [l3]; exact hsucc⟩, by simp, by rw [lastS_snoc, enter_step], ?_, hin⟩
    simp only
    rw [weighS_append, weighS_one, hp]
    have e1 : lenS n (comesS e) = lenP n e.piece := rfl
    have e2 : roomS n c.1 = lenP n c.1.piece := by
      have hb := spotB_iff.1 h1
      unfold inOf at l5
      unfold roomS
      rcases hb.2.2.1 with hw | hw
      · rw [hw] at l5 ⊢
        simp at l5 ⊢
        omega
      · rw [hw] at l5 ⊢
        simp at l5 ⊢
        omega
    rw [e1]
    omega
theorem end_walk {n : NetT} {s : SpotT} {F : Int} {x : ItemT} (h1 : spotB n x.1 = true) (h2 : 0 ≤ F - x.2) (h3 : F - x.2 ≤ roomS n x.1) {l : List StepT} (l4 : x.2 = roomS n s + (weighS n l - lenP n x.1.piece)) (l5 : inOf n x.1 = 0) :
    spotB n (endR F x) = true ∧ stepOf (endR F x) = stepOf x.1 ∧ F = roomS n s + (weighS n l - lenP n (endR F x).piece) + inOf n (endR F x) := by
  have hs := spotB_iff.1 h1
  refine ⟨moveS_ok h1 h2 h3, rfl, ?_⟩
  have e : (endR F x).piece = x.1.piece := rfl
  have e2 : inOf n (endR F x) = F - x.2 := by
    unfold inOf at l5 ⊢
    unfold endR moveS
    simp only
    rcases hs.2.2.1 with hw | hw
    · rw [hw] at l5 ⊢
      simp at l5 ⊢
      omega
    · rw [hw] at l5 ⊢
      simp at l5 ⊢
      omega
  rw [e, e2]
  omega
/-- What a spot of the answer is. -/
def Come (n : NetT) (s : SpotT) (F : Int) (y : SpotT) : Prop := spotB n y = true ∧ ((y = moveS s F ∧ 0 ≤ F ∧ F ≤ roomS n s) ∨ ∃ l, Follows n (stepOf s) l ∧ l ≠ [] ∧ lastS (stepOf s) l = stepOf y ∧ F = roomS n s + (weighS n l - lenP n y.piece) + inOf n y)
theorem round_come {n : NetT} (hg : Good n) {s : SpotT} {F : Int} (hs : spotB n s = true) {out : List SpotT} {line : List ItemT} (ho : ∀ y ∈ out, Come n s F y) (hl : ∀ c ∈ line, ItemOk n s F c) :
    (∀ y ∈ (roundR n F out line).1, Come n s F y) ∧ ∀ c ∈ (roundR n F out line).2, ItemOk n s F c := by
  obtain ⟨h1, h2⟩ := lookR_mem (n := n) (F := F) (line.flatMap (nextR n)) (out, [])
  constructor
  · intro y hy
    rcases (h1 y).1 hy with hy | ⟨x, hx, ht, rfl⟩
    · exact ho y hy
    · obtain ⟨c, hc, hx⟩ := List.mem_flatMap.1 hx
      obtain ⟨a1, a2, l, l1, l2, l3, l4, l5⟩ := next_walk hg hs (hl c hc) hx
      unfold toldR at ht
      obtain ⟨b1, b2, b3⟩ := end_walk (s := s) (x := x) (F := F) a1 (by omega) (by simpa using ht) l4 l5
      exact ⟨b1, .inr ⟨l, l1, l2, by rw [l3, b2], b3⟩⟩
  · intro c hc
    rcases (h2 c).1 hc with hc | ⟨hx, ht⟩
    · simp at hc
    · obtain ⟨c', hc', hx⟩ := List.mem_flatMap.1 hx
      obtain ⟨a1, a2, l, l1, l2, l3, l4, l5⟩ := next_walk hg hs (hl c' hc') hx
      unfold toldR at ht
      simp only [decide_eq_false_iff_not] at ht
      exact ⟨a1, by omega, .inr ⟨l, l1, l2, l3, l4, l5⟩⟩
theorem reachGo_come {n : NetT} (hg : Good n) {s : SpotT} {F : Int} (hs : spotB n s = true) : ∀ (k : Nat) (out : List SpotT) (line : List ItemT) (R : List SpotT), (∀ y ∈ out, Come n s F y) → (∀ c ∈ line, ItemOk n s F c) → reachGo n F k out line = some R → ∀ y ∈ R, Come n s F y
  | _, out, [], R, ho, hl, hr => by simp only [reachGo, Option.some.injEq] at hr; subst hr; exact ho
  | 0, out, c :: line, R, ho, hl, hr => by simp [reachGo] at hr
  | k + 1, out, c :: line, R, ho, hl, hr => by
    simp only [reachGo] at hr
    split at hr
    · cases hr
    · obtain ⟨h1, h2⟩ := round_come hg hs ho hl
      exact reachGo_come hg hs k _ _ R h1 h2 hr
/-- FnReach: each spot that is told is no nearer than the shortest way to it. -/
theorem reach_near {n : NetT} {s : SpotT} {F : Int} {x : SpotT} (hx : x ∈ reachV n s F) : (shortestV n s x).ok = true ∧ (shortestV n s x).far ≤ F := by
  unfold reachV at hx
  split at hx
  · rename_i hb
    obtain ⟨hgd, hs, h0, h1⟩ := reachB_is hb
    have hg := Good.of hgd
    have key : Come n s F x → (shortestV n s x).ok = true ∧ (shortestV n s x).far ≤ F := by
      rintro ⟨c1, c2⟩
      have := short_le hg hs c1 c2
      unfold shortestV spotOkB
      rw [hgd, hs, c1]
      exact this
    split at hx
    · rename_i hle
      have : x = moveS s F := by simpa using hx
      subst this
      exact key ⟨moveS_ok hs h0 hle, .inl ⟨rfl, h0, hle⟩⟩
    · rename_i hgt
      split at hx
      · simp at hx
      · rename_i R hr
        rw [sortS_mem] at hx
        refine key (reachGo_come hg hs 1001 [] [(s, 0)] R (by simp) (fun c hc => ?_) hr x hx)
        have : c = (s, 0) := by simpa using hc
        subst this
        exact ⟨hs, by simp only; omega, .inl rfl⟩
  · simp at hx
theorem reachGo_mono {n : NetT} {F : Int} : ∀ (k : Nat) (out : List SpotT) (line : List ItemT) (R : List SpotT), reachGo n F k out line = some R → ∀ y ∈ out, y ∈ R
  | _, out, [], R, hr => by simp only [reachGo, Option.some.injEq] at hr; subst hr; exact fun _ h => h
  | 0, out, c :: line, R, hr => by simp [reachGo] at hr
  | k + 1, out, c :: line, R, hr => by
    simp only [reachGo] at hr
    split at hr
    · cases hr
    · intro y hy
      exact reachGo_mono k _ _ R hr y (((lookR_mem _ _).1 y).2 (.inl hy))
theorem drive_in {n : NetT} (hg : Good n) {lies : List Int} (hl : liesB n lies = true) {F : Int} : ∀ (m k : Nat) (out : List SpotT) (line : List ItemT) (R : List SpotT) (t : SpotT) (left : Int), reachGo n F k out line = some R → (t, F - left) ∈ line → spotB n t = true → roomS n t < left →
    (drv n lies m t left).code = 0 → (drv n lies m t left).spot ∈ R
  | m, k, out, [], R, t, left, hr, hm, _, _, _ => by simp at hm
  | m, 0, out, c :: line, R, t, left, hr, hm, _, _, _ => by simp [reachGo] at hr
  | m, k + 1, out, c :: line, R, t, left, hr, hm, ht, hlt, hc => by
    have hroom := roomS_bd hg ht
    have hleg : legOf n t left = roomS n t := by unfold legOf; omega
    cases hst : stopAt n lies t left with
    | some cj =>
      obtain ⟨c', j⟩ := cj
      have := stopAt_left (n := n) (lies := lies) (s := t) (left := left) 
      rw [drv_stop hst] at hc
      simp only at hc
      have hz := stopAt_zero hst hc
      omega
    | none =>
      cases m with
      | zero => rw [drv_full hst] at hc; simp at hc
      | succ m =>
        obtain ⟨o1, o2, o3⟩ := over_ok hg hl ht hst
        rw [drv_on hst] at hc ⊢
        simp only at hc ⊢
        rw [hleg] at hc ⊢
        simp only [reachGo] at hr
        split at hr
        · cases hr
        · obtain ⟨h1, h2⟩ := lookR_mem (n := n) (F := F) ((c :: line).flatMap (nextR n)) (out, [])
          have hin : (overL n lies (headE t)).2 ∈ acrossE n (headE t) := hg.over hl (headE_ok ht) o1
          have hx : ((enterS n (overL n lies (headE t)).2, F - (left - roomS n t)) : ItemT) ∈ (c :: line).flatMap (nextR n) := by
            rw [List.mem_flatMap]
            refine ⟨_, hm, ?_⟩
            unfold nextR
            rw [List.mem_map]
            exact ⟨_, hin, by simp only [Prod.mk.injEq, true_and]; omega⟩
          cases htd : toldR n F ((enterS n (overL n lies (headE t)).2, F - (left - roomS n t)) : ItemT) with
          | true =>
            have he : (drv n lies m (enterS n (overL n lies (headE t)).2) (left - roomS n t)).spot = endR F ((enterS n (overL n lies (headE t)).2, F - (left - roomS n t)) : ItemT) := by
              unfold toldR at htd
              simp only [decide_eq_true_eq] at htd
              have hl2 : legOf n (enterS n (overL n lies (headE t)).2) (left - roomS n t) = left - roomS n t := by unfold legOf; omega
              have hst2 : stopAt n lies (enterS n (overL n lies (headE t)).2) (left - roomS n t) = some (0, -1) := by
                unfold stopAt
                rw [hl2, if_pos (by omega)]
              rw [drv_stop hst2, hl2]
              unfold endR
              simp only
              congr 1
              omega
            rw [he]
            exact reachGo_mono _ _ _ _ hr _ ((h1 _).2 (.inr ⟨_, hx, htd, rfl⟩))
          | false =>
            have hin2 := (h2 _).2 (.inr ⟨hx, htd⟩)
            unfold toldR at htd
            simp only [decide_eq_false_iff_not] at htd
            exact drive_in hg hl m k _ _ R _ _ hr hin2 o3 (by omega) hc
/-- FnReach: a drive of the length ends at one of the told spots. -/
theorem reach_drive {n : NetT} {s : SpotT} {F : Int} {lies : List Int} (hb : reachB n s F = true) (hl : liesB n lies = true) (hne : 0 < (reachV n s F).length) (hc : (driveR n lies s F).code = 0) : (driveR n lies s F).spot ∈ reachV n s F := by
  obtain ⟨hgd, hs, h0, h1⟩ := reachB_is hb
  have hg := Good.of hgd
  rw [driveR_is hgd hl hs h0 h1] at *
  unfold reachV at hne ⊢
  rw [if_pos hb] at hne ⊢
  split
  · rename_i hle
    have hl2 : legOf n s F = F := by unfold legOf; omega
    have hst : stopAt n lies s F = some (0, -1) := by
      unfold stopAt
      rw [hl2, if_pos (by omega)]
    rw [drv_stop hst, hl2]
    simp
  · rename_i hgt
    rw [if_neg hgt] at hne
    split at hne
    · simp at hne
    · rename_i R hr
      rw [sortS_mem]
      exact drive_in hg hl 1000 1001 [] [(s, 0)] R s F hr (by simp) hs (by omega) hc
end Go.Proofs.Ytckcffjnffcjcaa
set_option linter.unusedVariables false
set_option linter.unusedSimpArgs false
namespace Go.Proofs.Ytckcffjnffcjcaa
open Go.RowKit Go.Proofs.YtckcffjnffcjcaaW.PrintWords
abbrev HdrT := Int × Int × Int × Int × (Option Addr × Nat × Nat)
def encH (x : Option Addr × Nat × Nat) : Value := .slice x.1 x.2.1 x.2.2
def kHdr : Kd HdrT := Kd.pair (Kd.int .i64) (Kd.pair (Kd.int .i64) (Kd.pair (Kd.int .i64) (Kd.pair (Kd.int .i64) (Kd.scalar encH (fun _ => rfl)))))
def hdrVals (x : HdrT) : List Value := [.int .i64 x.1, .int .i64 x.2.1, .int .i64 x.2.2.1, .int .i64 x.2.2.2.1, encH x.2.2.2.2]
theorem kHdr_open {w : World} {x : HdrT} {cs : List Value} (h : kHdr.K w x cs) : cs = hdrVals x := by
  obtain ⟨c0, d0, rfl, h0, c1, d1, rfl, h1, c2, d2, rfl, h2, c3, d3, rfl, h3, h4⟩ := h
  rw [show c0 = [.int .i64 x.1] from h0, show c1 = [.int .i64 x.2.1] from h1, show c2 = [.int .i64 x.2.2.1] from h2, show c3 = [.int .i64 x.2.2.2.1] from h3, show d3 = [encH x.2.2.2.2] from h4]; rfl
theorem kHdr_mkM (w : World) (base : Nat) (ok : Nat → Prop) (x : HdrT) : kHdr.M w base ok x (hdrVals x) :=
  ⟨[.int .i64 x.1], _, rfl, rfl, [.int .i64 x.2.1], _, rfl, rfl, [.int .i64 x.2.2.1], _, rfl, rfl, [.int .i64 x.2.2.2.1], [encH x.2.2.2.2], rfl, rfl, rfl⟩
theorem add_lit (g i : Nat) : (⟨g, 0, none⟩ : Addr).add i = ⟨g, i, none⟩ := by
  unfold Addr.add
  split
  · rename_i h; rw [h]
  · simp
theorem Bx.grownP {W w1 : World} {b : Nat} {row : Option Nat} {vs : List Value} (h : Bx W b vs) (hk : W.grownBy w1 row) (hne : some b ≠ row) : Bx w1 b vs := by
  have e : w1.heap[b]? = W.heap[b]? := hk.block b h.lt hne
  refine ⟨Nat.lt_of_lt_of_le h.lt hk.size, fun i v hv => ?_, fun i => ?_⟩
  · have := h.c i v hv
    unfold World.cell? at this ⊢
    simp only at this ⊢
    rw [e]; exact this
  · have := h.f i
    unfold World.frozen? at this ⊢
    simp only at this ⊢
    rw [e]; exact this
theorem gate_callP {P : Program} {ops : Array Oper} {rest : List Oper} {o : Oper} {a : Act} {Q : Exit → Act → World → Prop} {W : World} {b : Builtin} {xs : Array Operand} {ts : Array TypeId} (_ho : o.op = .call { callee := .builtin b, args := xs, argTypes := ts }) (h : wpList P ops Q (o :: rest) a W) : wpList P ops Q (o :: rest) a W := h
end Go.Proofs.Ytckcffjnffcjcaa
set_option linter.unusedVariables false
set_option linter.unusedSimpArgs false
namespace Go.Proofs.Ytckcffjnffcjcaa
theorem foldR_perm {n : NetT} {F : Int} {xs ys : List ItemT} {st su : List SpotT × List ItemT} (h : xs.Perm ys) (h1 : st.1.Perm su.1) (h2 : st.2.Perm su.2) (n1 : st.1.Nodup) (n2 : st.2.Nodup) :
    (xs.foldl (lookR n F) st).1.Perm (ys.foldl (lookR n F) su).1 ∧ (xs.foldl (lookR n F) st).2.Perm (ys.foldl (lookR n F) su).2 := by
  obtain ⟨a1, a2⟩ := lookR_mem (n := n) (F := F) xs st
  obtain ⟨b1, b2⟩ := lookR_mem (n := n) (F := F) ys su
  obtain ⟨c1, c2⟩ := lookR_nodup (n := n) (F := F) xs st n1 n2
  obtain ⟨d1, d2⟩ := lookR_nodup (n := n) (F := F) ys su (h1.nodup_iff.1 n1) (h2.nodup_iff.1 n2)
  refine ⟨(List.perm_ext_iff_of_nodup c1 d1).2 fun y => ?_, (List.perm_ext_iff_of_nodup c2 d2).2 fun z => ?_⟩
  · rw [a1, b1, h1.mem_iff]
    refine or_congr Iff.rfl ⟨?_, ?_⟩
    · rintro ⟨x, hx, hh⟩; exact ⟨x, h.mem_iff.1 hx, hh⟩
    · rintro ⟨x, hx, hh⟩; exact ⟨x, h.mem_iff.2 hx, hh⟩
  · rw [a2, b2, h2.mem_iff, h.mem_iff]
theorem roundR_perm {n : NetT} {F : Int} {out out' : List SpotT} {line line' : List ItemT} (h1 : out.Perm out') (h2 : line.Perm line') (hn : out.Nodup) :
    (roundR n F out line).1.Perm (roundR n F out' line').1 ∧ (roundR n F out line).2.Perm (roundR n F out' line').2 ∧ (roundR n F out line).1.Nodup ∧ (roundR n F out line).2.Nodup := by
  have h := foldR_perm (n := n) (F := F) (h2.flatMap_right (nextR n)) (st := (out, [])) (su := (out', [])) h1 (List.Perm.refl _) hn List.nodup_nil
  have h3 := lookR_nodup (n := n) (F := F) (line.flatMap (nextR n)) (out, []) hn List.nodup_nil
  exact ⟨h.1, h.2, h3.1, h3.2⟩
def goV (o : Option (List SpotT)) : List SpotT := match o with
  | none => []
  | some out => sortS out
theorem sortS_perm {l m : List SpotT} (h : l.Perm m) (hn : l.Nodup) : sortS l = sortS m :=
  (sortS_eq (h.nodup_iff.1 hn) (sortS_sorted hn) (fun x => by rw [sortS_mem]; exact h.mem_iff))
theorem reachGo_perm {n : NetT} {F : Int} : ∀ (k : Nat) (out out' : List SpotT) (line line' : List ItemT), out.Perm out' → line.Perm line' → out.Nodup → goV (reachGo n F k out line) = goV (reachGo n F k out' line')
  | k, out, out', [], line', h1, h2, hn => by
    obtain rfl : line' = [] := h2.symm.eq_nil
    cases k <;> exact sortS_perm h1 hn
  | 0, out, out', c :: line, line', h1, h2, hn => by
    cases line' with
    | nil => exact absurd h2.length_eq (by simp)
    | cons c' line' => rfl
  | k + 1, out, out', c :: line, line', h1, h2, hn => by
    cases line' with
    | nil => exact absurd h2.length_eq (by simp)
    | cons c' line' =>
      obtain ⟨a, b, c1, _⟩ := roundR_perm (n := n) (F := F) h1 h2 hn
      simp only [reachGo]
      rw [← a.length_eq, ← b.length_eq]
      split
      · rfl
      · exact reachGo_perm k _ _ _ _ a b c1
theorem reachGo_step {n : NetT} {F : Int} {k : Nat} {out : List SpotT} {line : List ItemT} (h : line ≠ []) : reachGo n F (k + 1) out line = if 200 < (roundR n F out line).1.length ∨ 1000 < (roundR n F out line).2.length ∨ k = 0 then none else reachGo n F k (roundR n F out line).1 (roundR n F out line).2 := by
  cases line with
  | nil => exact absurd rfl h
  | cons c line => rfl
/-- Behind some rounds, k more may come. -/
structure RG (n : NetT) (s : SpotT) (F : Int) (k : Nat) (out : List SpotT) (line : List ItemT) : Prop where
  val : goV (reachGo n F 1001 [] [(s, 0)]) = goV (reachGo n F k out line)
  nd : out.Nodup
  it : ∀ c ∈ line, spotB n c.1 = true ∧ 0 ≤ c.2 ∧ c.2 + roomS n c.1 < F
  inj : line = [(s, 0)] ∨ ∀ c ∈ line, ∃ e, endB n e = true ∧ c.1 = enterS n e
  ol : out.length ≤ 200 ∧ line.length ≤ 1000
theorem RG.start {n : NetT} {s : SpotT} {F : Int} (hs : spotB n s = true) (h : ¬ F ≤ roomS n s) : RG n s F 1001 [] [(s, 0)] :=
  ⟨rfl, List.nodup_nil, fun c hc => by
    obtain rfl : c = (s, 0) := by simpa using hc
    exact ⟨hs, by show (0 : Int) ≤ 0; omega, by show (0 : Int) + roomS n s < F; omega⟩, .inl rfl, ⟨by simp, by simp⟩⟩
theorem RG.out {n : NetT} {s : SpotT} {F : Int} {k : Nat} {out : List SpotT} (h : RG n s F k out []) : goV (reachGo n F 1001 [] [(s, 0)]) = sortS out := by
  rw [h.val]; cases k <;> rfl
theorem RG.fail {n : NetT} {s : SpotT} {F : Int} {k : Nat} {out : List SpotT} {line line' : List ItemT} (h : RG n s F (k + 1) out line) (hp : line.Perm line') (hne : line ≠ []) (hf : 200 < (roundR n F out line').1.length ∨ 1000 < (roundR n F out line').2.length ∨ k = 0) : goV (reachGo n F 1001 [] [(s, 0)]) = [] := by
  rw [h.val, reachGo_step hne]
  obtain ⟨a, b, _, _⟩ := roundR_perm (n := n) (F := F) (List.Perm.refl out) hp h.nd
  rw [a.length_eq, b.length_eq, if_pos hf]
  rfl
theorem nextR_ok {n : NetT} (hg : Good n) {c x : ItemT} (hc : spotB n c.1 = true) (hx : x ∈ nextR n c) : ∃ e, endB n e = true ∧ x = (enterS n e, c.2 + roomS n c.1) := by
  unfold nextR at hx
  obtain ⟨e, he, rfl⟩ := List.mem_map.1 hx
  exact ⟨e, (hg.across (headE_ok hc) he).1, rfl⟩
theorem RG.next {n : NetT} (hg : Good n) {s : SpotT} {F : Int} {k : Nat} {out : List SpotT} {line line' : List ItemT} (h : RG n s F (k + 1) out line) (hp : line.Perm line') (hne : line ≠ []) (hf : ¬ (200 < (roundR n F out line').1.length ∨ 1000 < (roundR n F out line').2.length ∨ k = 0)) :
    RG n s F k (roundR n F out line').1 (roundR n F out line').2 := by
  obtain ⟨a, b, c, d⟩ := roundR_perm (n := n) (F := F) (List.Perm.refl out) hp h.nd
  have key : ∀ z ∈ (roundR n F out line').2, toldR n F z = false ∧ ∃ y ∈ line, ∃ e, endB n e = true ∧ z = (enterS n e, y.2 + roomS n y.1) := fun z hz => by
    rcases ((lookR_mem (n := n) (F := F) (line'.flatMap (nextR n)) (out, [])).2 z).1 hz with h1 | ⟨h1, h2⟩
    · simp at h1
    · obtain ⟨y, hy, hz⟩ := List.mem_flatMap.1 h1
      have hy := hp.mem_iff.2 hy
      obtain ⟨e, he, hz⟩ := nextR_ok hg (h.it y hy).1 hz
      exact ⟨h2, y, hy, e, he, hz⟩
  refine ⟨?_, a.nodup_iff.1 c, fun z hz => ?_, .inr fun z hz => ?_, by omega⟩
  · rw [h.val, reachGo_step hne, a.length_eq, b.length_eq, if_neg hf]
    exact reachGo_perm k _ _ _ _ a b c
  · obtain ⟨h1, y, hy, e, he, rfl⟩ := key z hz
    have h2 := h.it y hy
    have hr := roomS_bd hg h2.1
    unfold toldR at h1
    simp only [decide_eq_false_iff_not] at h1
    exact ⟨enterS_ok hg he, by show 0 ≤ y.2 + roomS n y.1; omega, by show y.2 + roomS n y.1 + roomS n (enterS n e) < F; omega⟩
  · obtain ⟨h1, y, hy, e, he, rfl⟩ := key z hz
    exact ⟨e, he, rfl⟩
def lineRS (n : NetT) (F : Int) (out : List SpotT) (line : List ItemT) (a : Nat) : List SpotT × List ItemT := ((line.take a).flatMap (nextR n)).foldl (lookR n F) (out, [])
def endRS (n : NetT) (F : Int) (st : List SpotT × List ItemT) (c : ItemT) (q : Nat) : List SpotT × List ItemT := ((nextR n c).take q).foldl (lookR n F) st
theorem lineRS_all (n : NetT) (F : Int) (out : List SpotT) (line : List ItemT) : lineRS n F out line line.length = roundR n F out line := by unfold lineRS roundR; rw [List.take_length]
theorem endRS_all {n : NetT} {F : Int} {st : List SpotT × List ItemT} {c : ItemT} {q : Nat} (hq : q = (nextR n c).length) : endRS n F st c q = (nextR n c).foldl (lookR n F) st := by unfold endRS; rw [hq, List.take_length]
theorem lineRS_next {n : NetT} {F : Int} {out : List SpotT} {line : List ItemT} {a : Nat} (ha : a < line.length) : lineRS n F out line (a + 1) = (nextR n (line.getD a default)).foldl (lookR n F) (lineRS n F out line a) := by
  unfold lineRS
  rw [take_getD line a ha, List.flatMap_append, List.foldl_append]
  simp
theorem nextR_len (n : NetT) (c : ItemT) : (nextR n c).length = (acrossE n (headE c.1)).length := by unfold nextR; simp
theorem nextR_getD {n : NetT} {c : ItemT} {E : List EndT} (hE : E = acrossE n (headE c.1)) {q : Nat} (hq : q < E.length) : (nextR n c).getD q default = (enterS n (E.getD q default), c.2 + roomS n c.1) := by
  unfold nextR
  rw [← hE, getD_at _ q (by simpa using hq), getD_at E q hq]
  simp
theorem endRS_next {n : NetT} {F : Int} {st : List SpotT × List ItemT} {c : ItemT} {E : List EndT} (hE : E = acrossE n (headE c.1)) {q : Nat} (hq : q < E.length) : endRS n F st c (q + 1) = lookR n F (endRS n F st c q) (enterS n (E.getD q default), c.2 + roomS n c.1) := by
  unfold endRS
  rw [take_getD _ q (by rw [nextR_len, ← hE]; exact hq), List.foldl_append, nextR_getD hE hq]
  rfl
theorem addR_len {α : Type} [DecidableEq α] (l : List α) (x : α) : (addR l x).length ≤ l.length + 1 := by unfold addR; split <;> simp
theorem lookR_len (n : NetT) (F : Int) (st : List SpotT × List ItemT) (x : ItemT) : (lookR n F st x).1.length ≤ st.1.length + 1 ∧ (lookR n F st x).2.length ≤ st.2.length + 1 := by
  unfold lookR
  have h1 := addR_len st.1 (endR F x)
  have h2 := addR_len st.2 x
  split
  · exact ⟨h1, by simp⟩
  · exact ⟨by simp, h2⟩
theorem endRS_len (n : NetT) (F : Int) (st : List SpotT × List ItemT) (c : ItemT) (q : Nat) : (endRS n F st c q).1.length ≤ st.1.length + q ∧ (endRS n F st c q).2.length ≤ st.2.length + q := by
  unfold endRS
  have : ∀ (xs : List ItemT) (st : List SpotT × List ItemT), (xs.foldl (lookR n F) st).1.length ≤ st.1.length + xs.length ∧ (xs.foldl (lookR n F) st).2.length ≤ st.2.length + xs.length := by
    intro xs
    induction xs with
    | nil => intro st; simp
    | cons x xs ih =>
      intro st
      have h1 := lookR_len n F st x
      have h2 := ih (lookR n F st x)
      rw [List.foldl_cons, List.length_cons]
      omega
  have h := this ((nextR n c).take q) st
  have := List.length_take_le q (nextR n c)
  omega
theorem lookR_told {n : NetT} {F : Int} {st : List SpotT × List ItemT} {x : ItemT} (h : F - x.2 ≤ roomS n x.1) : lookR n F st x = (addR st.1 (endR F x), st.2) := by
  unfold lookR; rw [if_pos (by unfold toldR; simpa using h)]
theorem lookR_more {n : NetT} {F : Int} {st : List SpotT × List ItemT} {x : ItemT} (h : ¬ F - x.2 ≤ roomS n x.1) : lookR n F st x = (st.1, addR st.2 x) := by
  unfold lookR; rw [if_neg (by unfold toldR; simpa using h)]
/-- The row up to place i is in order but for place k, which stands ahead of what is behind it. -/
structure SI (out : List SpotT) (i k : Nat) (l : List SpotT) : Prop where
  p : l.Perm out
  ki : k ≤ i
  il : i < l.length
  rest : ∀ a b, a < b → b ≤ i → a ≠ k → b ≠ k → spotLt (l.getD a default) (l.getD b default) = true
  own : ∀ b, k < b → b ≤ i → spotLt (l.getD k default) (l.getD b default) = true
def SO (out : List SpotT) (i : Nat) (l : List SpotT) : Prop := l.Perm out ∧ ∀ a b, a < b → b < i → spotLt (l.getD a default) (l.getD b default) = true
theorem SO.start (out : List SpotT) : SO out 1 out := ⟨List.Perm.refl _, fun a b h1 h2 => by omega⟩
theorem SO.into {out l : List SpotT} {i : Nat} (h : SO out i l) (hi : i < l.length) : SI out i i l := ⟨h.1, Nat.le_refl _, hi, fun a b h1 h2 h3 h4 => h.2 a b h1 (by omega), fun b h1 h2 => by omega⟩
theorem getD_inj {l : List SpotT} (hn : l.Nodup) {a b : Nat} (ha : a < l.length) (hb : b < l.length) (h : l.getD a default = l.getD b default) : a = b := by
  rw [getD_at l a ha, getD_at l b hb] at h
  have hp := List.pairwise_iff_getElem.1 hn
  rcases Nat.lt_trichotomy a b with h1 | h1 | h1
  · exact absurd h (hp a b ha hb h1)
  · exact h1
  · exact absurd h.symm (hp b a hb ha h1)
theorem SI.stop {out l : List SpotT} {i k : Nat} (h : SI out i k l) (hn : out.Nodup) (hk : k = 0 ∨ spotLt (l.getD k default) (l.getD (k - 1) default) = false) : SO out (i + 1) l := by
  refine ⟨h.p, fun a b h1 h2 => ?_⟩
  have hil := h.il
  have hki := h.ki
  have hnl := h.p.nodup_iff.2 hn
  by_cases hb : b = k
  · subst hb
    rcases hk with hk | hk
    · omega
    · have e1 : spotLt (l.getD (b - 1) default) (l.getD b default) = true := by
        rcases spotLt_total (a := l.getD (b - 1) default) (b := l.getD b default) (fun e => by have := getD_inj hnl (by omega) (by omega) e; omega) with e | e
        · exact e
        · rw [hk] at e; cases e
      by_cases ha : a = b - 1
      · rw [ha]; exact e1
      · exact spotLt_trans (h.rest a (b - 1) (by omega) (by omega) (by omega) (by omega)) e1
  · by_cases ha : a = k
    · subst ha
      exact h.own b h1 (by omega)
    · exact h.rest a b h1 (by omega) ha hb
theorem getD_setS {α : Type} (l : List α) (i j : Nat) (x d : α) (hi : i < l.length) : (l.set i x).getD j d = if i = j then x else l.getD j d := by
  rw [List.getD_eq_getElem?_getD, List.getD_eq_getElem?_getD, List.getElem?_set]
  split
  · rename_i h; subst h; simp [hi]
  · rfl
def swapL (l : List SpotT) (k : Nat) : List SpotT := (l.set k (l.getD (k - 1) default)).set (k - 1) (l.getD k default)
theorem swapL_len (l : List SpotT) (k : Nat) : (swapL l k).length = l.length := by unfold swapL; simp
theorem swapL_getD (l : List SpotT) {k : Nat} (hk : 0 < k) (hl : k < l.length) (j : Nat) : (swapL l k).getD j default = if j = k - 1 then l.getD k default else if j = k then l.getD (k - 1) default else l.getD j default := by
  unfold swapL
  rw [getD_setS _ (k - 1) j _ _ (by simp; omega)]
  by_cases h1 : j = k - 1
  · rw [if_pos h1.symm, if_pos h1]
  · rw [if_neg (fun e => h1 e.symm), if_neg h1, getD_setS _ k j _ _ hl]
    by_cases h2 : j = k
    · rw [if_pos h2.symm, if_pos h2]
    · rw [if_neg (fun e => h2 e.symm), if_neg h2]
theorem swapL_perm (l : List SpotT) {k : Nat} (hk : 0 < k) (hl : k < l.length) (hn : l.Nodup) : (swapL l k).Perm l := by
  have inj : ∀ a b, a < l.length → b < l.length → (swapL l k).getD a default = (swapL l k).getD b default → a = b := fun a b ha hb h => by
    rw [swapL_getD l hk hl, swapL_getD l hk hl] at h
    split at h <;> split at h <;> (try split at h) <;> (try split at h) <;> (try omega) <;> (have := getD_inj hn (by omega) (by omega) h; omega)
  have hn2 : (swapL l k).Nodup := by
    rw [List.nodup_iff_pairwise_ne, List.pairwise_iff_getElem]
    intro a b ha hb hab he
    have := inj a b (by rw [swapL_len] at ha; exact ha) (by rw [swapL_len] at hb; exact hb) (by rw [getD_at _ a ha, getD_at _ b hb]; exact he)
    omega
  refine (List.perm_ext_iff_of_nodup hn2 hn).2 fun x => ⟨fun hx => ?_, fun hx => ?_⟩
  · obtain ⟨j, hj, rfl⟩ := List.getElem_of_mem hx
    rw [← getD_at _ j hj, swapL_getD l hk hl]
    rw [swapL_len] at hj
    split
    · exact getD_mem l k hl
    · split
      · exact getD_mem l _ (by omega)
      · exact getD_mem l j hj
  · obtain ⟨j, hj, rfl⟩ := List.getElem_of_mem hx
    rw [← getD_at _ j hj]
    by_cases h1 : j = k
    · subst h1
      have := getD_mem (swapL l j) (j - 1) (by rw [swapL_len]; omega)
      rw [swapL_getD l hk hl, if_pos rfl] at this
      exact this
    · by_cases h2 : j = k - 1
      · subst h2
        have := getD_mem (swapL l k) k (by rw [swapL_len]; omega)
        rw [swapL_getD l hk hl, if_neg (by omega), if_pos rfl] at this
        exact this
      · have := getD_mem (swapL l k) j (by rw [swapL_len]; omega)
        rw [swapL_getD l hk hl, if_neg h2, if_neg h1] at this
        exact this
theorem SI.swap {out l : List SpotT} {i k : Nat} (h : SI out i k l) (hn : out.Nodup) (hk : 0 < k) (hs : spotLt (l.getD k default) (l.getD (k - 1) default) = true) : SI out i (k - 1) (swapL l k) := by
  have hil := h.il
  have hki := h.ki
  have hnl := h.p.nodup_iff.2 hn
  have hkl : k < l.length := by omega
  refine ⟨(swapL_perm l hk hkl hnl).trans h.p, by omega, by rw [swapL_len]; exact hil, fun a b h1 h2 h3 h4 => ?_, fun b h1 h2 => ?_⟩
  · rw [swapL_getD l hk hkl, swapL_getD l hk hkl, if_neg h3, if_neg h4]
    by_cases ha : a = k
    · subst ha
      rw [if_pos rfl, if_neg (by omega)]
      exact h.rest (a - 1) b (by omega) h2 (by omega) (by omega)
    · rw [if_neg ha]
      by_cases hb : b = k
      · subst hb
        rw [if_pos rfl]
        exact h.rest a (b - 1) (by omega) (by omega) ha (by omega)
      · rw [if_neg hb]
        exact h.rest a b h1 h2 ha hb
  · rw [swapL_getD l hk hkl, swapL_getD l hk hkl, if_pos rfl, if_neg (by omega)]
    by_cases hb : b = k
    · subst hb
      rw [if_pos rfl]; exact hs
    · rw [if_neg hb]
      exact h.own b (by omega) h2
theorem SO.all {out l : List SpotT} {i : Nat} (h : SO out i l) (hn : out.Nodup) (hi : l.length ≤ i) : l = sortS out := by
  refine sortS_eq hn ?_ (fun x => h.1.mem_iff)
  rw [List.pairwise_iff_getElem]
  intro a b ha hb hab
  have := h.2 a b hab (by omega)
  rwa [getD_at _ a ha, getD_at _ b hb] at this
theorem reachV_go {n : NetT} {s : SpotT} {F : Int} (hb : reachB n s F = true) (hr : ¬ F ≤ roomS n s) : reachV n s F = goV (reachGo n F 1001 [] [(s, 0)]) := by
  unfold reachV
  rw [if_pos hb, if_neg hr]
  rfl
theorem reachV_near {n : NetT} {s : SpotT} {F : Int} (hb : reachB n s F = true) (hr : F ≤ roomS n s) : reachV n s F = [moveS s F] := by
  unfold reachV
  rw [if_pos hb, if_pos hr]
theorem reachV_bad {n : NetT} {s : SpotT} {F : Int} (hb : reachB n s F = false) : reachV n s F = [] := by
  unfold reachV
  rw [if_neg (by rw [hb]; simp)]
end Go.Proofs.Ytckcffjnffcjcaa
set_option linter.unusedVariables false
set_option linter.unusedSimpArgs false
namespace Go.Proofs.Ytckcffjnffcjcaa
open Go.RowKit Go.Proofs.YtckcffjnffcjcaaW.PrintWords
theorem acrossJ_few (j : JointT) (q : Nat) : (acrossJ j q).length ≤ 2 := by
  unfold acrossJ
  split
  · simp
  · split
    · split <;> simp
    · split <;> simp
theorem info172R : (Try.prog.info? 172).map (fun i => (i.zero, i.size, i.bytes)) = some (some (.agg #[.int .i64 0, .int .i64 0, .int .i64 0, .int .i64 0, .slice none 0 0]), 5, 56) := by kernel_rfl
theorem R_hdrR (W : World) (x : HdrT) {base g : Nat} (hg : g = W.heap.size) (hb : base ≤ W.heap.size) : kHdr.R 172 (W.alloc (.cells (hdrVals x).toArray 172)) base (fun _ => True) (.slice (some ⟨g, 0, none⟩) 1 1) [x] := by
  subst hg
  exact R_lits kHdr W 172 (xs := [x]) (inner := hdrVals x) (by
    have := (Reps.none (fun (x : HdrT) c => ∀ w base ok, kHdr.M w base ok x c) 5).snoc (p := x) (c := hdrVals x) (fun w base ok => kHdr_mkM w base ok x) rfl
    exact this) (by simp) hb
theorem R_spot1 (W : World) (x : SpotT) {base g : Nat} (hg : g = W.heap.size) (hb : base ≤ W.heap.size) : kSpot.R 38 (W.alloc (.cells #[.int .i64 x.piece, .int .i64 x.at_, .int .i64 x.way] 38)) base (fun _ => True) (.slice (some ⟨g, 0, none⟩) 1 1) [x] := by
  subst hg
  exact R_lits kSpot W 38 (xs := [x]) (inner := [.int .i64 x.piece, .int .i64 x.at_, .int .i64 x.way]) (by
    have := (Reps.none (fun (x : SpotT) c => ∀ w base ok, kSpot.M w base ok x c) 3).snoc (p := x) (c := [.int .i64 x.piece, .int .i64 x.at_, .int .i64 x.way]) (fun w base ok => kSpot_mkM w base ok x) rfl
    exact this) (by simp) hb
set_option maxRecDepth 100000 in
set_option maxHeartbeats 4000000 in
theorem l4spot_any (x y : SpotT) (w : World) :
    Calls Try.prog 161 #[.agg #[.int .i64 x.piece, .int .i64 x.at_, .int .i64 x.way], .agg #[.int .i64 y.piece, .int .i64 y.at_, .int .i64 y.way]] w
      fun e w' => e = .returned (.bool (spotLt x y)) ∧ Below w.heap.size w w' := by
  obtain ⟨xp, xa, xw⟩ := x
  obtain ⟨yp, ya, yw⟩ := y
  obtain ⟨W0, hW0, hBX, hBY, fb0, hz0⟩ := box2 w [.int .i64 xp, .int .i64 xa, .int .i64 xw] [.int .i64 yp, .int .i64 ya, .int .i64 yw] 38 38
  have FB := Aside0.mk fb0
  have HW := Aside0.mk hW0
  have x0 := hBX.c 0 _ rfl; have x1 := hBX.c 1 _ rfl; have x2 := hBX.c 2 _ rfl
  have y0 := hBY.c 0 _ rfl; have y1 := hBY.c 1 _ rfl; have y2 := hBY.c 2 _ rfl
  clear fb0 hW0 hBX hBY
  go_enter Try.func161, Try.ntmps161
  by_cases h1 : xp = yp
  · subst h1
    have e1 : (xp == xp) = true := by simp
    by_cases h2 : xa = ya
    · subst h2
      have e2 : (xa == xa) = true := by simp
      have HV : Aside0 (spotLt ⟨xp, xa, xw⟩ ⟨xp, xa, yw⟩ = decide (xw < yw)) := ⟨by unfold spotLt; simp⟩
      go_wp2_with fail
      rw [← HW.out]
      go_wp2_with fail
      go_ret
      exact ⟨by rw [HV.out]; rfl, FB.out⟩
    · have e2 : (xa == ya) = false := by simpa using h2
      have HV : Aside0 (spotLt ⟨xp, xa, xw⟩ ⟨xp, ya, yw⟩ = decide (xa < ya)) := ⟨by unfold spotLt; simp [h2]⟩
      clear h2
      go_wp2_with fail
      rw [← HW.out]
      go_wp2_with fail
      go_ret
      exact ⟨by rw [HV.out]; rfl, FB.out⟩
  · have e1 : (xp == yp) = false := by simpa using h1
    have HV : Aside0 (spotLt ⟨xp, xa, xw⟩ ⟨yp, ya, yw⟩ = decide (xp < yp)) := ⟨by unfold spotLt; simp [h1]⟩
    clear h1
    go_wp2_with fail
    rw [← HW.out]
    go_wp2_with fail
    go_ret
    exact ⟨by rw [HV.out]; rfl, FB.out⟩
end Go.Proofs.Ytckcffjnffcjcaa
set_option linter.unusedVariables false
set_option linter.unusedSimpArgs false
namespace Go.Proofs.Ytckcffjnffcjcaa
open Go.RowKit Go.Proofs.YtckcffjnffcjcaaW.PrintWords
def hR (x : ItemT) : HdrT := (x.1.piece, x.1.at_, x.1.way, x.2, (none, 0, 0))
theorem at_Item {w : World} {A : Option Addr} {n : Nat} {xs : List ItemT} (h : Kd.C kHdr w A n (xs.map hR)) (i : Nat) (hi : i < n) : ∃ ad, A = some ad ∧ w.cell? (ad.add (i * 5)) = some (.int .i64 (xs.getD i default).1.piece) ∧ w.cell? ⟨(ad.add (i * 5)).block, (ad.add (i * 5)).off + 1, none⟩ = some (.int .i64 (xs.getD i default).1.at_) ∧ w.cell? ⟨(ad.add (i * 5)).block, (ad.add (i * 5)).off + 2, none⟩ = some (.int .i64 (xs.getD i default).1.way) ∧ w.cell? ⟨(ad.add (i * 5)).block, (ad.add (i * 5)).off + 3, none⟩ = some (.int .i64 (xs.getD i default).2) ∧ w.cell? ⟨(ad.add (i * 5)).block, (ad.add (i * 5)).off + 4, none⟩ = some (.slice none 0 0) := by
  obtain ⟨ad, c, e2, _, hK, hc0⟩ := Kd.C_get h (hR default) (i : Int) (by omega) (by omega)
  rw [Int.toNat_natCast] at hK hc0
  have hc : ∀ j u, c[j]? = some u → w.cell? (ad.add (i * 5 + j)) = some u := hc0
  obtain rfl := kHdr_open hK
  have hg : (xs.map hR).getD i (hR default) = hR (xs.getD i default) := by
    rw [List.getD_eq_getElem?_getD, List.getD_eq_getElem?_getD, List.getElem?_map]
    cases xs[i]? <;> rfl
  rw [hg] at hc
  exact ⟨ad, e2, hc 0 _ rfl, by rw [← add_field _ _ 1 (by omega)]; exact hc 1 _ rfl, by rw [← add_field _ _ 2 (by omega)]; exact hc 2 _ rfl, by rw [← add_field _ _ 3 (by omega)]; exact hc 3 _ rfl, by rw [← add_field _ _ 4 (by omega)]; exact hc 4 _ rfl⟩
theorem info38R : (Try.prog.info? 38).map (fun i => (i.zero, i.size, i.bytes)) = some (some (.agg #[.int .i64 0, .int .i64 0, .int .i64 0]), 3, 24) := by kernel_rfl
theorem kHdr_38 : ∀ q, q ∈ 172 :: kHdr.E → q ≠ 38 := by decide
theorem kSpot_172 : ∀ q, q ∈ 38 :: kSpot.E → q ≠ 172 := by decide
theorem kEnd_38 : ∀ q, q ∈ 67 :: kEnd.E → q ≠ 38 := by decide
theorem kEnd_172 : ∀ q, q ∈ 67 :: kEnd.E → q ≠ 172 := by decide
theorem below_low {a b : Nat} {w w1 w2 : World} (h : Below a w w1) (k : Below b w1 w2) (hab : a ≤ b) : Below a w w2 :=
  h.trans ⟨k.os, k.tape, k.output, k.size, fun i hi => k.block i (Nat.lt_of_lt_of_le hi hab)⟩
/-- Amid a round. B: from where on the new line lies; xb: a block that is none of the rows'. -/
structure RX (w : World) (nv : List Value) (B xb : Nat) (W : World) (v7 v10 vl : Value) (out : List SpotT) (next line : List ItemT) : Prop where
  net : Bx W w.heap.size nv
  o : kSpot.R 38 W (w.heap.size + 2) (fun k => k ≠ xb) v7 out
  nx : kHdr.R 172 W B (fun k => k ≠ xb) v10 (next.map hR)
  l : kHdr.R 172 W (w.heap.size + 2) (fun k => k < B) vl (line.map hR)
  b0 : Below w.heap.size w W
  hB : w.heap.size + 2 ≤ B
  hW : B ≤ W.heap.size
section
variable {w W W1 : World} {nv : List Value} {B xb : Nat} {v7 v10 vl v1 : Value} {out : List SpotT} {next line : List ItemT}
theorem RX.below (h : RX w nv B xb W v7 v10 vl out next line) (hb : Below W.heap.size W W1) : RX w nv B xb W1 v7 v10 vl out next line :=
  ⟨h.net.below hb, Kd.R_below h.o hb, Kd.R_below h.nx hb, Kd.R_below h.l hb, below_more h.b0 hb, h.hB, Nat.le_trans h.hW hb.size⟩
theorem RX.box (h : RX w nv B xb W v7 v10 vl out next line) : RX w nv B W.heap.size W v7 v10 vl out next line :=
  ⟨h.net, Kd.R_mono (Kd.R_bound h.o) (fun k hk => by have := hk.2.2.1; omega), Kd.R_mono (Kd.R_bound h.nx) (fun k hk => by have := hk.2.2.1; omega), h.l, h.b0, h.hB, h.hW⟩
theorem RX.unbox (h : RX w nv B xb W v7 v10 vl out next line) : RX w nv B w.heap.size W v7 v10 vl out next line :=
  ⟨h.net, Kd.R_mono (Kd.R_bound h.o) (fun k hk => by have := hk.2.1; omega), Kd.R_mono (Kd.R_bound h.nx) (fun k hk => by have := hk.2.1; have := h.hB; omega), h.l, h.b0, h.hB, h.hW⟩
theorem RX.addOut {p : SpotT} (h : RX w nv B xb W v7 v10 vl out next line) (ho : kSpot.R 38 W1 (w.heap.size + 2) (fun k => k ≠ xb) v1 (out ++ [p])) (hb : Below (w.heap.size + 2) W W1) (hg : W.grownBy W1 v7.ownBlock) : RX w nv B xb W1 v1 v10 vl (out ++ [p]) next line :=
  ⟨h.net.grownP hg (fun e => by have := Kd.R_base h.o _ e.symm; omega), ho, Kd.R_over h.nx h.o kHdr_38 hg, Kd.R_over h.l h.o kHdr_38 hg, below_low h.b0 hb (by omega), h.hB, Nat.le_trans h.hW hb.size⟩
theorem RX.addNext {x : ItemT} (h : RX w nv B xb W v7 v10 vl out next line) (hn : kHdr.R 172 W1 B (fun k => k ≠ xb) v1 ((next ++ [x]).map hR)) (hb : Below B W W1) (hg : W.grownBy W1 v10.ownBlock) : RX w nv B xb W1 v7 v1 vl out (next ++ [x]) line :=
  ⟨h.net.grownP hg (fun e => by have := Kd.R_base h.nx _ e.symm; have := h.hB; omega), Kd.R_over h.o h.nx kSpot_172 hg, hn, Kd.R_grown h.l hg (fun k hk e => by have := Kd.R_base h.nx _ e.symm; omega), below_low h.b0 hb (by have := h.hB; omega), h.hB, Nat.le_trans h.hW hb.size⟩
end
/-- Amid the loop over the ends across: the line's own way lies in block xb, the ends in a row from eb on. -/
structure RY (w : World) (nv : List Value) (B xb : Nat) (cv : List Value) (eb : Nat) (ve : Value) (E : List EndT) (W : World) (v7 v10 vl : Value) (out : List SpotT) (next line : List ItemT) : Prop where
  rx : RX w nv B xb W v7 v10 vl out next line
  c : Bx W xb cv
  e : kEnd.R 67 W eb (fun _ => True) ve E
section
variable {w W W1 : World} {nv cv : List Value} {B xb eb : Nat} {ve v7 v10 vl v1 : Value} {E : List EndT} {out : List SpotT} {next line : List ItemT}
theorem RY.below (h : RY w nv B xb cv eb ve E W v7 v10 vl out next line) (hb : Below W.heap.size W W1) : RY w nv B xb cv eb ve E W1 v7 v10 vl out next line :=
  ⟨h.rx.below hb, h.c.below hb, Kd.R_below h.e hb⟩
theorem RY.addOut {p : SpotT} (h : RY w nv B xb cv eb ve E W v7 v10 vl out next line) (ho : kSpot.R 38 W1 (w.heap.size + 2) (fun k => k ≠ xb) v1 (out ++ [p])) (hb : Below (w.heap.size + 2) W W1) (hg : W.grownBy W1 v7.ownBlock) : RY w nv B xb cv eb ve E W1 v1 v10 vl (out ++ [p]) next line :=
  ⟨h.rx.addOut ho hb hg, h.c.grownP hg (fun e => h.rx.o.1 _ e.symm rfl), Kd.R_over h.e h.rx.o kEnd_38 hg⟩
theorem RY.addNext {x : ItemT} (h : RY w nv B xb cv eb ve E W v7 v10 vl out next line) (hn : kHdr.R 172 W1 B (fun k => k ≠ xb) v1 ((next ++ [x]).map hR)) (hb : Below B W W1) (hg : W.grownBy W1 v10.ownBlock) : RY w nv B xb cv eb ve E W1 v7 v1 vl out (next ++ [x]) line :=
  ⟨h.rx.addNext hn hb hg, h.c.grownP hg (fun e => h.rx.nx.1 _ e.symm rfl), Kd.R_over h.e h.rx.nx kEnd_172 hg⟩
end
theorem R_one172 (W : World) (x : ItemT) {base g : Nat} (hg : g = W.heap.size) (hb : base ≤ W.heap.size) : kHdr.R 172 (W.alloc (.cells #[.int .i64 x.1.piece, .int .i64 x.1.at_, .int .i64 x.1.way, .int .i64 x.2, .slice none 0 0] 172)) base (fun _ => True) (.slice (some ⟨g, 0, none⟩) 1 1) ([x].map hR) := R_hdrR W (hR x) hg hb
def inL {α : Type} [DecidableEq α] (l : List α) (x : α) : Bool := decide (x ∈ l)
theorem inL_nil {α : Type} [DecidableEq α] (l : List α) (x : α) : inL (l.take 0) x = false := by simp [inL]
theorem inL_next {α : Type} [DecidableEq α] [Inhabited α] (l : List α) (x y : α) (j : Nat) (hj : j < l.length) (hy : y = l.getD j default) : inL (l.take (j + 1)) x = (inL (l.take j) x || decide (y = x)) := by
  unfold inL
  rw [take_getD l j hj, ← hy]
  by_cases h1 : x ∈ l.take j
  · simp [h1]
  · by_cases h2 : y = x
    · simp [h1, h2]
    · simp [h1, h2, Ne.symm h2]
theorem inL_yes {α : Type} [DecidableEq α] [Inhabited α] {l : List α} {x y : α} {j : Nat} (h : inL (l.take (j + 1)) x = (inL (l.take j) x || decide (y = x))) (e : y = x) : inL (l.take (j + 1)) x = true := by rw [h, e]; simp
theorem inL_no {α : Type} [DecidableEq α] [Inhabited α] {l : List α} {x y : α} {j : Nat} (h : inL (l.take (j + 1)) x = (inL (l.take j) x || decide (y = x))) (h0 : false = inL (l.take j) x) (e : ¬ y = x) : inL (l.take (j + 1)) x = false := by rw [h, ← h0]; simp [e]
theorem inL_was {α : Type} [DecidableEq α] [Inhabited α] {l : List α} {x y : α} {j : Nat} (h : inL (l.take (j + 1)) x = (inL (l.take j) x || decide (y = x))) (h0 : true = inL (l.take j) x) : inL (l.take (j + 1)) x = true := by rw [h, ← h0]; rfl
theorem addR_in {α : Type} [DecidableEq α] {l : List α} {x : α} (h : inL l x = true) : addR l x = l := by unfold addR; unfold inL at h; rw [if_pos (by simpa using h)]
theorem addR_new {α : Type} [DecidableEq α] {l : List α} {x : α} (h : inL l x = false) : addR l x = l ++ [x] := by unfold addR; unfold inL at h; rw [if_neg (by simpa using h)]
end Go.Proofs.Ytckcffjnffcjcaa
