/- Texts of this work, of each what the claim leans on: Costs, PlLaw, StrDef, ShortLaw, StretchLaw, FromLaw, Pl1, Pl2, PlStep, Hdr, PlMap, Pl3, ShpL. No conditions. -/
import Derived.Test.YtckcffjnffcjcaaVSh7
import Derived.Deep.RegionHeld3
import Derived.Outline
set_option linter.unusedVariables false
set_option linter.unusedSimpArgs false
namespace Go.Proofs.Ytckcffjnffcjcaa
theorem lk_dl {κ ν : Type} [DecidableEq κ] (l : List (κ × ν)) (k k' : κ) : lk (dl l k) k' = if k = k' then none else lk l k' := by
  unfold dl
  induction l with
  | nil => simp [lk]
  | cons p l ih =>
    simp only [List.filter_cons]
    by_cases h : p.1 = k
    · rw [if_neg (by simp [h]), ih]
      by_cases h2 : k = k'
      · rw [if_pos h2, if_pos h2]
      · rw [if_neg h2, if_neg h2]
        simp only [lk]
        rw [if_neg (by rw [h]; exact h2)]
    · rw [if_pos (by simp [h])]
      simp only [lk, ih]
      by_cases h2 : k = k'
      · rw [if_pos h2, if_neg (by rw [← h2]; exact h), if_pos h2]
      · rw [if_neg h2, if_neg h2]
abbrev CostT := Int × Int
def ltC (a b : CostT) : Bool := decide (a.1 < b.1 ∨ a.1 = b.1 ∧ a.2 < b.2)
theorem ltC_iff {a b : CostT} : ltC a b = true ↔ a.1 < b.1 ∨ a.1 = b.1 ∧ a.2 < b.2 := by unfold ltC; simp
def leC (a b : CostT) : Prop := a.1 < b.1 ∨ a.1 = b.1 ∧ a.2 ≤ b.2
theorem leC_iff {a b : CostT} : leC a b ↔ ltC b a = false := by
  rw [Bool.eq_false_iff, ne_eq, ltC_iff]; unfold leC; omega
theorem leC_refl (a : CostT) : leC a a := by unfold leC; omega
theorem leC_trans {a b c : CostT} (h : leC a b) (h2 : leC b c) : leC a c := by unfold leC at *; omega
theorem leC_antisymm {a b : CostT} (h : leC a b) (h2 : leC b a) : a = b := by
  unfold leC at *
  obtain ⟨a1, a2⟩ := a
  obtain ⟨b1, b2⟩ := b
  simp only at h h2
  simp only [Prod.mk.injEq]
  omega
theorem ltC_le {a b : CostT} (h : ltC a b = true) : leC a b := by rw [ltC_iff] at h; unfold leC; omega
inductive Cst (n : NetT) (fin : StepT) (inb : Int) : StepT → CostT → Prop
  | here : Cst n fin inb fin (inb, 1)
  | step {s t : StepT} {c : CostT} : t ∈ succS n s → Cst n fin inb t c → Cst n fin inb s (c.1 + lenS n s, c.2 + 1)
structure MinC (n : NetT) (fin : StepT) (inb : Int) (s : StepT) (c : CostT) : Prop where
  is : Cst n fin inb s c
  le : ∀ c', Cst n fin inb s c' → leC c c'
def relaxD (n : NetT) (known : List (StepT × CostT)) (c : CostT) (opn : List (StepT × CostT)) (t : StepT) : List (StepT × CostT) :=
  if (lk known t).isSome = true then opn
  else match lk opn t with
    | some o => if ltC (c.1 + lenS n t, c.2 + 1) o = true then up opn t (c.1 + lenS n t, c.2 + 1) else opn
    | none => up opn t (c.1 + lenS n t, c.2 + 1)
def stepD (n : NetT) (known opn : List (StepT × CostT)) (s : StepT) (c : CostT) : List (StepT × CostT) :=
  (acrossE n (beginS s)).foldl (fun o e => relaxD n (up known s c) c o (outS e)) (dl opn s)
structure DInv (n : NetT) (fin : StepT) (inb : Int) (known opn : List (StepT × CostT)) : Prop where
  kmin : ∀ s c, lk known s = some c → MinC n fin inb s c
  ocst : ∀ s c, lk opn s = some c → Cst n fin inb s c
  kok : ∀ s c, lk known s = some c → stepB n s = true
  ook : ∀ s c, lk opn s = some c → stepB n s = true
  dis : ∀ s c, lk opn s = some c → lk known s = none
  pred : ∀ s c t, lk known s = some c → stepB n t = true → s ∈ succS n t → (∃ c', lk known t = some c') ∨ ∃ c', lk opn t = some c' ∧ leC c' (c.1 + lenS n t, c.2 + 1)
  fin_ : (∃ c, lk known fin = some c) ∨ ∃ c', lk opn fin = some c' ∧ leC c' (inb, 1)
  bdk : ∀ s c, lk known s = some c → 0 ≤ c.1 ∧ c.1 ≤ 10000000 * ((known.length : Int) + 1) ∧ 1 ≤ c.2 ∧ c.2 ≤ (known.length : Int) + 1
  bdo : ∀ s c, lk opn s = some c → 0 ≤ c.1 ∧ c.1 ≤ 10000000 * ((known.length : Int) + 1) ∧ 1 ≤ c.2 ∧ c.2 ≤ (known.length : Int) + 1
  nd : (known.map (·.1)).Nodup
section
variable {n : NetT} {fin : StepT} {inb : Int}
theorem DInv.start (hf : stepB n fin = true) (h0 : 0 ≤ inb) (h1 : inb ≤ 10000000) : DInv n fin inb [] [(fin, (inb, 1))] := by
  have key : ∀ s c, lk [(fin, ((inb, 1) : CostT))] s = some c → s = fin ∧ c = (inb, 1) := fun s c h => by
    simp only [lk] at h
    split at h
    · rename_i e; injection h with h; exact ⟨e.symm, h.symm⟩
    · cases h
  refine ⟨fun s c h => by simp [lk] at h, fun s c h => ?_, fun s c h => by simp [lk] at h, fun s c h => ?_, fun s c h => rfl, fun s c t h => by simp [lk] at h, .inr ⟨_, by simp only [lk, if_pos], leC_refl _⟩, fun s c h => by simp [lk] at h, fun s c h => ?_, by simp⟩
  · obtain ⟨rfl, rfl⟩ := key s c h; exact .here
  · obtain ⟨rfl, rfl⟩ := key s c h; exact hf
  · obtain ⟨rfl, rfl⟩ := key s c h; simp; omega
theorem DInv.reach (hg : Good n) {known opn : List (StepT × CostT)} (h : DInv n fin inb known opn) {s : StepT} {c : CostT} (hc : Cst n fin inb s c) (hs : stepB n s = true) :
    (∃ ck, lk known s = some ck) ∨ ∃ t ct, lk opn t = some ct ∧ leC ct c := by
  induction hc with
  | here =>
    rcases h.fin_ with ⟨c, hk⟩ | ⟨c', h1, h2⟩
    · exact .inl ⟨c, hk⟩
    · exact .inr ⟨_, c', h1, h2⟩
  | @step s t c ht hct ih =>
    have ht' := succ_ok hg hs ht
    have hl := hg.lenS hs
    rcases ih ht' with ⟨ck, hk⟩ | ⟨t', ct, h1, h2⟩
    · rcases h.pred t ck s hk hs ht with h3 | ⟨c', h3, h4⟩
      · exact .inl h3
      · refine .inr ⟨s, c', h3, leC_trans h4 ?_⟩
        have := (h.kmin t ck hk).le c hct
        unfold leC at *
        simp only
        omega
    · refine .inr ⟨t', ct, h1, leC_trans h2 ?_⟩
      unfold leC
      simp only
      omega
theorem DInv.pick (hg : Good n) {known opn : List (StepT × CostT)} (h : DInv n fin inb known opn) {s : StepT} {c : CostT} (hs : lk opn s = some c) (hm : ∀ t ct, lk opn t = some ct → leC c ct) : MinC n fin inb s c := by
  refine ⟨h.ocst s c hs, fun c' hc' => ?_⟩
  rcases h.reach hg hc' (h.ook s c hs) with ⟨ck, hk⟩ | ⟨t, ct, h1, h2⟩
  · rw [h.dis s c hs] at hk; cases hk
  · exact leC_trans (hm t ct h1) h2
theorem lk_relaxD {known opn : List (StepT × CostT)} {c : CostT} {t : StepT} (q : StepT) :
    lk (relaxD n known c opn t) q = lk opn q ∨ (q = t ∧ lk known t = none ∧ lk (relaxD n known c opn t) q = some (c.1 + lenS n t, c.2 + 1) ∧ ∀ o, lk opn t = some o → leC (c.1 + lenS n t, c.2 + 1) o) := by
  unfold relaxD
  split
  · exact .inl rfl
  · rename_i hk
    have hk' : lk known t = none := by
      cases e : lk known t with
      | none => rfl
      | some v => rw [e] at hk; exact absurd rfl hk
    split
    · rename_i o ho
      split
      · rename_i hl
        rw [lk_up]
        by_cases e : t = q
        · rw [if_pos e]
          refine .inr ⟨e.symm, hk', rfl, fun o' ho' => ?_⟩
          rw [ho] at ho'
          injection ho' with ho'
          subst ho'
          exact ltC_le hl
        · rw [if_neg e]; exact .inl rfl
      · exact .inl rfl
    · rename_i ho
      rw [lk_up]
      by_cases e : t = q
      · rw [if_pos e]
        refine .inr ⟨e.symm, hk', rfl, fun o' ho' => ?_⟩
        rw [ho] at ho'; cases ho'
      · rw [if_neg e]; exact .inl rfl
theorem relaxD_self {known opn : List (StepT × CostT)} {c : CostT} {t : StepT} : (∃ c', lk known t = some c') ∨ ∃ c', lk (relaxD n known c opn t) t = some c' ∧ leC c' (c.1 + lenS n t, c.2 + 1) := by
  unfold relaxD
  split
  · rename_i h
    exact .inl (Option.isSome_iff_exists.1 h)
  · split
    · rename_i o ho
      split
      · exact .inr ⟨_, by rw [lk_up, if_pos rfl], leC_refl _⟩
      · rename_i hl
        refine .inr ⟨o, ho, ?_⟩
        rw [leC_iff]; simpa using hl
    · exact .inr ⟨_, by rw [lk_up, if_pos rfl], leC_refl _⟩
structure DMid (n : NetT) (fin : StepT) (inb : Int) (known : List (StepT × CostT)) (s : StepT) (c : CostT) (ts : List StepT) (opn : List (StepT × CostT)) : Prop where
  ocst : ∀ s c, lk opn s = some c → Cst n fin inb s c
  ook : ∀ s c, lk opn s = some c → stepB n s = true
  dis : ∀ s c, lk opn s = some c → lk known s = none
  pred : ∀ s' c' t, lk known s' = some c' → stepB n t = true → s' ∈ succS n t → (s' = s → t ∈ ts) → (∃ c'', lk known t = some c'') ∨ ∃ c'', lk opn t = some c'' ∧ leC c'' (c'.1 + lenS n t, c'.2 + 1)
  fin_ : (∃ c, lk known fin = some c) ∨ ∃ c', lk opn fin = some c' ∧ leC c' (inb, 1)
  bdo : ∀ s c, lk opn s = some c → 0 ≤ c.1 ∧ c.1 ≤ 10000000 * ((known.length : Int) + 1) ∧ 1 ≤ c.2 ∧ c.2 ≤ (known.length : Int) + 1
theorem DMid.relax (hg : Good n) {known opn : List (StepT × CostT)} {s : StepT} {c : CostT} {ts : List StepT} (h : DMid n fin inb known s c ts opn) (hs : lk known s = some c) (hsok : stepB n s = true) (hsc : Cst n fin inb s c)
    (hb : 0 ≤ c.1 ∧ c.1 ≤ 10000000 * (known.length : Int) ∧ 1 ≤ c.2 ∧ c.2 ≤ (known.length : Int)) {t : StepT} (ht : stepB n t = true) (hst : s ∈ succS n t) :
    DMid n fin inb known s c (ts ++ [t]) (relaxD n known c opn t) := by
  have hl := hg.lenS ht
  refine ⟨fun q cq hq => ?_, fun q cq hq => ?_, fun q cq hq => ?_, fun s' c' t' h1 h2 h3 h4 => ?_, ?_, fun q cq hq => ?_⟩
  · rcases lk_relaxD (n := n) (known := known) (opn := opn) (c := c) (t := t) q with e | ⟨rfl, _, e, _⟩
    · rw [e] at hq; exact h.ocst q cq hq
    · rw [e] at hq; injection hq with hq; subst hq; exact .step hst hsc
  · rcases lk_relaxD (n := n) (known := known) (opn := opn) (c := c) (t := t) q with e | ⟨rfl, _, e, _⟩
    · rw [e] at hq; exact h.ook q cq hq
    · exact ht
  · rcases lk_relaxD (n := n) (known := known) (opn := opn) (c := c) (t := t) q with e | ⟨rfl, e0, e, _⟩
    · rw [e] at hq; exact h.dis q cq hq
    · exact e0
  · by_cases hn : s' = s ∧ t' = t
    · obtain ⟨rfl, rfl⟩ := hn
      rw [hs] at h1
      injection h1 with h1
      subst h1
      exact relaxD_self
    · have hmem : s' = s → t' ∈ ts := fun e => by
        rcases List.mem_append.1 (h4 e) with h5 | h5
        · exact h5
        · exact absurd ⟨e, by simpa using h5⟩ hn
      rcases h.pred s' c' t' h1 h2 h3 hmem with h5 | ⟨c'', h5, h6⟩
      · exact .inl h5
      · rcases lk_relaxD (n := n) (known := known) (opn := opn) (c := c) (t := t) t' with e | ⟨rfl, _, e, e2⟩
        · exact .inr ⟨c'', by rw [e]; exact h5, h6⟩
        · exact .inr ⟨_, e, leC_trans (e2 c'' h5) h6⟩
  · rcases h.fin_ with h5 | ⟨c'', h5, h6⟩
    · exact .inl h5
    · rcases lk_relaxD (n := n) (known := known) (opn := opn) (c := c) (t := t) fin with e | ⟨rfl, _, e, e2⟩
      · exact .inr ⟨c'', by rw [e]; exact h5, h6⟩
      · exact .inr ⟨_, e, leC_trans (e2 c'' h5) h6⟩
  · rcases lk_relaxD (n := n) (known := known) (opn := opn) (c := c) (t := t) q with e | ⟨rfl, _, e, _⟩
    · rw [e] at hq; exact h.bdo q cq hq
    · rw [e] at hq; injection hq with hq; subst hq; simp only; omega
theorem DMid.relaxAll (hg : Good n) {known : List (StepT × CostT)} {s : StepT} {c : CostT} (hs : lk known s = some c) (hsok : stepB n s = true) (hsc : Cst n fin inb s c)
    (hb : 0 ≤ c.1 ∧ c.1 ≤ 10000000 * (known.length : Int) ∧ 1 ≤ c.2 ∧ c.2 ≤ (known.length : Int)) :
    ∀ (es : List EndT), (∀ e ∈ es, stepB n (outS e) = true ∧ s ∈ succS n (outS e)) → ∀ {opn : List (StepT × CostT)} {ts : List StepT}, DMid n fin inb known s c ts opn →
    DMid n fin inb known s c (ts ++ es.map outS) (es.foldl (fun o e => relaxD n known c o (outS e)) opn)
  | [], _, opn, ts, h => by simpa using h
  | e :: es, he, opn, ts, h => by
    have h1 := h.relax hg hs hsok hsc hb (he e (by simp)).1 (he e (by simp)).2
    have h2 := DMid.relaxAll hg hs hsok hsc hb es (fun x hx => he x (by simp [hx])) h1
    simpa using h2
theorem DInv.step (hg : Good n) {known opn : List (StepT × CostT)} (h : DInv n fin inb known opn) {s : StepT} {c : CostT} (hs : lk opn s = some c) (hm : ∀ t ct, lk opn t = some ct → leC c ct) :
    DInv n fin inb (up known s c) (stepD n known opn s c) ∧ (up known s c).length = known.length + 1 := by
  have hmin := h.pick hg hs hm
  have hsok := h.ook s c hs
  have hks : ∀ p ∈ known, p.1 ≠ s := fun p hp e => by
    have := h.dis s c hs
    have h2 : (lk known s).isSome = true := lk_isSome.2 (List.mem_map.2 ⟨p, hp, e⟩)
    rw [this] at h2; cases h2
  have hlen : (up known s c).length = known.length + 1 := by rw [up_none hks]; simp
  have hbs := h.bdo s c hs
  have hku : ∀ q cq, lk (up known s c) q = some cq → (q = s ∧ cq = c) ∨ (lk known q = some cq) := fun q cq hq => by
    rw [lk_up] at hq
    split at hq
    · rename_i e; injection hq with hq; exact .inl ⟨e.symm, hq.symm⟩
    · exact .inr hq
  have hkm : ∀ q cq, lk known q = some cq → lk (up known s c) q = some cq := fun q cq hq => by
    rw [lk_up, if_neg]
    · exact hq
    · rintro rfl
      rw [h.dis s c hs] at hq; cases hq
  have hss : lk (up known s c) s = some c := by rw [lk_up, if_pos rfl]
  have hpreds : ∀ e ∈ acrossE n (beginS s), stepB n (outS e) = true ∧ s ∈ succS n (outS e) := fun e he => by
    have := hg.across (beginS_ok hsok) he
    have ho := outS_ok this.1
    exact ⟨ho, (succ_iff hg hsok ho).2 (by rw [look_out this.1]; exact he)⟩
  have hmid : DMid n fin inb (up known s c) s c [] (dl opn s) := by
    have hd : ∀ q cq, lk (dl opn s) q = some cq → q ≠ s ∧ lk opn q = some cq := fun q cq hq => by
      rw [lk_dl] at hq
      split at hq
      · cases hq
      · rename_i e; exact ⟨Ne.symm e, hq⟩
    have hd2 : ∀ q, q ≠ s → lk (dl opn s) q = lk opn q := fun q hq => by rw [lk_dl, if_neg (Ne.symm hq)]
    refine ⟨fun q cq hq => h.ocst q cq (hd q cq hq).2, fun q cq hq => h.ook q cq (hd q cq hq).2, fun q cq hq => ?_, fun s' c' t h1 h2 h3 h4 => ?_, ?_, fun q cq hq => ?_⟩
    · rw [lk_up, if_neg (Ne.symm (hd q cq hq).1)]
      exact h.dis q cq (hd q cq hq).2
    · rcases hku s' c' h1 with ⟨e, _⟩ | h5
      · exact absurd (h4 e) (by simp)
      · by_cases et : t = s
        · subst et; exact .inl ⟨c, hss⟩
        · rcases h.pred s' c' t h5 h2 h3 with ⟨c'', h6⟩ | ⟨c'', h6, h7⟩
          · exact .inl ⟨c'', hkm t c'' h6⟩
          · exact .inr ⟨c'', by rw [hd2 t et]; exact h6, h7⟩
    · by_cases et : fin = s
      · subst et; exact .inl ⟨c, hss⟩
      · rcases h.fin_ with ⟨c'', h6⟩ | ⟨c'', h6, h7⟩
        · exact .inl ⟨c'', hkm _ c'' h6⟩
        · exact .inr ⟨c'', by rw [hd2 _ et]; exact h6, h7⟩
    · have := h.bdo q cq (hd q cq hq).2
      rw [hlen]
      push_cast
      omega
  have hend := DMid.relaxAll hg hss hsok hmin.is (by rw [hlen]; push_cast; omega) (acrossE n (beginS s)) hpreds hmid
  refine ⟨⟨fun q cq hq => ?_, hend.ocst, fun q cq hq => ?_, hend.ook, hend.dis, fun s' c' t h1 h2 h3 => ?_, hend.fin_, fun q cq hq => ?_, hend.bdo, up_nodup h.nd s c⟩, hlen⟩
  · rcases hku q cq hq with ⟨rfl, rfl⟩ | h5
    · exact hmin
    · exact h.kmin q cq h5
  · rcases hku q cq hq with ⟨rfl, rfl⟩ | h5
    · exact hsok
    · exact h.kok q cq h5
  · refine hend.pred s' c' t h1 h2 h3 fun e => ?_
    subst e
    have := (succ_iff hg hsok h2).1 h3
    simp only [List.nil_append]
    exact List.mem_map.2 ⟨lookS t, this, out_look h2⟩
  · rw [hlen]
    rcases hku q cq hq with ⟨rfl, rfl⟩ | h5
    · push_cast; omega
    · have := h.bdk q cq h5
      push_cast; omega
theorem DInv.few {known opn : List (StepT × CostT)} (h : DInv n fin inb known opn) : known.length ≤ 2 * n.pieces.length := by
  have := nodup_steps (n := n) h.nd (fun t ht => by
    obtain ⟨c, hc⟩ := Option.isSome_iff_exists.1 (lk_isSome.2 ht)
    exact h.kok t c hc)
  simpa using this
structure Costs (n : NetT) (fin : StepT) (inb : Int) (known : List (StepT × CostT)) : Prop where
  some_ : ∀ s c, lk known s = some c → MinC n fin inb s c ∧ stepB n s = true ∧ 0 ≤ c.1 ∧ c.1 ≤ 2010000000 ∧ 1 ≤ c.2 ∧ c.2 ≤ 201
  all : ∀ s c, stepB n s = true → Cst n fin inb s c → ∃ ck, lk known s = some ck
theorem DInv.stop (hg : Good n) {known opn : List (StepT × CostT)} (h : DInv n fin inb known opn) (ho : ∀ s, lk opn s = none) : Costs n fin inb known := by
  have hf := h.few
  have hp := hg.p1
  refine ⟨fun s c hc => ⟨h.kmin s c hc, h.kok s c hc, ?_⟩, fun s c hs hc => ?_⟩
  · have := h.bdk s c hc
    omega
  · rcases h.reach hg hc hs with h1 | ⟨t, ct, h1, _⟩
    · exact h1
    · rw [ho t] at h1; cases h1
structure IsPick (n : NetT) (known : List (StepT × CostT)) (s t : StepT) (c : CostT) : Prop where
  k : lk known t = some c
  m : t ∈ succS n s
  b : ∀ t' c', t' ∈ succS n s → lk known t' = some c' → leC c c' ∧ (c = c' → stepLt t' t = false)
def Gr (n : NetT) (known : List (StepT × CostT)) (fin : StepT) : StepT → List StepT → Prop
  | s, [] => s = fin
  | s, t :: l => s ≠ fin ∧ (∃ c, IsPick n known s t c) ∧ Gr n known fin t l
theorem Cst.path {s : StepT} {m : List StepT} (hf : Follows n s m) (hl : lastS s m = fin) : Cst n fin inb s (weighS n (s :: m) - lenS n fin + inb, (m.length : Int) + 1) := by
  induction m generalizing s with
  | nil =>
    have : s = fin := hl
    subst this
    rw [weighS_one, show lenS n s - lenS n s + inb = inb by omega]
    exact .here
  | cons t m ih =>
    have := Cst.step (s := s) hf.1 (ih hf.2 hl)
    simp only at this
    rw [weighS_cons, List.length_cons]
    have e1 : weighS n (t :: m) - lenS n fin + inb + lenS n s = lenS n s + weighS n (t :: m) - lenS n fin + inb := by omega
    have e2 : (m.length : Int) + 1 + 1 = ((m.length + 1 : Nat) : Int) + 1 := by push_cast; rfl
    rw [e1, e2] at this
    exact this
theorem pick_least {known : List (StepT × CostT)} (hk : Costs n fin inb known) (hg : Good n) {s t : StepT} (hs : stepB n s = true) {c : CostT} (hp : IsPick n known s t c) {l : List StepT}
    (hw : weighS n (t :: l) - lenS n fin + inb = c.1 ∧ (l.length : Int) + 1 = c.2) (hl : ∀ m, Follows n t m → lastS t m = fin → leW n l m) :
    ∀ m, Follows n s m → m ≠ [] → lastS s m = fin → leW n (t :: l) m := by
  intro m hf hne hlast
  cases m with
  | nil => exact absurd rfl hne
  | cons t' m =>
    have hc' := Cst.path (inb := inb) hf.2 hlast
    have ht' := succ_ok hg hs hf.1
    obtain ⟨ck, hck⟩ := hk.all t' _ ht' hc'
    have hmin := (hk.some_ t' ck hck).1
    have h1 := hmin.le _ hc'
    obtain ⟨h2, h3⟩ := hp.b t' ck hf.1 hck
    have h4 := leC_trans h2 h1
    unfold leW
    rw [Bool.eq_false_iff, ne_eq, lessW_iff]
    unfold leC at h4
    simp only at h4
    rintro (h5 | ⟨h5, h6 | ⟨h6, h7⟩⟩)
    · omega
    · simp only [List.length_cons] at h6
      omega
    · simp only [List.length_cons] at h6
      have hceq : c = ck := by
        refine leC_antisymm h2 (leC_trans h1 ?_)
        unfold leC; simp only; omega
      have h8 := h3 hceq
      simp only [lexB] at h7
      split at h7
      · rename_i e
        subst e
        have h9 := hl m hf.2 hlast
        unfold leW at h9
        rw [weighS_cons, weighS_cons] at h5
        have : lessW n m l = true := lessW_iff.2 (.inr ⟨by omega, .inr ⟨by omega, h7⟩⟩)
        rw [this] at h9; cases h9
      · rw [h8] at h7; cases h7
theorem gr_least {known : List (StepT × CostT)} (hk : Costs n fin inb known) (hg : Good n) {l : List StepT} : ∀ {s : StepT} {c : CostT}, lk known s = some c → Gr n known fin s l →
    Follows n s l ∧ lastS s l = fin ∧ (weighS n (s :: l) - lenS n fin + inb = c.1 ∧ (l.length : Int) + 1 = c.2) ∧ ∀ m, Follows n s m → lastS s m = fin → leW n l m := by
  induction l with
  | nil =>
    intro s c hc hgr
    have : s = fin := hgr
    subst this
    obtain ⟨hm, hs, b1, b2, b3, b4⟩ := hk.some_ s c hc
    have h1 := hm.le _ .here
    have hcc : c = (inb, 1) := by
      refine leC_antisymm h1 ?_
      have := hm.is
      have key : ∀ q cq, Cst n s inb q cq → stepB n q = true → leC (inb, 1) cq := by
        intro q cq h
        induction h with
        | here => intro _; exact leC_refl _
        | @step q t cq ht _ ih =>
          intro hq
          have h2 := ih (succ_ok hg hq ht)
          have h3 := hg.lenS hq
          unfold leC at *
          simp only at *
          omega
      exact key s c this hs
    refine ⟨trivial, rfl, ?_, fun m hf hl => ?_⟩
    · rw [hcc, weighS_one]; simp; try omega
    · have h2 := weighS_nonneg hg (follows_ok hg hs hf)
      unfold leW
      rw [Bool.eq_false_iff, ne_eq, lessW_iff]
      have : weighS n ([] : List StepT) = 0 := by simp [weighS]
      rw [this]
      rintro (h5 | ⟨h5, h6 | ⟨h6, h7⟩⟩)
      · omega
      · simp at h6
      · cases m with
        | nil => simp [lexB] at h7
        | cons => simp [lexB] at h7
  | cons t l ih =>
    intro s c hc hgr
    obtain ⟨hne, ⟨ct, hp⟩, hgt⟩ := hgr
    obtain ⟨hm, hs, _⟩ := hk.some_ s c hc
    obtain ⟨i1, i2, i3, i4⟩ := ih hp.k hgt
    have hfw : Follows n s (t :: l) := ⟨hp.m, i1⟩
    refine ⟨hfw, i2, ?_, fun m hf hl => ?_⟩
    · have h1 := hm.le _ (.step hp.m (hk.some_ t ct hp.k).1.is)
      have h2 : leC (ct.1 + lenS n s, ct.2 + 1) c := by
        have := hm.is
        cases this with
        | here => exact absurd rfl hne
        | @step _ t0 c0 ht0 hc0 =>
          obtain ⟨k0, hk0⟩ := hk.all t0 c0 (succ_ok hg hs ht0) hc0
          have h3 := (hk.some_ t0 k0 hk0).1.le _ hc0
          have h4 := leC_trans (hp.b t0 k0 ht0 hk0).1 h3
          unfold leC at *
          simp only
          omega
      have h3 := leC_antisymm h1 h2
      rw [h3, weighS_cons, List.length_cons]
      simp only
      push_cast
      omega
    · refine pick_least hk hg hs hp i3 i4 m hf ?_ hl
      rintro rfl
      exact hne hl
theorem greedy_least {known : List (StepT × CostT)} (hk : Costs n fin inb known) (hg : Good n) {s t : StepT} (hs : stepB n s = true) {c : CostT} (hp : IsPick n known s t c) {l : List StepT} (hgr : Gr n known fin t l) :
    Least n s fin (t :: l) ∧ c.1 = weighS n (t :: l) - lenS n fin + inb := by
  obtain ⟨i1, i2, i3, i4⟩ := gr_least hk hg hp.k hgr
  exact ⟨⟨⟨hp.m, i1⟩, by simp, i2, pick_least hk hg hs hp i3 i4⟩, i3.1.symm⟩
theorem no_pick {known : List (StepT × CostT)} (hk : Costs n fin inb known) (hg : Good n) {s : StepT} (hs : stepB n s = true) (hn : ∀ t ∈ succS n s, lk known t = none) : NoWalk n s fin := by
  intro m hf hne hl
  cases m with
  | nil => exact hne rfl
  | cons t m =>
    obtain ⟨ck, h⟩ := hk.all t _ (succ_ok hg hs hf.1) (Cst.path (inb := inb) hf.2 hl)
    rw [hn t hf.1] at h; cases h
theorem goes_on {known : List (StepT × CostT)} (hk : Costs n fin inb known) (hg : Good n) {s : StepT} {c : CostT} (hc : lk known s = some c) (hne : s ≠ fin) : ∃ t ∈ succS n s, ∃ ct, lk known t = some ct ∧ ct.2 < c.2 := by
  obtain ⟨hm, hs, _⟩ := hk.some_ s c hc
  have := hm.is
  cases this with
  | here => exact absurd rfl hne
  | @step _ t0 c0 ht0 hc0 =>
    obtain ⟨k0, hk0⟩ := hk.all t0 c0 (succ_ok hg hs ht0) hc0
    refine ⟨t0, ht0, k0, hk0, ?_⟩
    have h1 := (hk.some_ t0 k0 hk0).1
    have h2 := h1.le _ hc0
    have h3 := hm.le _ (.step ht0 h1.is)
    unfold leC at h2 h3
    simp only at h3
    simp only
    omega
end
end Go.Proofs.Ytckcffjnffcjcaa
namespace Go.Proofs.Ytckcffjnffcjcaa
def stepLie (n : NetT) (s t : StepT) : Option (Option LieT) :=
  if beginS t ∈ acrossE n (lookS s) then
    (if (jOf n (lookS s)).kind = 3 then some (some ⟨(iOf n (lookS s) : Int), (kOf n (lookS s) : Int) + (kOf n (beginS t) : Int)⟩) else some none)
  else none
def addLie (out : List LieT) (x : LieT) : Option (List LieT) :=
  if out.any (fun y => decide (y.joint = x.joint ∧ y.lie ≠ x.lie)) = true then none
  else if out.any (fun y => decide (y.joint = x.joint)) = true then some out
  else some (out ++ [x])
def liesGo (n : NetT) : StepT → List StepT → List LieT → Option (List LieT)
  | _, [], out => some out
  | s, t :: l, out => match stepLie n s t with
    | none => none
    | some none => liesGo n t l out
    | some (some x) => match addLie out x with
      | none => none
      | some o => liesGo n t l o
def liesAll (n : NetT) : List StepT → Option (List LieT)
  | [] => some []
  | s :: l => liesGo n s l []
def stepsB (n : NetT) (l : List StepT) : Bool := decide (l.length ≤ 400) && l.all (stepB n)
theorem addLie_len {out o : List LieT} {x : LieT} (h : addLie out x = some o) : o.length ≤ out.length + 1 := by
  unfold addLie at h
  split at h
  · cases h
  · split at h
    · injection h with h; subst h; omega
    · injection h with h; subst h; simp
theorem how_at {n : NetT} (hg : Good n) {a : EndT} (ha : endB n a = true) {q : Nat} (hq : q < (acrossE n a).length) :
    q < (howJ (jOf n a) (kOf n a)).length ∧ (if (jOf n a).kind = 3 then (howJ (jOf n a) (kOf n a)).getD q 0 = (kOf n a : Int) + (kOf n ((acrossE n a).getD q default) : Int) ∧ (howJ (jOf n a) (kOf n a)).getD q 0 ≠ 0 else (howJ (jOf n a) (kOf n a)).getD q 0 = 0) := by
  obtain ⟨i, p, hat⟩ := hg.at_ ha
  obtain ⟨k1, k2, k3, k4⟩ := hg.kindAt hat.hi
  have hpq := hat.hq
  unfold acrossE at hq ⊢
  rw [hat.j, hat.k] at hq ⊢
  unfold acrossJ howJ at *
  split at hq
  · rename_i hk
    simp only [hk, if_true]
    simp only [List.length_cons, List.length_nil] at hq
    obtain rfl : q = 0 := by omega
    simp
  · split at hq
    · rename_i hk2 hk
      rw [hk] at k3
      simp only [hk, if_true, if_false, show ¬ ((3 : Int) = 2) by omega]
      split at hq
      · rename_i hp0
        subst hp0
        simp only [List.length_cons, List.length_nil] at hq
        have : q = 0 ∨ q = 1 := by omega
        rcases this with rfl | rfl
        · have hp := hg.place hat.hi (q := 1) (by omega)
          refine ⟨by simp, ?_, by simp⟩
          show (1 : Int) = ((0 : Nat) : Int) + (kOf n ((n.joints.getD i default).ends.getD 1 default) : Int)
          rw [hp.k]; rfl
        · have hp := hg.place hat.hi (q := 2) (by omega)
          refine ⟨by simp, ?_, by simp⟩
          show (2 : Int) = ((0 : Nat) : Int) + (kOf n ((n.joints.getD i default).ends.getD 2 default) : Int)
          rw [hp.k]; rfl
      · rename_i hp0
        simp only [List.length_cons, List.length_nil] at hq
        obtain rfl : q = 0 := by omega
        have hp := hg.place hat.hi (q := 0) (by omega)
        refine ⟨by simp [hp0], ?_, ?_⟩
        · rw [if_neg hp0, if_neg hp0]
          show (p : Int) = (p : Int) + (kOf n ((n.joints.getD i default).ends.getD 0 default) : Int)
          rw [hp.k]; simp
        · rw [if_neg hp0]
          simp; omega
    · split at hq
      · rename_i hk2 hk3 hk
        simp only [hk, if_true, if_false, show ¬ ((4 : Int) = 2) by omega, show ¬ ((4 : Int) = 3) by omega]
        simp only [List.length_cons, List.length_nil] at hq
        obtain rfl : q = 0 := by omega
        simp
      · simp at hq
theorem comes_eq {n : NetT} {e : EndT} (he : endB n e = true) {t : StepT} (ht : stepB n t = true) : comesS e = t ↔ e = beginS t :=
  ⟨fun h => by rw [← h, begin_comes he], fun h => by rw [h, comes_begin ht]⟩
theorem stepLie_none {n : NetT} (hg : Good n) {s t : StepT} (hs : stepB n s = true) (ht : stepB n t = true) (h : ∀ e ∈ acrossE n (lookS s), comesS e ≠ t) : stepLie n s t = none := by
  unfold stepLie
  rw [if_neg]
  intro hm
  exact h _ hm (comes_begin ht)
theorem stepLie_some {n : NetT} (hg : Good n) {s t : StepT} (hs : stepB n s = true) (ht : stepB n t = true) {q : Nat} (hq : q < (acrossE n (lookS s)).length) (h : comesS ((acrossE n (lookS s)).getD q default) = t) :
    stepLie n s t = if (howJ (jOf n (lookS s)) (kOf n (lookS s))).getD q 0 = 0 then some none else some (some ⟨(iOf n (lookS s) : Int), (howJ (jOf n (lookS s)) (kOf n (lookS s))).getD q 0⟩) := by
  have ha := lookS_ok hs
  obtain ⟨h1, h2⟩ := how_at hg ha hq
  have hm := getD_mem (acrossE n (lookS s)) q hq
  have hb : (acrossE n (lookS s)).getD q default = beginS t := (comes_eq (hg.across ha hm).1 ht).1 h
  unfold stepLie
  rw [if_pos (by rw [← hb]; exact hm)]
  by_cases hk : (jOf n (lookS s)).kind = 3
  · rw [if_pos hk] at h2 ⊢
    rw [if_neg h2.2, h2.1, hb]
  · rw [if_neg hk] at h2 ⊢
    rw [if_pos h2]
def LiesOf (lm : List (Int × Int)) (out : List LieT) : Prop := ∀ j v, lk lm j = some v ↔ (⟨j, v⟩ : LieT) ∈ out
theorem LiesOf.nil : LiesOf [] [] := fun j v => by simp [lk]
theorem LiesOf.has {lm : List (Int × Int)} {out : List LieT} (h : LiesOf lm out) {x : LieT} {v : Int} (hv : lk lm x.joint = some v) : addLie out x = if v = x.lie then some out else none := by
  have hm := (h _ _).1 hv
  unfold addLie
  by_cases he : v = x.lie
  · rw [if_pos he, if_neg, if_pos]
    · rw [List.any_eq_true]; exact ⟨_, hm, by simp⟩
    · rw [List.any_eq_true]
      rintro ⟨y, hy, h1⟩
      simp only [decide_eq_true_eq] at h1
      obtain ⟨yj, yl⟩ := y
      simp only at h1
      have := (h _ _).2 hy
      rw [h1.1, hv] at this
      injection this with this
      omega
  · rw [if_neg he, if_pos]
    rw [List.any_eq_true]
    exact ⟨_, hm, by simp [he]⟩
theorem LiesOf.lacks {lm : List (Int × Int)} {out : List LieT} (h : LiesOf lm out) {x : LieT} (hv : lk lm x.joint = none) : addLie out x = some (out ++ [x]) := by
  have hn : ∀ y ∈ out, y.joint ≠ x.joint := fun y hy he => by
    obtain ⟨yj, yl⟩ := y
    simp only at he
    have := (h _ _).2 hy
    rw [he, hv] at this
    cases this
  unfold addLie
  rw [if_neg, if_neg]
  · rw [List.any_eq_true]
    rintro ⟨y, hy, h1⟩
    simp only [decide_eq_true_eq] at h1
    exact hn y hy h1
  · rw [List.any_eq_true]
    rintro ⟨y, hy, h1⟩
    simp only [decide_eq_true_eq] at h1
    exact hn y hy h1.1
theorem LiesOf.up {lm : List (Int × Int)} {out : List LieT} (h : LiesOf lm out) {x : LieT} (hv : lk lm x.joint = none) : LiesOf (up lm x.joint x.lie) (out ++ [x]) := fun j v => by
  obtain ⟨xj, xl⟩ := x
  simp only at hv ⊢
  rw [lk_up, List.mem_append, List.mem_singleton]
  by_cases he : xj = j
  · subst he
    rw [if_pos rfl]
    constructor
    · intro h1; injection h1 with h1; subst h1; exact .inr rfl
    · rintro (h1 | h1)
      · rw [(h _ _).2 h1] at hv; cases hv
      · injection h1 with _ h1; rw [h1]
  · rw [if_neg he]
    constructor
    · intro h1; exact .inl ((h _ _).1 h1)
    · rintro (h1 | h1)
      · exact (h _ _).2 h1
      · injection h1 with h1 _; exact absurd h1.symm he
end Go.Proofs.Ytckcffjnffcjcaa
namespace Go.Proofs.Ytckcffjnffcjcaa
def stepOf (s : SpotT) : StepT := ⟨s.piece, s.way⟩
theorem stepOf_ok {n : NetT} {s : SpotT} (h : spotB n s = true) : stepB n (stepOf s) = true := by
  have := spotB_iff.1 h
  rw [stepB_iff]
  unfold stepOf
  exact ⟨this.1, this.2.1, this.2.2.1⟩
theorem enter_step (n : NetT) (e : EndT) : stepOf (enterS n e) = comesS e := by unfold stepOf enterS comesS; split <;> rfl
def partsGo (n : NetT) : List SpotT → Int → List PartT × Int
  | [], left => ([], left)
  | x :: l, left => (partOf x (legOf n x left) :: (partsGo n l (left - legOf n x left)).1, (partsGo n l (left - legOf n x left)).2)
def spotsOf (n : NetT) (a : SpotT) (l : List StepT) : List SpotT := a :: l.tail.map (fun s => enterS n (beginS s))
def stretchOk (n : NetT) (p : PathT) (a : SpotT) : Bool :=
  p.ok && spotOkB n a && decide (0 ≤ p.far ∧ p.far ≤ 1000000) && stepsB n p.steps && decide (p.steps.head? = some (stepOf a)) && (liesAll n p.steps).isSome
def stretchV (n : NetT) (p : PathT) (a : SpotT) : List PartT :=
  if stretchOk n p a = true then (if 0 < (partsGo n (spotsOf n a p.steps) p.far).2 then [] else (partsGo n (spotsOf n a p.steps) p.far).1) else []
theorem partsGo_len (n : NetT) : ∀ (l : List SpotT) (left : Int), (partsGo n l left).1.length = l.length
  | [], _ => rfl
  | x :: l, left => by simp only [partsGo, List.length_cons]; rw [partsGo_len]
end Go.Proofs.Ytckcffjnffcjcaa
namespace Go.Proofs.Ytckcffjnffcjcaa
open Classical in
noncomputable def shortL (n : NetT) (s t : StepT) : Option (List StepT) := if h : ∃ l, Least n s t l then some h.choose else none
theorem shortL_some {n : NetT} {s t : StepT} {l : List StepT} (h : Least n s t l) : shortL n s t = some l := by
  have he : ∃ l, Least n s t l := ⟨l, h⟩
  unfold shortL
  rw [dif_pos he]
  exact congrArg some (he.choose_spec.unique h)
theorem shortL_none {n : NetT} {s t : StepT} (h : NoWalk n s t) : shortL n s t = none := by
  unfold shortL
  rw [dif_neg]
  rintro ⟨l, hl⟩
  exact h l hl.f hl.ne hl.last
theorem shortL_is {n : NetT} {s t : StepT} {l : List StepT} (h : shortL n s t = some l) : Least n s t l := by
  unfold shortL at h
  split at h
  · rename_i he
    injection h with h
    rw [← h]
    exact he.choose_spec
  · cases h
def inOf (n : NetT) (b : SpotT) : Int := if b.way = -1 then lenP n b.piece - b.at_ else b.at_
def directB (a b : SpotT) : Bool := decide (a.piece = b.piece ∧ a.way = b.way ∧ 0 ≤ (b.at_ - a.at_) * a.way)
def noPath : PathT := ⟨false, 0, [], []⟩
noncomputable def farV (n : NetT) (a b : SpotT) : PathT := match shortL n (stepOf a) (stepOf b) with
  | none => noPath
  | some l => ⟨true, roomS n a + (weighS n l - lenP n b.piece) + inOf n b, stepOf a :: l, (liesAll n (stepOf a :: l)).getD []⟩
noncomputable def shortV (n : NetT) (a b : SpotT) : PathT := if directB a b = true then ⟨true, (b.at_ - a.at_) * a.way, [stepOf a], []⟩ else farV n a b
noncomputable def shortestV (n : NetT) (a b : SpotT) : PathT := if (spotOkB n a && spotB n b) = true then shortV n a b else noPath
theorem in_turned {n : NetT} {s : SpotT} (h : spotB n s = true) : roomS n (turnS s) = inOf n s ∧ inOf n (turnS s) = roomS n s := by
  have := spotB_iff.1 h
  obtain ⟨p, a, w⟩ := s
  unfold roomS inOf turnS
  simp only at this ⊢
  rcases this.2.2.1 with rfl | rfl
  · simp
  · simp
theorem direct_turned {a b : SpotT} : directB (turnS b) (turnS a) = directB a b := by
  unfold directB turnS
  rw [decide_eq_decide]
  simp only
  constructor
  · rintro ⟨h1, h2, h3⟩
    have h2' : a.way = b.way := by omega
    refine ⟨h1.symm, h2', ?_⟩
    rw [h2']
    have e : (a.at_ - b.at_) * -b.way = (b.at_ - a.at_) * b.way := by rw [Int.mul_neg, ← Int.neg_mul]; congr 1; omega
    rw [← e]; exact h3
  · rintro ⟨h1, h2, h3⟩
    refine ⟨h1.symm, by omega, ?_⟩
    rw [h2] at h3
    have e : (a.at_ - b.at_) * -b.way = (b.at_ - a.at_) * b.way := by rw [Int.mul_neg, ← Int.neg_mul]; congr 1; omega
    rw [e]; exact h3
def turnT (s : StepT) : StepT := ⟨s.piece, -s.way⟩
theorem turnT_ok {n : NetT} {s : StepT} (h : stepB n s = true) : stepB n (turnT s) = true := by
  have := stepB_iff.1 h
  rw [stepB_iff]
  unfold turnT
  simp only
  omega
theorem turnT_twice (s : StepT) : turnT (turnT s) = s := by unfold turnT; simp
theorem look_turned {n : NetT} {s : StepT} (h : stepB n s = true) : lookS (turnT s) = beginS s ∧ beginS (turnT s) = lookS s := by
  have := stepB_iff.1 h
  obtain ⟨p, w⟩ := s
  unfold lookS beginS turnT
  simp only at this ⊢
  rcases this.2.2 with rfl | rfl
  · simp
  · simp
theorem mem_succ {n : NetT} (hg : Good n) {s t : StepT} (hs : stepB n s = true) (ht : stepB n t = true) : t ∈ succS n s ↔ beginS t ∈ acrossE n (lookS s) := by
  unfold succS
  rw [List.mem_map]
  constructor
  · rintro ⟨e, he, rfl⟩
    rw [begin_comes (hg.across (lookS_ok hs) he).1]; exact he
  · intro h
    exact ⟨_, h, comes_begin ht⟩
theorem succ_turned {n : NetT} (hg : Good n) {s t : StepT} (hs : stepB n s = true) (h : t ∈ succS n s) : turnT s ∈ succS n (turnT t) := by
  have ht := succ_ok hg hs h
  rw [mem_succ hg (turnT_ok ht) (turnT_ok hs), (look_turned hs).2, (look_turned ht).1]
  have := (mem_succ hg hs ht).1 h
  exact (hg.across (lookS_ok hs) this).2.2
theorem len_turned (n : NetT) (s : StepT) : lenS n (turnT s) = lenS n s := rfl
theorem walk_back {n : NetT} (hg : Good n) : ∀ (l : List StepT) (s : StepT), stepB n s = true → Follows n s l → l ≠ [] →
    ∃ m, Follows n (turnT (lastS s l)) m ∧ m ≠ [] ∧ lastS (turnT (lastS s l)) m = turnT s ∧ weighS n m + lenS n (lastS s l) = weighS n l + lenS n s
  | [], s, _, _, h => absurd rfl h
  | t :: l, s, hs, hf, _ => by
    have ht := succ_ok hg hs hf.1
    have hb := succ_turned hg hs hf.1
    cases l with
    | nil =>
      refine ⟨[turnT s], ⟨hb, trivial⟩, by simp, rfl, ?_⟩
      show weighS n [turnT s] + lenS n t = weighS n [t] + lenS n s
      rw [weighS_one, weighS_one, len_turned]; omega
    | cons u l =>
      obtain ⟨m, h1, h2, h3, h4⟩ := walk_back hg (u :: l) t ht hf.2 (by simp)
      have e : lastS s (t :: u :: l) = lastS t (u :: l) := rfl
      rw [e]
      refine ⟨m ++ [turnT s], (follows_snoc _ _ _).2 ⟨h1, by rw [h3]; exact hb⟩, by simp, lastS_snoc _ _ _, ?_⟩
      rw [weighS_append, weighS_one, weighS_cons n t, len_turned]
      omega
theorem least_le {n : NetT} {s t : StepT} {l : List StepT} (h : Least n s t l) {m : List StepT} (hf : Follows n s m) (hne : m ≠ []) (hl : lastS s m = t) : weighS n l ≤ weighS n m := by
  have h1 := h.le m hf hne hl
  unfold leW at h1
  rw [Bool.eq_false_iff] at h1
  have : ¬ weighS n m < weighS n l := fun hlt => h1 (lessW_iff.2 (.inl hlt))
  omega
def bestAt (n : NetT) (s : StepT) : Nat → BestT × List (List StepT)
  | 0 => (fun _ => none, [[]])
  | k + 1 => roundS n s (bestAt n s k).1 (bestAt n s k).2
theorem bestAt_inv {n : NetT} (hg : Good n) {s : StepT} (hs : stepB n s = true) : ∀ k, InvR n s k (bestAt n s k).1 (bestAt n s k).2
  | 0 => InvR.start n s
  | k + 1 => (bestAt_inv hg hs k).step hg hs
theorem least_all {n : NetT} (hg : Good n) {s t : StepT} (hs : stepB n s = true) : (∃ l, Least n s t l ∧ l.length ≤ 2 * n.pieces.length + 1) ∨ NoWalk n s t := by
  have h := bestAt_inv hg hs (2 * n.pieces.length + 1)
  have he : (bestAt n s (2 * n.pieces.length + 1)).2 = [] := by
    cases hl : (bestAt n s (2 * n.pieces.length + 1)).2 with
    | nil => rfl
    | cons a l =>
      have := h.bound hg hs (by rw [hl]; simp)
      omega
  have hw := h.walk t
  rw [he] at h
  obtain ⟨h1, h2⟩ := h.stop hg hs
  cases hb : (bestAt n s (2 * n.pieces.length + 1)).1 t with
  | none => exact .inr (h2 t hb)
  | some l => exact .inl ⟨l, h1 t l hb, (hw l hb).2.2.2⟩
theorem shortL_cases {n : NetT} (hg : Good n) {s t : StepT} (hs : stepB n s = true) : (∃ l, shortL n s t = some l ∧ Least n s t l ∧ l.length ≤ 2 * n.pieces.length + 1) ∨ (shortL n s t = none ∧ NoWalk n s t) := by
  rcases least_all hg hs (t := t) with ⟨l, h1, h2⟩ | h
  · exact .inl ⟨l, shortL_some h1, h1, h2⟩
  · exact .inr ⟨shortL_none h, h⟩
theorem turn_step (s : SpotT) : stepOf (turnS s) = turnT (stepOf s) := rfl
theorem far_turned {n : NetT} (hg : Good n) {a b : SpotT} (ha : spotB n a = true) (hb : spotB n b = true) : (farV n (turnS b) (turnS a)).ok = (farV n a b).ok ∧ (farV n (turnS b) (turnS a)).far = (farV n a b).far := by
  have hsa := stepOf_ok ha
  have hsb := stepOf_ok hb
  have back : ∀ {x y : SpotT}, spotB n x = true → spotB n y = true → ∀ {l}, Least n (stepOf x) (stepOf y) l → ∃ m, Follows n (turnT (stepOf y)) m ∧ m ≠ [] ∧ lastS (turnT (stepOf y)) m = turnT (stepOf x) ∧ weighS n m + lenS n (stepOf y) = weighS n l + lenS n (stepOf x) := by
    intro x y hx hy l hl
    have := walk_back hg l (stepOf x) (stepOf_ok hx) hl.f hl.ne
    rw [hl.last] at this
    exact this
  have h1 := shortL_cases hg hsa (t := stepOf b)
  have h2 := shortL_cases hg (turnT_ok hsb) (t := turnT (stepOf a))
  obtain ⟨r1, r2⟩ := in_turned ha
  obtain ⟨r3, r4⟩ := in_turned hb
  have hta : spotB n (turnS a) = true := by
    have := spotB_iff.1 ha
    rw [spotB_iff]; unfold turnS; simp only; omega
  have htb : spotB n (turnS b) = true := by
    have := spotB_iff.1 hb
    rw [spotB_iff]; unfold turnS; simp only; omega
  unfold farV
  rw [turn_step, turn_step]
  rcases h1 with ⟨l, e1, l1, _⟩ | ⟨e1, n1⟩
  · obtain ⟨m, m1, m2, m3, m4⟩ := back ha hb l1
    rcases h2 with ⟨l', e2, l2, _⟩ | ⟨e2, n2⟩
    · rw [e1, e2]
      refine ⟨rfl, ?_⟩
      obtain ⟨m', k1, k2, k3, k4⟩ := back htb hta (l := l') (by rw [turn_step, turn_step]; exact l2)
      simp only [turn_step, turnT_twice] at k1 k3 k4
      have q1 := least_le l2 m1 m2 m3
      have q2 := least_le l1 k1 k2 k3
      rw [len_turned, len_turned] at k4
      simp only
      rw [r2, r3]
      show inOf n b + (weighS n l' - lenS n (stepOf a)) + roomS n a = roomS n a + (weighS n l - lenS n (stepOf b)) + inOf n b
      omega
    · exact absurd m3 (n2 m m1 m2)
  · rcases h2 with ⟨l', e2, l2, _⟩ | ⟨e2, n2⟩
    · obtain ⟨m', k1, k2, k3, k4⟩ := back htb hta (l := l') (by rw [turn_step, turn_step]; exact l2)
      simp only [turn_step, turnT_twice] at k1 k3 k4
      exact absurd k3 (n1 m' k1 k2)
    · rw [e1, e2]
      exact ⟨rfl, rfl⟩
theorem short_turned {n : NetT} (hg : Good n) {a b : SpotT} (ha : spotB n a = true) (hb : spotB n b = true) : (shortV n (turnS b) (turnS a)).ok = (shortV n a b).ok ∧ (shortV n (turnS b) (turnS a)).far = (shortV n a b).far := by
  unfold shortV
  rw [direct_turned]
  split
  · rename_i hd
    unfold directB at hd
    simp only [decide_eq_true_eq] at hd
    refine ⟨rfl, ?_⟩
    unfold turnS
    simp only
    rw [hd.2.1, Int.mul_neg, ← Int.neg_mul]
    congr 1
    omega
  · exact far_turned hg ha hb
theorem leg_walk {n : NetT} {lies : List Int} (hg : Good n) (hl : liesB n lies = true) {s t : SpotT} {m : Nat} {f : Int} (h : Leg n lies s m f t) : spotB n s = true →
    (t = moveS s f ∧ 0 ≤ f ∧ f ≤ roomS n s) ∨ ∃ l, Follows n (stepOf s) l ∧ l ≠ [] ∧ lastS (stepOf s) l = stepOf t ∧ f = roomS n s + (weighS n l - lenP n t.piece) + inOf n t := by
  induction h with
  | move g0 g1 => intro hs; exact .inl ⟨rfl, g0, g1⟩
  | @over s t e m f ho hf h ih =>
    intro hs
    have hen := headE_ok hs
    have hx := over_end hg hl hs ho
    have hin : e ∈ acrossE n (headE s) := by
      have := hg.over hl hen (by rw [ho])
      rw [ho] at this
      exact this
    have hsucc : comesS e ∈ succS n (stepOf s) := List.mem_map.2 ⟨e, hin, rfl⟩
    have hen2 := enterS_ok hg hx
    have hroom := enterS_room hg hx
    right
    rcases ih hen2 with ⟨rfl, g0, g1⟩ | ⟨l, l1, l2, l3, l4⟩
    · refine ⟨[comesS e], ⟨hsucc, trivial⟩, by simp, ?_, ?_⟩
      · show comesS e = stepOf (moveS (enterS n e) _)
        rw [← enter_step n e]; rfl
      · rw [weighS_one]
        have e1 : lenS n (comesS e) = lenP n (moveS (enterS n e) f).piece := by
          unfold lenS moveS comesS; simp only; rw [enterS_piece]
        rw [e1]
        unfold inOf moveS enterS
        split <;> simp_all <;> omega
    · rw [enter_step] at l1 l3
      refine ⟨comesS e :: l, ⟨hsucc, l1⟩, by simp, l3, ?_⟩
      rw [l4, hroom, weighS_cons]
      have e1 : lenS n (comesS e) = lenP n e.piece := rfl
      rw [e1]
      omega
theorem inOf_bd {n : NetT} {s : SpotT} (h : spotB n s = true) : 0 ≤ inOf n s ∧ inOf n s ≤ lenP n s.piece := by
  have := spotB_iff.1 h
  unfold inOf
  split <;> omega
theorem weigh_last {n : NetT} (hg : Good n) : ∀ (l : List StepT) (s : StepT), stepB n s = true → Follows n s l → l ≠ [] → lenS n (lastS s l) ≤ weighS n l
  | [], s, _, _, h => absurd rfl h
  | [t], s, hs, hf, _ => by rw [weighS_one]; exact Int.le_refl _
  | t :: u :: l, s, hs, hf, _ => by
    have ht := succ_ok hg hs hf.1
    have h1 := hg.lenS ht
    have h2 := weigh_last hg (u :: l) t ht hf.2 (by simp)
    rw [weighS_cons]
    show lenS n (lastS t (u :: l)) ≤ _
    omega
theorem short_le {n : NetT} (hg : Good n) {a b : SpotT} (ha : spotB n a = true) (hb : spotB n b = true) {f : Int} (h : (b = moveS a f ∧ 0 ≤ f ∧ f ≤ roomS n a) ∨ ∃ l, Follows n (stepOf a) l ∧ l ≠ [] ∧ lastS (stepOf a) l = stepOf b ∧ f = roomS n a + (weighS n l - lenP n b.piece) + inOf n b) :
    (shortV n a b).ok = true ∧ (shortV n a b).far ≤ f := by
  have hw := way_cases ha
  rcases h with ⟨rfl, g0, g1⟩ | ⟨l, l1, l2, l3, l4⟩
  · have e : ((moveS a f).at_ - a.at_) * a.way = f := by
      unfold moveS
      simp only
      rcases hw with h | h <;> rw [h] <;> omega
    have hd : directB a (moveS a f) = true := by
      unfold directB
      rw [decide_eq_true_eq, e]
      exact ⟨rfl, rfl, g0⟩
    unfold shortV
    rw [if_pos hd]
    exact ⟨rfl, by simp only; omega⟩
  · have hsa := stepOf_ok ha
    unfold shortV
    split
    · rename_i hd
      unfold directB at hd
      simp only [decide_eq_true_eq] at hd
      refine ⟨rfl, ?_⟩
      have h1 := weigh_last hg l (stepOf a) hsa l1 l2
      rw [l3] at h1
      have h2 : lenS n (stepOf b) = lenP n b.piece := rfl
      have h3 := spotB_iff.1 ha
      have h4 := spotB_iff.1 hb
      have h5 : (b.at_ - a.at_) * a.way ≤ roomS n a := by
        have hp := hd.1
        rw [hp] at h3
        unfold roomS
        rw [hp]
        rcases hw with h | h <;> rw [h] <;> simp <;> omega
      have h6 := (inOf_bd hb).1
      simp only
      omega
    · unfold farV
      rcases shortL_cases hg hsa (t := stepOf b) with ⟨l', e1, q1, _⟩ | ⟨e1, n1⟩
      · rw [e1]
        have := least_le q1 l1 l2 l3
        refine ⟨rfl, ?_⟩
        simp only
        omega
      · exact absurd l3 (n1 l l1 l2)
end Go.Proofs.Ytckcffjnffcjcaa
namespace Go.Proofs.Ytckcffjnffcjcaa
def roomsOf (n : NetT) (l : List SpotT) : Int := (l.map (roomS n)).sum
theorem partsGo_sum {n : NetT} (hg : Good n) : ∀ (l : List SpotT) (left : Int), (∀ x ∈ l, spotB n x = true) → 0 ≤ left →
    sumP (partsGo n l left).1 + (partsGo n l left).2 = left ∧ 0 ≤ (partsGo n l left).2 ∧ (left ≤ roomsOf n l → (partsGo n l left).2 = 0) ∧ ∀ p ∈ (partsGo n l left).1, 0 ≤ p.piece ∧ p.piece ≤ 99 ∧ 0 ≤ p.frm ∧ p.frm ≤ p.upto ∧ p.upto ≤ 10000000
  | [], left, _, h0 => by
    refine ⟨by simp [partsGo, sumP], h0, fun h => ?_, fun p hp => by simp [partsGo] at hp⟩
    simp [roomsOf] at h
    simp [partsGo]; omega
  | x :: l, left, h, h0 => by
    have hx := h x (by simp)
    have hb := roomS_bd hg hx
    have hs := spotB_iff.1 hx
    have hlen := hg.len hs.1 hs.2.1
    have hp1 := hg.p1
    have hle : 0 ≤ legOf n x left ∧ legOf n x left ≤ roomS n x ∧ legOf n x left ≤ left := by unfold legOf; omega
    have hle2 : legOf n x left = roomS n x ∨ legOf n x left = left := by unfold legOf; omega
    obtain ⟨i1, i2, i3, i4⟩ := partsGo_sum hg l (left - legOf n x left) (fun y hy => h y (by simp [hy])) (by omega)
    have hpart : (partOf x (legOf n x left)).upto - (partOf x (legOf n x left)).frm = legOf n x left ∧ 0 ≤ (partOf x (legOf n x left)).frm ∧ (partOf x (legOf n x left)).upto ≤ lenP n x.piece := by
      have hr : roomS n x = if x.way = 1 then lenP n x.piece - x.at_ else x.at_ := rfl
      unfold partOf
      simp only
      rcases hs.2.2.1 with hw | hw
      · rw [hw] at hr ⊢
        simp only [if_true] at hr
        omega
      · rw [hw] at hr ⊢
        rw [if_neg (by omega)] at hr
        omega
    simp only [partsGo]
    refine ⟨?_, i2, fun hr => ?_, fun p hp => ?_⟩
    · unfold sumP at i1 ⊢
      simp only [List.map_cons, List.sum_cons]
      omega
    · unfold roomsOf at hr i3
      simp only [List.map_cons, List.sum_cons] at hr
      rcases hle2 with e | e
      · exact i3 (by omega)
      · have hnn : 0 ≤ (l.map (roomS n)).sum := by
          clear i1 i2 i3 i4 hr
          have : ∀ (l : List SpotT), (∀ x ∈ l, spotB n x = true) → 0 ≤ (l.map (roomS n)).sum := by
            intro l
            induction l with
            | nil => intro _; simp
            | cons y l ih =>
              intro hy
              have a := (roomS_bd hg (hy y (by simp))).1
              have b := ih (fun z hz => hy z (by simp [hz]))
              simp only [List.map_cons, List.sum_cons]
              omega
          exact this l (fun y hy => h y (by simp [hy]))
        exact i3 (by omega)
    · rcases List.mem_cons.1 hp with rfl | hp
      · have e : (partOf x (legOf n x left)).piece = x.piece := rfl
        rw [e]
        omega
      · exact i4 p hp
theorem spots_ok {n : NetT} (hg : Good n) {a : SpotT} (ha : spotB n a = true) {l : List StepT} (hl : ∀ t ∈ l, stepB n t = true) : ∀ x ∈ spotsOf n a l, spotB n x = true := by
  intro x hx
  unfold spotsOf at hx
  rcases List.mem_cons.1 hx with rfl | hx
  · exact ha
  · obtain ⟨t, ht, rfl⟩ := List.mem_map.1 hx
    exact enterS_ok hg (beginS_ok (hl t (List.mem_of_mem_tail ht)))
theorem rooms_walk {n : NetT} (hg : Good n) (a : SpotT) (s : StepT) {l : List StepT} (hl : ∀ t ∈ l, stepB n t = true) : roomsOf n (spotsOf n a (s :: l)) = roomS n a + weighS n l := by
  unfold roomsOf spotsOf weighS
  simp only [List.map_cons, List.sum_cons, List.tail_cons, List.map_map]
  congr 1
  congr 1
  refine List.map_congr_left fun t ht => ?_
  show roomS n (enterS n (beginS t)) = lenS n t
  rw [enterS_room hg (beginS_ok (hl t ht))]
  rfl
def Small (n : NetT) : Prop := n.pieces.length ≤ 9 ∧ ∀ p : Int, 0 ≤ p → p < (n.pieces.length : Int) → lenP n p ≤ 300
theorem small_weigh {n : NetT} (h : Small n) : ∀ {l : List StepT}, (∀ t ∈ l, stepB n t = true) → weighS n l ≤ 300 * (l.length : Int)
  | [], _ => by simp [weighS]
  | t :: l, hl => by
    have h1 := stepB_iff.1 (hl t (by simp))
    have h2 := h.2 t.piece h1.1 h1.2.1
    have h3 := small_weigh h (l := l) (fun u hu => hl u (by simp [hu]))
    rw [weighS_cons, List.length_cons]
    unfold lenS
    omega
theorem short_stretch {n : NetT} (hgd : netGood n = true) (hsm : Small n) {a b : SpotT} (ha : spotB n a = true) (hb : spotB n b = true) (hok : (shortV n a b).ok = true) :
    (0 < (stretchV n (shortV n a b) a).length → partsLenV (stretchV n (shortV n a b) a) = (shortV n a b).far) ∧ ((stretchV n (shortV n a b) a).length = 0 → (shortV n a b).lies = []) ∧ 0 ≤ (shortV n a b).far ∧ (shortV n a b).far ≤ 6300 := by
  have hg := Good.of hgd
  have hw := way_cases ha
  have hsa := stepOf_ok ha
  have hba := spotB_iff.1 ha
  have hbb := spotB_iff.1 hb
  have hla := hsm.2 a.piece hba.1 hba.2.1
  have key : ∀ (p : PathT) (l : List StepT), p.ok = true → p.steps = stepOf a :: l → (∀ t ∈ l, stepB n t = true) → l.length ≤ 19 → p.lies = (liesAll n p.steps).getD [] → 0 ≤ p.far → p.far ≤ 6300 → p.far ≤ roomS n a + weighS n l →
      (0 < (stretchV n p a).length → partsLenV (stretchV n p a) = p.far) ∧ ((stretchV n p a).length = 0 → p.lies = []) := by
    intro p l k1 k2 k3 k4 k5 k6 k7 k8
    cases hli : liesAll n p.steps with
    | none =>
      have e : stretchV n p a = [] := by
        unfold stretchV
        rw [if_neg]
        unfold stretchOk
        rw [hli]
        simp
      rw [e, k5, hli]
      exact ⟨fun h => by simp at h, fun _ => rfl⟩
    | some o =>
      have hso : stretchOk n p a = true := by
        unfold stretchOk stepsB spotOkB
        rw [hli, k1, hgd, ha, k2]
        simp only [Bool.and_self, Bool.true_and, Bool.and_eq_true, decide_eq_true_eq, List.all_eq_true, List.length_cons, List.head?_cons, Option.isSome_some, and_true]
        refine ⟨by omega, by omega, fun t ht => ?_⟩
        rcases List.mem_cons.1 ht with rfl | ht
        · exact hsa
        · exact k3 t ht
      have hsp : ∀ x ∈ spotsOf n a p.steps, spotB n x = true := spots_ok hg ha (by
        rw [k2]
        intro t ht
        rcases List.mem_cons.1 ht with rfl | ht
        · exact hsa
        · exact k3 t ht)
      obtain ⟨i1, i2, i3, i4⟩ := partsGo_sum hg (spotsOf n a p.steps) p.far hsp k6
      have hz := i3 (by rw [k2, rooms_walk hg a _ k3]; exact k8)
      have e : stretchV n p a = (partsGo n (spotsOf n a p.steps) p.far).1 := by
        unfold stretchV
        rw [if_pos hso, if_neg (by omega)]
      have hl : (stretchV n p a).length = l.length + 1 := by
        rw [e, partsGo_len, k2]
        simp [spotsOf]
      refine ⟨fun _ => ?_, fun h => by omega⟩
      rw [e]
      unfold partsLenV
      rw [if_pos (partsOk_mk i4 (by rw [← e]; omega))]
      unfold sumP at i1
      omega
  have hsmall : ∀ {l : List StepT}, Least n (stepOf a) (stepOf b) l → l.length ≤ 2 * n.pieces.length + 1 → (∀ t ∈ l, stepB n t = true) ∧ l.length ≤ 19 ∧ weighS n l ≤ 5700 ∧ lenP n b.piece ≤ weighS n l := by
    intro l hl hlen
    have h1 := follows_ok hg hsa hl.f
    have h2 := small_weigh hsm h1
    have h3 := hsm.1
    have h4 := weigh_last hg l _ hsa hl.f hl.ne
    rw [hl.last] at h4
    exact ⟨h1, by omega, by omega, h4⟩
  unfold shortV at hok ⊢
  split at hok
  · rename_i hd
    rw [if_pos hd]
    unfold directB at hd
    simp only [decide_eq_true_eq] at hd
    have hle : (b.at_ - a.at_) * a.way ≤ roomS n a ∧ roomS n a ≤ 300 := by
      have hp := hd.1
      rw [← hp] at hbb
      unfold roomS
      rcases hw with h | h <;> rw [h] <;> simp <;> omega
    have := key ⟨true, (b.at_ - a.at_) * a.way, [stepOf a], []⟩ [] rfl rfl (by simp) (by simp) rfl hd.2.2 (by simp only; omega) (by simp [weighS]; omega)
    exact ⟨this.1, this.2, hd.2.2, by simp only; omega⟩
  · rename_i hd
    rw [if_neg hd]
    unfold farV at hok ⊢
    rcases shortL_cases hg hsa (t := stepOf b) with ⟨l, e1, q1, q2⟩ | ⟨e1, n1⟩
    · rw [e1]
      simp only
      obtain ⟨h1, h2, h3, h4⟩ := hsmall q1 q2
      have h5 := inOf_bd hb
      have h6 := roomS_bd hg ha
      have h7 : roomS n a ≤ 300 := by unfold roomS; split <;> omega
      have h8 := hsm.2 b.piece hbb.1 hbb.2.1
      have := key ⟨true, roomS n a + (weighS n l - lenP n b.piece) + inOf n b, stepOf a :: l, (liesAll n (stepOf a :: l)).getD []⟩ l rfl rfl h1 h2 rfl (by simp only; omega) (by simp only; omega) (by simp only; omega)
      exact ⟨this.1, this.2, by omega, by omega⟩
    · rw [e1] at hok
      cases hok
end Go.Proofs.Ytckcffjnffcjcaa
namespace Go.Proofs.Ytckcffjnffcjcaa
structure CarT where
  spot : SpotT
  far : Int
  steps : List StepT
instance : Inhabited CarT := ⟨⟨default, 0, []⟩⟩
def spotW (n : NetT) (s : SpotT) (l : List StepT) : SpotT := match l.getLast? with
  | none => s
  | some t => enterS n (beginS t)
def farW (n : NetT) (s : SpotT) (l : List StepT) : Int := if l = [] then 0 else roomS n s + weighS n l.dropLast
def carOf (n : NetT) (s : SpotT) (l : List StepT) : CarT := ⟨spotW n s l, farW n s l, stepOf s :: l⟩
theorem spotW_snoc (n : NetT) (s : SpotT) (l : List StepT) (t : StepT) : spotW n s (l ++ [t]) = enterS n (beginS t) := by
  unfold spotW
  rw [List.getLast?_append]
  rfl
theorem farW_snoc (n : NetT) (s : SpotT) (l : List StepT) (t : StepT) : farW n s (l ++ [t]) = roomS n s + weighS n l := by
  unfold farW
  rw [if_neg (by simp), List.dropLast_concat]
theorem snoc_cases {α : Type} (l : List α) : l = [] ∨ ∃ m t, l = m ++ [t] := by
  by_cases h : l = []
  · exact .inl h
  · exact .inr ⟨_, _, (List.dropLast_concat_getLast h).symm⟩
theorem spotW_step {n : NetT} (hg : Good n) {s : SpotT} (hs : spotB n s = true) {l : List StepT} (hf : Follows n (stepOf s) l) : stepOf (spotW n s l) = lastS (stepOf s) l ∧ spotB n (spotW n s l) = true := by
  rcases snoc_cases l with rfl | ⟨m, t, rfl⟩
  · exact ⟨rfl, hs⟩
  · have ht : stepB n t = true := follows_ok hg (stepOf_ok hs) hf t (by simp)
    rw [spotW_snoc, lastS_snoc, enter_step, comes_begin ht]
    exact ⟨rfl, enterS_ok hg (beginS_ok ht)⟩
theorem farW_next {n : NetT} (hg : Good n) {s : SpotT} (hs : spotB n s = true) {l : List StepT} (hf : Follows n (stepOf s) l) (p : StepT) : farW n s (l ++ [p]) = farW n s l + roomS n (spotW n s l) := by
  rw [farW_snoc]
  rcases snoc_cases l with rfl | ⟨m, t, rfl⟩
  · simp [weighS, farW, spotW]
  · have ht : stepB n t = true := follows_ok hg (stepOf_ok hs) hf t (by simp)
    rw [farW_snoc, spotW_snoc, enterS_room hg (beginS_ok ht), weighS_append, weighS_one]
    have : lenS n t = lenP n (beginS t).piece := rfl
    omega
theorem carOf_next {n : NetT} (hg : Good n) {s : SpotT} (hs : spotB n s = true) {l : List StepT} (hf : Follows n (stepOf s) l) {e : EndT} (he : endB n e = true) :
    carOf n s (l ++ [comesS e]) = ⟨enterS n e, farW n s l + roomS n (spotW n s l), (stepOf s :: l) ++ [comesS e]⟩ := by
  unfold carOf
  rw [spotW_snoc, begin_comes he, farW_next hg hs hf]
  rfl
theorem farW_bd {n : NetT} (hg : Good n) {s : SpotT} (hs : spotB n s = true) {l : List StepT} (hf : Follows n (stepOf s) l) : 0 ≤ farW n s l ∧ farW n s l ≤ 10000000 * ((l.length : Int) + 1) := by
  have h1 := roomS_bd hg hs
  have h2 := spotB_iff.1 hs
  have h3 := hg.len h2.1 h2.2.1
  unfold farW
  split
  · omega
  · have h4 := weighS_nonneg hg (l := l.dropLast) (fun t ht => follows_ok hg (stepOf_ok hs) hf t ((List.dropLast_sublist l).subset ht))
    have h5 := (List.length_dropLast : l.dropLast.length = _)
    omega
def lessCar (a b : CarT) : Bool :=
  if a.far ≠ b.far then decide (a.far < b.far) else if a.steps.length ≠ b.steps.length then decide (a.steps.length < b.steps.length) else lexB a.steps b.steps
theorem lessCar_walk {n : NetT} (s : SpotT) (l m : List StepT) (p : StepT) : lessCar (carOf n s (l ++ [p])) (carOf n s (m ++ [p])) = lessW n (l ++ [p]) (m ++ [p]) := by
  unfold lessCar carOf lessW
  simp only [farW_snoc, weighS_append, weighS_one, List.length_cons, lexB, if_true, List.length_append, List.length_nil]
  by_cases h1 : weighS n l = weighS n m
  · rw [h1, if_neg (by simp)]
    by_cases h2 : l.length = m.length
    · rw [h2, if_neg (by simp)]
      simp
    · rw [if_pos (by omega)]
      by_cases h3 : l.length < m.length
      · simp [h3]
      · simp [h3, h2]
  · rw [if_pos (by omega)]
    by_cases h3 : weighS n l < weighS n m
    · simp [h3]
    · simp [h3, h1]
structure FromRel (n : NetT) (s : SpotT) (best : BestT) (bl : List CarT) (kl : List Bool) : Prop where
  lb : bl.length = 2 * n.pieces.length
  lk : kl.length = 2 * n.pieces.length
  none_ : ∀ p, stepB n p = true → best p = none → kl.getD (numS p) false = false
  some_ : ∀ p l, stepB n p = true → best p = some l → kl.getD (numS p) false = true ∧ bl.getD (numS p) default = carOf n s l
theorem FromRel.start (n : NetT) (s : SpotT) (z : CarT) : FromRel n s (fun _ => none) (List.replicate (2 * n.pieces.length) z) (List.replicate (2 * n.pieces.length) false) :=
  ⟨by simp, by simp, fun p hp _ => by
    have := numS_lt hp
    simp [List.getD, List.getElem?_replicate, this], fun p l _ h => by simp at h⟩
theorem getD_set {α : Type} (l : List α) (i j : Nat) (x d : α) (hi : i < l.length) : (l.set i x).getD j d = if i = j then x else l.getD j d := by
  simp only [List.getD, List.getElem?_set]
  by_cases h : i = j
  · subst h; simp [hi]
  · simp [h]
theorem FromRel.take {n : NetT} {s : SpotT} {best : BestT} {bl : List CarT} {kl : List Bool} (h : FromRel n s best bl kl) {p : StepT} (hp : stepB n p = true) (x : List StepT) :
    FromRel n s (fun q => if q = p then some x else best q) (bl.set (numS p) (carOf n s x)) (kl.set (numS p) true) := by
  have hl := numS_lt hp
  refine ⟨by rw [List.length_set]; exact h.lb, by rw [List.length_set]; exact h.lk, fun q hq hn => ?_, fun q l hq hs => ?_⟩
  · by_cases e : q = p
    · simp only [e, if_true] at hn; cases hn
    · simp only [e, if_false] at hn
      rw [getD_set _ _ _ _ _ (by rw [h.lk]; exact hl), if_neg (fun e2 => e (numS_inj hp hq e2).symm)]
      exact h.none_ q hq hn
  · by_cases e : q = p
    · subst e
      simp only [if_true, Option.some.injEq] at hs
      subst hs
      rw [getD_set _ _ _ _ _ (by rw [h.lk]; exact hl), getD_set _ _ _ _ _ (by rw [h.lb]; exact hl)]
      simp
    · simp only [e, if_false] at hs
      rw [getD_set _ _ _ _ _ (by rw [h.lk]; exact hl), getD_set _ _ _ _ _ (by rw [h.lb]; exact hl), if_neg (fun e2 => e (numS_inj hp hq e2).symm), if_neg (fun e2 => e (numS_inj hp hq e2).symm)]
      exact h.some_ q l hq hs
theorem FromRel.taken {n : NetT} {s : SpotT} {best : BestT} {bl : List CarT} {kl : List Bool} (h : FromRel n s best bl kl) (hw : ∀ p l, best p = some l → lastS (stepOf s) l = p ∧ l ≠ []) {p : StepT} (hp : stepB n p = true) (c : List StepT) :
    (!kl.getD (numS p) false || lessCar (carOf n s (c ++ [p])) (bl.getD (numS p) default)) = (match best p with | none => true | some l => lessW n (c ++ [p]) l) := by
  cases hb : best p with
  | none => rw [h.none_ p hp hb]; rfl
  | some l =>
    obtain ⟨h1, h2⟩ := h.some_ p l hp hb
    obtain ⟨h3, h4⟩ := hw p l hb
    rw [h1, h2]
    obtain rfl | ⟨m, t, rfl⟩ := snoc_cases l
    · exact absurd rfl h4
    · rw [lastS_snoc] at h3
      subst h3
      rw [lessCar_walk]
      rfl
def endCar (bl : List CarT) (kl : List Bool) (i : Nat) : CarT := if kl.getD i false = true then bl.getD i default else ⟨(bl.getD i default).spot, -1, (bl.getD i default).steps⟩
structure FromOk (n : NetT) (s : SpotT) (fl : List CarT) : Prop where
  len : fl.length = 2 * n.pieces.length
  none_ : ∀ p, stepB n p = true → shortL n (stepOf s) p = none → (fl.getD (numS p) default).far = -1
  some_ : ∀ p l, stepB n p = true → shortL n (stepOf s) p = some l → fl.getD (numS p) default = carOf n s l
theorem FromRel.stop {n : NetT} (hg : Good n) {s : SpotT} (hs : spotB n s = true) {r : Nat} {best : BestT} {bl fl : List CarT} {kl : List Bool} (h : FromRel n s best bl kl) (hi : InvR n (stepOf s) r best []) (hl : fl.length = 2 * n.pieces.length)
    (hf : ∀ i, i < 2 * n.pieces.length → fl.getD i default = endCar bl kl i) : FromOk n s fl := by
  obtain ⟨h1, h2⟩ := hi.stop hg (stepOf_ok hs)
  refine ⟨hl, fun p hp hn => ?_, fun p l hp hl2 => ?_⟩
  · rw [hf _ (numS_lt hp)]
    unfold endCar
    cases hb : best p with
    | none => rw [h.none_ p hp hb]; rfl
    | some l =>
      rw [shortL_some (h1 p l hb)] at hn; cases hn
  · rw [hf _ (numS_lt hp)]
    unfold endCar
    cases hb : best p with
    | none => rw [shortL_none (h2 p hb)] at hl2; cases hl2
    | some m =>
      rw [shortL_some (h1 p m hb)] at hl2
      injection hl2 with hl2
      subst hl2
      obtain ⟨k1, k2⟩ := h.some_ p m hp hb
      rw [k1, if_pos rfl, k2]
theorem relax_if (n : NetT) (st : BestT × List (List StepT)) (p : StepT) (x : List StepT) (b : Bool) (hb : b = (match st.1 p with | none => true | some l => lessW n x l)) :
    relax n st p x = if b = true then (fun q => if q = p then some x else st.1 q, st.2 ++ [x]) else st := by
  subst hb; rfl
theorem relax_len (n : NetT) (st : BestT × List (List StepT)) (p : StepT) (x : List StepT) : (relax n st p x).2.length ≤ st.2.length + 1 := by
  obtain ⟨b, hb⟩ : ∃ b, b = (match st.1 p with | none => true | some l => lessW n x l) := ⟨_, rfl⟩
  rw [relax_if n st p x b hb]
  cases b <;> simp
end Go.Proofs.Ytckcffjnffcjcaa
namespace Go.Proofs.Ytckcffjnffcjcaa
open Go.RowKit Go.Proofs.YtckcffjnffcjcaaW.PrintWords
set_option maxRecDepth 100000 in
set_option maxHeartbeats 4000000 in
theorem isStep_any (x : EndT) (bs bi : Nat) (A : Option Addr) (c : Nat) (l : List StepT) (i : Nat) (w : World) (hb : Bx w bs [.slice A l.length c]) (hi : Bx w bi [.int .i64 (i : Int)]) (hC : Kd.C kStep w A l.length l) (hil : i < l.length) :
    Calls Try.prog 184 #[.agg #[.int .i64 x.piece, .int .i64 x.side], .pointer (some ⟨bs, 0, none⟩), .pointer (some ⟨bi, 0, none⟩)] w
      fun e w' => e = .returned (.bool (decide (comesS x = l.getD i default))) ∧ Below w.heap.size w w' := by
  obtain ⟨ad, e0, y0, y1⟩ := at_Step hC i hil
  subst e0
  have hm := hC.2.1
  obtain ⟨⟨tp, tw⟩, ht⟩ : ∃ t, t = l.getD i default := ⟨_, rfl⟩
  rw [← ht] at y0 y1 ⊢
  obtain ⟨⟨cp, cw⟩, hcs⟩ : ∃ t, t = comesS x := ⟨_, rfl⟩
  rw [← hcs]
  have HCS := Aside0.mk hcs.symm
  have HV : Aside0 (decide ((⟨cp, cw⟩ : StepT) = ⟨tp, tw⟩) = ((cp == tp) && (cw == tw))) := ⟨by
    by_cases h1 : cp = tp
    · by_cases h2 : cw = tw
      · subst h1; subst h2; simp
      · have : ¬ ((⟨cp, cw⟩ : StepT) = ⟨tp, tw⟩) := fun h => h2 (by injection h)
        simp [this, h2]
    · have : ¬ ((⟨cp, cw⟩ : StepT) = ⟨tp, tw⟩) := fun h => h1 (by injection h)
      simp [this, h1]⟩
  obtain ⟨W0, hW0⟩ : ∃ W0, W0 = w.alloc (.cells #[.int .i64 x.piece, .int .i64 x.side] 67) := ⟨_, rfl⟩
  have fb : Below w.heap.size w W0 := by rw [hW0]; exact below_alloc (Below.refl _ _) _
  have XE : Aside0 (Bx W0 w.heap.size [.int .i64 x.piece, .int .i64 x.side]) := ⟨by rw [hW0]; exact Bx.new w _ 67⟩
  have XS := Aside0.mk (hb.below fb)
  have XI := Aside0.mk (hi.below fb)
  replace y0 := pw_cell_below fb y0
  replace y1 := pw_cell_below fb y1
  have Y0 := Aside0.mk y0
  have Y1 := Aside0.mk y1
  have FB := Aside0.mk fb
  have HW0 := Aside0.mk hW0
  have hi0 : (0 : Int) ≤ (i : Int) := by omega
  have hi1 : (i : Int) < (l.length : Int) := by omega
  clear hb hi hC ht hcs fb hW0
  have HS0 : Aside0 (∀ W, Below W0.heap.size W0 W → (Below W0.heap.size W0 W ∧ W.cell? ⟨w.heap.size, 0, none⟩ = some (.int .i64 x.piece) ∧ W.cell? ⟨w.heap.size, 1, none⟩ = some (.int .i64 x.side) ∧ W.cell? ⟨bs, 0, none⟩ = some (.slice (some ad) l.length c) ∧ W.cell? ⟨bi, 0, none⟩ = some (.int .i64 (i : Int)) ∧ W.cell? (ad.add (i * 2)) = some (.int .i64 tp) ∧ W.cell? ⟨(ad.add (i * 2)).block, (ad.add (i * 2)).off + 1, none⟩ = some (.int .i64 tw))) :=
    ⟨fun W hb => ⟨hb, (XE.out.below hb).c 0 _ rfl, (XE.out.below hb).c 1 _ rfl, (XS.out.below hb).c 0 _ rfl, (XI.out.below hb).c 0 _ rfl, pw_cell_below hb Y0.out, pw_cell_below hb Y1.out⟩⟩
  have e0 := XE.out.c 0 _ rfl; have e1 := XE.out.c 1 _ rfl; have s0 := XS.out.c 0 _ rfl; have i0 := XI.out.c 0 _ rfl
  cases h1 : (cp == tp) with
  | false =>
    rw [h1] at HV
    go_enter Try.func184, Try.ntmps184
    go_wp2_with fail
    rw [← HW0.out]
    go_region_held3 (fun W => Below W0.heap.size W0 W ∧ W.cell? ⟨w.heap.size, 0, none⟩ = some (.int .i64 x.piece) ∧ W.cell? ⟨w.heap.size, 1, none⟩ = some (.int .i64 x.side) ∧ W.cell? ⟨bs, 0, none⟩ = some (.slice (some ad) l.length c) ∧ W.cell? ⟨bi, 0, none⟩ = some (.int .i64 (i : Int)) ∧ W.cell? (ad.add (i * 2)) = some (.int .i64 tp) ∧ W.cell? ⟨(ad.add (i * 2)).block, (ad.add (i * 2)).off + 1, none⟩ = some (.int .i64 tw))
      (first | assumption | (with_reducible exact HS0.out _ (by assumption)) | (with_reducible exact HS0.out _ (Below.drew (Below.refl _ _))))
      (first | (go_at_call 181; go_split_ands; (with_reducible refine Calls.mono (comes_any x _) ?_); rintro e w3 ⟨rfl, b3⟩; rw [HCS.out]; have q3 : Below W0.heap.size W0 w3 := below_more (by assumption) b3; clear b3))
    all_goals
      try go_wp2_with fail
      go_ret
      exact ⟨by rw [HV.out]; rfl, below_more FB.out (by assumption)⟩
  | true =>
    cases h2 : (cw == tw) with
    | false =>
      rw [h1, h2] at HV
      go_enter Try.func184, Try.ntmps184
      go_wp2_with fail
      rw [← HW0.out]
      go_region_held3 (fun W => Below W0.heap.size W0 W ∧ W.cell? ⟨w.heap.size, 0, none⟩ = some (.int .i64 x.piece) ∧ W.cell? ⟨w.heap.size, 1, none⟩ = some (.int .i64 x.side) ∧ W.cell? ⟨bs, 0, none⟩ = some (.slice (some ad) l.length c) ∧ W.cell? ⟨bi, 0, none⟩ = some (.int .i64 (i : Int)) ∧ W.cell? (ad.add (i * 2)) = some (.int .i64 tp) ∧ W.cell? ⟨(ad.add (i * 2)).block, (ad.add (i * 2)).off + 1, none⟩ = some (.int .i64 tw))
        (first | assumption | (with_reducible exact HS0.out _ (by assumption)) | (with_reducible exact HS0.out _ (Below.drew (Below.refl _ _))))
        (first | (go_at_call 181; go_split_ands; (with_reducible refine Calls.mono (comes_any x _) ?_); rintro e w3 ⟨rfl, b3⟩; rw [HCS.out]; have q3 : Below W0.heap.size W0 w3 := below_more (by assumption) b3; clear b3))
      all_goals
        try go_wp2_with fail
        go_ret
        exact ⟨by rw [HV.out]; rfl, below_more FB.out (by assumption)⟩
    | true =>
      rw [h1, h2] at HV
      go_enter Try.func184, Try.ntmps184
      go_wp2_with fail
      rw [← HW0.out]
      go_region_held3 (fun W => Below W0.heap.size W0 W ∧ W.cell? ⟨w.heap.size, 0, none⟩ = some (.int .i64 x.piece) ∧ W.cell? ⟨w.heap.size, 1, none⟩ = some (.int .i64 x.side) ∧ W.cell? ⟨bs, 0, none⟩ = some (.slice (some ad) l.length c) ∧ W.cell? ⟨bi, 0, none⟩ = some (.int .i64 (i : Int)) ∧ W.cell? (ad.add (i * 2)) = some (.int .i64 tp) ∧ W.cell? ⟨(ad.add (i * 2)).block, (ad.add (i * 2)).off + 1, none⟩ = some (.int .i64 tw))
        (first | assumption | (with_reducible exact HS0.out _ (by assumption)) | (with_reducible exact HS0.out _ (Below.drew (Below.refl _ _))))
        (first | (go_at_call 181; go_split_ands; (with_reducible refine Calls.mono (comes_any x _) ?_); rintro e w3 ⟨rfl, b3⟩; rw [HCS.out]; have q3 : Below W0.heap.size W0 w3 := below_more (by assumption) b3; clear b3))
      all_goals
        try go_wp2_with fail
        go_ret
        exact ⟨by rw [HV.out]; rfl, below_more FB.out (by assumption)⟩
end Go.Proofs.Ytckcffjnffcjcaa
namespace Go.Proofs.Ytckcffjnffcjcaa
open Go.RowKit Go.Proofs.YtckcffjnffcjcaaW.PrintWords
set_option maxRecDepth 100000 in
set_option maxHeartbeats 4000000 in
theorem index_any (E : Option Addr) (ce : Nat) (xs : List EndT) (bs bi : Nat) (A : Option Addr) (c : Nat) (l : List StepT) (i : Nat) (w : World) (hE : Kd.C kEnd w E xs.length xs) (hb : Bx w bs [.slice A l.length c]) (hi : Bx w bi [.int .i64 (i : Int)]) (hC : Kd.C kStep w A l.length l) (hil : i < l.length) :
    Calls Try.prog 183 #[.slice E xs.length ce, .func (.func 184) #[] #[.pointer (some ⟨bs, 0, none⟩), .pointer (some ⟨bi, 0, none⟩)]] w
      fun e w' => ∃ r : Int, e = .returned (.int .i64 r) ∧ ((r = -1 ∧ ∀ x ∈ xs, comesS x ≠ l.getD i default) ∨ ∃ q : Nat, r = (q : Int) ∧ q < xs.length ∧ comesS (xs.getD q default) = l.getD i default) ∧ Below w.heap.size w w' := by
  have hm := hE.2.1
  have HE := Aside0.mk hE
  have HB := Aside0.mk hb
  have HI := Aside0.mk hi
  have HC := Aside0.mk hC
  have HL := Aside0.mk hil
  clear hE hb hi hC hil
  go_enter Try.func183, Try.ntmps183
  go_wp2_with fail
  go_loopw [8] (fun v8 wr => ∃ q : Nat, v8 = .int .i64 (q : Int) ∧ q ≤ xs.length ∧ Aside0 (∀ k, k < q → comesS (xs.getD k default) ≠ l.getD i default) ∧ Aside0 (Below w.heap.size w wr)) (fun v8 _ => xs.length - (intOf v8).toNat)
  case atStart => exact ⟨0, rfl, Nat.zero_le _, ⟨fun k hk => by omega⟩, ⟨Below.refl _ _⟩⟩
  case round =>
    obtain ⟨q, rfl, hq, HN, HBr⟩ := hrel
    by_cases hlt : q < xs.length
    · obtain ⟨ad0, e0, y0, y1⟩ := at_End HE.out q hlt
      subst e0
      replace y0 := pw_cell_below HBr.out y0
      replace y1 := pw_cell_below HBr.out y1
      obtain ⟨x, hx⟩ : ∃ x, x = xs.getD q default := ⟨_, rfl⟩
      rw [← hx] at y0 y1
      have HX := Aside0.mk hx
      clear hx
      cases hd : decide (comesS x = l.getD i default) with
      | true =>
        have HD := Aside0.mk hd
        clear hd
        go_wp2_with (go_at_call 184; (with_reducible refine Calls.mono (isStep_any x bs bi A c l i _ (HB.out.below HBr.out) (HI.out.below HBr.out) (Kd.C_below HC.out HBr.out) HL.out) ?_); rintro e w3 ⟨rfl, b3⟩; rw [HD.out]; have B3 := Aside0.mk (below_more HBr.out b3); clear b3)
        go_ret
        exact ⟨(q : Int), rfl, .inr ⟨q, rfl, hlt, by rw [← HX.out]; exact of_decide_eq_true HD.out⟩, B3.out⟩
      | false =>
        have HD := Aside0.mk hd
        clear hd
        go_wp2_with (go_at_call 184; (with_reducible refine Calls.mono (isStep_any x bs bi A c l i _ (HB.out.below HBr.out) (HI.out.below HBr.out) (Kd.C_below HC.out HBr.out) HL.out) ?_); rintro e w3 ⟨rfl, b3⟩; rw [HD.out]; have B3 := Aside0.mk (below_more HBr.out b3); clear b3)
        go_roundw
        case rel => exact ⟨q + 1, by go_num, by omega, ⟨upto_step HN.out (by rw [← HX.out]; exact of_decide_eq_false HD.out)⟩, B3⟩
        case measure => simp [intOf]; omega
    · go_wp2_with fail
      go_ret
      refine ⟨-1, rfl, .inl ⟨rfl, fun x hx => ?_⟩, HBr.out⟩
      obtain ⟨k, hk, rfl⟩ := List.mem_iff_getElem.1 hx
      have := HN.out k (by omega)
      rwa [getD_at xs k hk] at this
end Go.Proofs.Ytckcffjnffcjcaa
namespace Go.Proofs.Ytckcffjnffcjcaa
def PI (n : NetT) (l : List StepT) (j : Nat) (out : List LieT) : Prop := 1 ≤ j ∧ out.length + 1 ≤ j ∧ liesAll n l = liesGo n (l.getD (j - 1) default) (l.drop j) out
theorem PI.start (n : NetT) (l : List StepT) : PI n l 1 [] := by
  refine ⟨Nat.le_refl _, by simp, ?_⟩
  cases l with
  | nil => rfl
  | cons s l => rfl
theorem PI.stop {n : NetT} {l : List StepT} {j : Nat} {out : List LieT} (h : PI n l j out) (hj : l.length ≤ j) : liesAll n l = some out := by
  rw [h.2.2, List.drop_eq_nil_of_le hj]; rfl
theorem drop_getDP (l : List StepT) (j : Nat) (hj : j < l.length) : l.drop j = l.getD j default :: l.drop (j + 1) := by
  rw [List.drop_eq_getElem_cons hj, getD_at l j hj]
theorem PI.fail {n : NetT} {l : List StepT} {j : Nat} {out : List LieT} (h : PI n l j out) (hj : j < l.length) (hs : stepLie n (l.getD (j - 1) default) (l.getD j default) = none) : liesAll n l = none := by
  rw [h.2.2, drop_getDP l j hj]
  simp only [liesGo, hs]
theorem PI.skip {n : NetT} {l : List StepT} {j : Nat} {out : List LieT} (h : PI n l j out) (hj : j < l.length) (hs : stepLie n (l.getD (j - 1) default) (l.getD j default) = some none) : PI n l (j + 1) out := by
  refine ⟨by omega, by have := h.2.1; omega, ?_⟩
  rw [h.2.2, drop_getDP l j hj]
  simp only [liesGo, hs, Nat.add_sub_cancel]
theorem PI.bad {n : NetT} {l : List StepT} {j : Nat} {out : List LieT} {x : LieT} (h : PI n l j out) (hj : j < l.length) (hs : stepLie n (l.getD (j - 1) default) (l.getD j default) = some (some x)) (ha : addLie out x = none) : liesAll n l = none := by
  rw [h.2.2, drop_getDP l j hj]
  simp only [liesGo, hs, ha]
theorem PI.add {n : NetT} {l : List StepT} {j : Nat} {out o : List LieT} {x : LieT} (h : PI n l j out) (hj : j < l.length) (hs : stepLie n (l.getD (j - 1) default) (l.getD j default) = some (some x)) (ha : addLie out x = some o) : PI n l (j + 1) o := by
  refine ⟨by omega, by have := addLie_len ha; have := h.2.1; omega, ?_⟩
  rw [h.2.2, drop_getDP l j hj]
  simp only [liesGo, hs, ha, Nat.add_sub_cancel]
end Go.Proofs.Ytckcffjnffcjcaa
namespace Go.Proofs.Ytckcffjnffcjcaa
open Go.RowKit Go.Proofs.YtckcffjnffcjcaaW.PrintWords
abbrev HdrT := Int × Int × Int × Int × (Option Addr × Nat × Nat)
def encH (x : Option Addr × Nat × Nat) : Value := .slice x.1 x.2.1 x.2.2
def kHdr : Kd HdrT := Kd.pair (Kd.int .i64) (Kd.pair (Kd.int .i64) (Kd.pair (Kd.int .i64) (Kd.pair (Kd.int .i64) (Kd.scalar encH (fun _ => rfl)))))
def hdrVals (x : HdrT) : List Value := [.int .i64 x.1, .int .i64 x.2.1, .int .i64 x.2.2.1, .int .i64 x.2.2.2.1, encH x.2.2.2.2]
theorem kHdr_open {w : World} {x : HdrT} {cs : List Value} (h : kHdr.K w x cs) : cs = hdrVals x := by
  obtain ⟨c0, d0, rfl, h0, c1, d1, rfl, h1, c2, d2, rfl, h2, c3, d3, rfl, h3, h4⟩ := h
  rw [show c0 = [.int .i64 x.1] from h0, show c1 = [.int .i64 x.2.1] from h1, show c2 = [.int .i64 x.2.2.1] from h2, show c3 = [.int .i64 x.2.2.2.1] from h3, show d3 = [encH x.2.2.2.2] from h4]; rfl
theorem kHdr_mkM (w : World) (base : Nat) (ok : Nat → Prop) (x : HdrT) : kHdr.M w base ok x (hdrVals x) :=
  ⟨[.int .i64 x.1], _, rfl, rfl, [.int .i64 x.2.1], _, rfl, rfl, [.int .i64 x.2.2.1], _, rfl, rfl, [.int .i64 x.2.2.2.1], [encH x.2.2.2.2], rfl, rfl, rfl⟩
theorem add_lit (g i : Nat) : (⟨g, 0, none⟩ : Addr).add i = ⟨g, i, none⟩ := by
  unfold Addr.add
  split
  · rename_i h; rw [h]
  · simp
theorem Bx.grownP {W w1 : World} {b : Nat} {row : Option Nat} {vs : List Value} (h : Bx W b vs) (hk : W.grownBy w1 row) (hne : some b ≠ row) : Bx w1 b vs := by
  have e : w1.heap[b]? = W.heap[b]? := hk.block b h.lt hne
  refine ⟨Nat.lt_of_lt_of_le h.lt hk.size, fun i v hv => ?_, fun i => ?_⟩
  · have := h.c i v hv
    unfold World.cell? at this ⊢
    simp only at this ⊢
    rw [e]; exact this
  · have := h.f i
    unfold World.frozen? at this ⊢
    simp only at this ⊢
    rw [e]; exact this
theorem gate_callP {P : Program} {ops : Array Oper} {rest : List Oper} {o : Oper} {a : Act} {Q : Exit → Act → World → Prop} {W : World} {b : Builtin} {xs : Array Operand} {ts : Array TypeId} (_ho : o.op = .call { callee := .builtin b, args := xs, argTypes := ts }) (h : wpList P ops Q (o :: rest) a W) : wpList P ops Q (o :: rest) a W := h
end Go.Proofs.Ytckcffjnffcjcaa
namespace Go.Proofs.Ytckcffjnffcjcaa
open Go.RowKit Go.Proofs.YtckcffjnffcjcaaW.PrintWords
theorem cell_put {W : World} {k : Nat} {o : Obj} {a : Addr} (h : a.block ≠ k) : (putMap W k o).cell? a = W.cell? a := by
  unfold World.cell?
  rw [putMap_other W k o h]
theorem lie_get {w : World} {b : Nat} {l : List (Int × Int)} (h : MapOf keyInt (.int .i64) w b l) (k : Int) :
    (Instr.lookup 222 (.map (some b)) (.int .i64 k) true).run Try.prog w = .ok (.tuple #[.int .i64 ((lk l k).getD 0), .bool (lk l k).isSome]) w := by
  have := h.lookup (t := 222) (e := 3) Try.underlying222 (zeroInt w) k true
  refine this.trans ?_
  cases lk l k <;> rfl
theorem lie_put {w : World} {b : Nat} {l : List (Int × Int)} (h : MapOf keyInt (.int .i64) w b l) (k v : Int) :
    ∃ o, (Instr.mapUpdate 222 (.map (some b)) (.int .i64 k) (.int .i64 v)).run Try.prog w = .ok () (putMap w b o) ∧ MapOf keyInt (.int .i64) (putMap w b o) b (up l k v) :=
  h.update (t := 222) (e := 3) Try.underlying222 k v
structure PJ (WA W : World) (v : Value) (bi : Nat) (J : Int) (out : List LieT) (lm : List (Int × Int)) : Prop where
  row : Kd.R kLie 111 W (WA.heap.size + 1) (fun g => g ≠ bi) v out
  map : MapOf keyInt (.int .i64) W WA.heap.size lm
  lies : LiesOf lm out
  box : Bx W bi [.int .i64 J]
  lt : WA.heap.size < bi
  b0 : Below WA.heap.size WA W
section
variable {WA W W1 : World} {v : Value} {bi : Nat} {J : Int} {out : List LieT} {lm : List (Int × Int)}
theorem PJ.below (h : PJ WA W v bi J out lm) (hb : Below W.heap.size W W1) : PJ WA W1 v bi J out lm :=
  ⟨Kd.R_below h.row hb, h.map.below hb, h.lies, h.box.below hb, h.lt, below_more h.b0 hb⟩
theorem PJ.sz (h : PJ WA W v bi J out lm) : WA.heap.size < W.heap.size := h.map.lt
theorem PJ.start (WA : World) : PJ WA ((WA.alloc (.map #[] 0)).alloc (.cells #[.int .i64 1] 3)) (.slice none 0 0) (WA.heap.size + 1) 1 [] [] :=
  ⟨Kd.R_nil .., (MapOf.made keyInt (.int .i64) WA).alloc _, LiesOf.nil, by
    have := Bx.new (WA.alloc (.map #[] 0)) [.int .i64 1] 3
    simpa using this, Nat.lt_succ_self _, below_two _ _ _⟩
theorem PJ.next (h : PJ WA W v bi J out lm) (J' : Int) : PJ WA (W.alloc (.cells #[.int .i64 J'] 3)) v W.heap.size J' out lm := by
  have ha := h.below (below_alloc (Below.refl _ _) (.cells #[.int .i64 J'] 3))
  have hb := h.sz
  refine ⟨?_, ha.map, h.lies, Bx.new W [.int .i64 J'] 3, hb, ha.b0⟩
  exact Kd.R_below (Kd.R_mono (Kd.R_bound h.row) (fun g hg => by
      show g ≠ W.heap.size
      have := hg.2.2.1; omega)) (below_alloc (Below.refl _ _) (.cells #[.int .i64 J'] 3))
theorem PJ.add {o : Obj} {w9 : World} {v9 : Value} {x : LieT} (h : PJ WA W v bi J out lm) (hn : lk lm x.joint = none) (hM : MapOf keyInt (.int .i64) (putMap W WA.heap.size o) WA.heap.size (up lm x.joint x.lie))
    (hR : Kd.R kLie 111 w9 (WA.heap.size + 1) (fun g => g ≠ bi) v9 (out ++ [x])) (hB : Below (WA.heap.size + 1) (putMap W WA.heap.size o) w9) (hG : (putMap W WA.heap.size o).grownBy w9 v.ownBlock) : PJ WA w9 v9 bi J (out ++ [x]) (up lm x.joint x.lie) := by
  refine ⟨hR, hM.move (hB.block _ (Nat.lt_succ_self _)), h.lies.up hn, (h.box.put (by have := h.lt; omega)).grownP hG (fun he => h.row.1 bi he.symm rfl), h.lt, ?_⟩
  have h1 : Below WA.heap.size WA (putMap W WA.heap.size o) := putMap_below h.b0 (Nat.le_refl _)
  exact h1.trans ⟨hB.os, hB.tape, hB.output, hB.size, fun i hi => hB.block i (by omega)⟩
theorem PJ.rowPut {o : Obj} (h : PJ WA W v bi J out lm) : Kd.R kLie 111 (putMap W WA.heap.size o) (WA.heap.size + 1) (fun g => g ≠ bi) v out :=
  Kd.R_mono (Kd.R_step (Kd.R_bound h.row) (fun g hg hlt => putMap_other W WA.heap.size o (by have := hg.2.1; omega))) (fun g hg => hg.1)
end
end Go.Proofs.Ytckcffjnffcjcaa
namespace Go.Proofs.Ytckcffjnffcjcaa
open Go.RowKit Go.Proofs.YtckcffjnffcjcaaW.PrintWords
def plOk (n : NetT) (l : List StepT) : Bool := stepsB n l && (liesAll n l).isSome
def plV (n : NetT) (l : List StepT) : List LieT := if stepsB n l = true then (liesAll n l).getD [] else []
theorem pl_bad {n : NetT} {l : List StepT} (h : stepsB n l = false) : plOk n l = false ∧ plV n l = [] := by
  unfold plOk plV; rw [h]; exact ⟨rfl, rfl⟩
theorem steps_long {n : NetT} {l : List StepT} (h : 400 < l.length) : stepsB n l = false := by
  unfold stepsB; rw [decide_eq_false (by omega)]; rfl
theorem steps_one {n : NetT} {l : List StepT} {i : Nat} (hi : i < l.length) (h : stepB n (l.getD i default) = false) : stepsB n l = false := by
  unfold stepsB
  have : l.all (stepB n) = false := by
    rw [List.all_eq_false]
    exact ⟨_, getD_mem l i hi, by rw [h]; simp⟩
  rw [this, Bool.and_false]
theorem steps_all' {n : NetT} {l : List StepT} (h : l.length ≤ 400) (h2 : ∀ k, k < l.length → stepB n (l.getD k default) = true) : stepsB n l = true := by
  unfold stepsB
  rw [decide_eq_true h, Bool.true_and, List.all_eq_true]
  intro x hx
  obtain ⟨k, hk, rfl⟩ := List.mem_iff_getElem.1 hx
  have := h2 k hk
  rwa [getD_at l k hk] at this
theorem across_both {n : NetT} (hg : Good n) {s : StepT} (hs : stepB n s = true) {e : EndT} (he : e = lookS s) : acrossG n e = acrossE n (lookS s) ∧ howG n e = howJ (jOf n (lookS s)) (kOf n (lookS s)) := by
  subst he
  obtain ⟨i, q, hat⟩ := hg.at_ (lookS_ok hs)
  obtain ⟨h1, h2⟩ := acrossG_at hat
  unfold acrossE
  rw [h1, h2, hat.j, hat.k]
  exact ⟨rfl, rfl⟩
theorem pl_fail {n : NetT} {l : List StepT} (h : liesAll n l = none) : plOk n l = false ∧ plV n l = [] := by
  unfold plOk plV
  rw [h]
  refine ⟨by simp, by simp⟩
theorem pl_done {n : NetT} {l : List StepT} (hs : stepsB n l = true) {out : List LieT} (h : liesAll n l = some out) : plOk n l = true ∧ plV n l = out := by
  unfold plOk plV
  rw [h, hs]
  exact ⟨rfl, rfl⟩
theorem at_both {n : NetT} (hg : Good n) {s : StepT} (hs : stepB n s = true) {e : EndT} (he : e = lookS s) : atEnd n e = ((iOf n (lookS s) : Int), (atEnd n e).2) := by
  subst he
  obtain ⟨i, q, hat⟩ := hg.at_ (lookS_ok hs)
  rw [hat.i, hat.eq]
def ptrOf : Value → Addr
  | .pointer (some a) => a
  | _ => ⟨0, 0, none⟩
set_option maxRecDepth 100000 in
set_option maxHeartbeats 8000000 in
theorem implPL_any (n : NetT) (u : (Option Addr × Nat) × (Option Addr × Nat)) (A : Option Addr) (c : Nat) (l : List StepT) (w : World) (hr : RdNet 67 w u n) (hg : Good n) (hC : Kd.C kStep w A l.length l) :
    Calls Try.prog 148 #[.agg #[.slice u.1.1 n.pieces.length u.1.2, .slice u.2.1 n.joints.length u.2.2], .slice A l.length c] w
      fun e w' => ∃ v, e = .returned (.tuple #[v, .bool (plOk n l)]) ∧ Kd.R kLie 111 w' w.heap.size (fun _ => True) v (plV n l) ∧ Below w.heap.size w w' := by
  have HR := Aside0.mk hr
  have HG := Aside0.mk hg
  have HC := Aside0.mk hC
  have hm0 := hr.1.1.2.1
  have hml := hC.2.1
  have hp1 := hg.p1
  obtain ⟨⟨A0, c0⟩, ⟨A1, c1⟩⟩ := u
  obtain ⟨W0, hW0⟩ : ∃ W0 : World, W0 = (w.alloc (.cells #[.slice A0 n.pieces.length c0, .slice A1 n.joints.length c1] 35)).alloc (.cells #[.slice A l.length c] 83) := ⟨_, rfl⟩
  have N0 : Aside0 (Bx W0 w.heap.size [.slice A0 n.pieces.length c0, .slice A1 n.joints.length c1]) := ⟨by rw [hW0]; exact (Bx.new w [.slice A0 n.pieces.length c0, .slice A1 n.joints.length c1] 35).alloc _⟩
  have S0 : Aside0 (Bx W0 (w.heap.size + 1) [.slice A l.length c]) := ⟨by
    have := Bx.new (w.alloc (.cells #[.slice A0 n.pieces.length c0, .slice A1 n.joints.length c1] 35)) [.slice A l.length c] 83
    rw [hW0]; simpa using this⟩
  have B0 : Aside0 (Below w.heap.size w W0) := ⟨by rw [hW0]; exact below_two _ _ _⟩
  have HW0 := Aside0.mk hW0
  clear hr hg hC hW0
  by_cases h400 : (400 : Int) < (l.length : Int)
  · have HV := Aside0.mk (pl_bad (n := n) (steps_long (l := l) (by omega)))
    go_enter Try.func148, Try.ntmps148
    go_wp2_with fail
    refine bodyPost_ret (v := .tuple #[.slice none 0 0, .bool false]) (by simp [results, Try.results148, go_sem]) rfl ⟨.slice none 0 0, by rw [HV.out.1], by rw [HV.out.2]; exact Kd.R_nil .., below_two _ _ _⟩
  · have hmm := @run_makeMap Try.prog
    have s0 := S0.out.c 0 _ rfl
    go_enter Try.func148, Try.ntmps148
    go_wp2_with fail
    rw [← HW0.out]
    clear s0
    go_loopw [23] (fun v23 wr => ∃ i : Nat, v23 = .int .i64 (i : Int) ∧ i ≤ l.length ∧ Aside0 (∀ k, k < i → stepB n (l.getD k default) = true) ∧ Aside0 (Below W0.heap.size W0 wr)) (fun v23 _ => l.length - (intOf v23).toNat)
    case atStart => exact ⟨0, rfl, Nat.zero_le _, ⟨fun k hk => by omega⟩, ⟨Below.refl _ _⟩⟩
    case round =>
      obtain ⟨i, rfl, hi, HT, HBr⟩ := hrel
      have N1 := Aside0.mk (N0.out.below HBr.out)
      by_cases hlt : i < l.length
      · obtain ⟨ad0, e0, y0, y1⟩ := at_Step HC.out i hlt
        subst e0
        have hbw := below_more B0.out HBr.out
        replace y0 := pw_cell_below hbw y0
        replace y1 := pw_cell_below hbw y1
        have HBW := Aside0.mk hbw
        obtain ⟨⟨sp, sw⟩, hs⟩ : ∃ s, s = l.getD i default := ⟨_, rfl⟩
        rw [← hs] at y0 y1
        have N2 := Aside0.mk (N1.out.alloc (.cells #[.int .i64 sp, .int .i64 sw] 85))
        have B2 := Aside0.mk (below_alloc HBr.out (.cells #[.int .i64 sp, .int .i64 sw] 85))
        have BW2 := Aside0.mk (below_alloc hbw (.cells #[.int .i64 sp, .int .i64 sw] 85))
        have n0 := N2.out.c 0 _ rfl
        cases hb : stepB n ⟨sp, sw⟩ with
        | true =>
          obtain ⟨h0, h1, h2⟩ := stepB_iff.1 hb
          simp only at h0 h1 h2
          have HSB := Aside0.mk (show stepB n (l.getD i default) = true by rw [← hs]; exact hb)
          have q0 : ¬ sp < 0 := by omega
          have q1 : ¬ (n.pieces.length : Int) ≤ sp := by omega
          clear hs hb hbw h0 h1
          rcases h2 with h2 | h2
          · subst h2
            go_wp2_with fail
            go_roundw
            case rel => exact ⟨i + 1, by go_num, by omega, ⟨upto_step HT.out HSB.out⟩, B2⟩
            case measure => simp [intOf]; omega
          · subst h2
            go_wp2_with fail
            go_roundw
            case rel => exact ⟨i + 1, by go_num, by omega, ⟨upto_step HT.out HSB.out⟩, B2⟩
            case measure => simp [intOf]; omega
        | false =>
          have HV := Aside0.mk (pl_bad (steps_one hlt (by rw [← hs]; exact hb)))
          have hnb : ¬ (0 ≤ sp ∧ sp < (n.pieces.length : Int) ∧ (sw = 1 ∨ sw = -1)) := fun h => by rw [stepB_iff.2 h] at hb; cases hb
          clear hs hb hbw
          by_cases q0 : sp < 0
          · clear hnb
            go_wp2_with fail
            refine bodyPost_ret (v := .tuple #[.slice none 0 0, .bool false]) (by simp [results, Try.results148, go_sem]) rfl ⟨.slice none 0 0, by rw [HV.out.1], by rw [HV.out.2]; exact Kd.R_nil .., BW2.out⟩
          · by_cases q1 : (n.pieces.length : Int) ≤ sp
            · clear hnb
              go_wp2_with fail
              refine bodyPost_ret (v := .tuple #[.slice none 0 0, .bool false]) (by simp [results, Try.results148, go_sem]) rfl ⟨.slice none 0 0, by rw [HV.out.1], by rw [HV.out.2]; exact Kd.R_nil .., BW2.out⟩
            · have q2 : (sw != 1) = true := by
                have : ¬ sw = 1 := fun h => hnb ⟨by omega, by omega, .inl h⟩
                simpa using this
              have q3 : (sw != -1) = true := by
                have : ¬ sw = -1 := fun h => hnb ⟨by omega, by omega, .inr h⟩
                simpa using this
              clear hnb
              go_wp2_with fail
              refine bodyPost_ret (v := .tuple #[.slice none 0 0, .bool false]) (by simp [results, Try.results148, go_sem]) rfl ⟨.slice none 0 0, by rw [HV.out.1], by rw [HV.out.2]; exact Kd.R_nil .., BW2.out⟩
      · have HT1 := Aside0.mk (show ∀ k, k < l.length → stepB n (l.getD k default) = true from fun k hk => HT.out k (by omega))
        have HSB := Aside0.mk (steps_all' (n := n) (l := l) (by omega) HT1.out)
        have HBW := Aside0.mk (below_more B0.out HBr.out)
        have S1 := Aside0.mk (S0.out.below HBr.out)
        go_wp2_with fail
        clear hlt hi
        obtain ⟨WA, hWA⟩ : ∃ WA : World, WA = wr := ⟨_, rfl⟩
        rw [← hWA] at HBr N1 HBW S1 ⊢
        clear hWA
        go_loopw [8, 10] (fun v8 v10 wr => ∃ (j bi : Nat) (out : List LieT) (lm : List (Int × Int)) (J : Int), v10 = .pointer (some ⟨bi, 0, none⟩) ∧ J = (j : Int) ∧ 1 ≤ j ∧ j ≤ l.length + 1 ∧ Aside0 (PI n l j out) ∧ Aside0 (PJ WA wr v8 bi J out lm)) (fun v8 v10 wr => l.length + 1 - (intOf ((wr.cell? (ptrOf v10)).getD (.int .i64 0))).toNat)
        case atStart => exact ⟨1, WA.heap.size + 1, [], [], 1, rfl, rfl, Nat.le_refl _, by omega, ⟨PI.start n l⟩, ⟨PJ.start WA⟩⟩
        case round =>
          obtain ⟨j, bi, out, lm, J, rfl, hJ, hj1, hj2, HP, HQ⟩ := hrel
          have HBt := Aside0.mk (below_more HBW.out HQ.out.b0)
          have N2 := Aside0.mk (N1.out.below HQ.out.b0)
          have S2 := Aside0.mk (S1.out.below HQ.out.b0)
          have HJ := Aside0.mk hJ
          have i0 := HQ.out.box.c 0 _ rfl
          have s0 := S2.out.c 0 _ rfl
          by_cases hlt : j < l.length
          · have hJ1 : J < (l.length : Int) := by omega
            obtain ⟨k, rfl⟩ : ∃ k, j = k + 1 := ⟨j - 1, by omega⟩
            have hkl : k < l.length := by omega
            obtain ⟨ad0, e0, y0, y1⟩ := at_Step HC.out k hkl
            subst e0
            replace y0 := pw_cell_below HBt.out y0
            replace y1 := pw_cell_below HBt.out y1
            have hst := HT1.out k hkl
            have htt := HT1.out (k + 1) hlt
            have HTT := Aside0.mk htt
            obtain ⟨⟨sp, sw⟩, hs⟩ : ∃ s, s = l.getD k default := ⟨_, rfl⟩
            rw [← hs] at y0 y1 hst
            have HS := Aside0.mk hs
            have HST := Aside0.mk hst
            obtain ⟨⟨lp, ls⟩, hlk⟩ : ∃ e, e = lookS ⟨sp, sw⟩ := ⟨_, rfl⟩
            have HLK := Aside0.mk hlk.symm
            have HA := Aside0.mk (across_both HG.out hst hlk)
            have hJ2 : IntKind.i64.wrap (J - 1) = (k : Int) := by rw [wrap64 (by omega) (by omega)]; omega
            have HJ3 : Aside0 (Go.RowKit.wrap64 (J + 1) = ((k + 1 + 1 : Nat) : Int)) := ⟨by rw [hJ]; unfold Go.RowKit.wrap64; push_cast; omega⟩
            have hk0 : (0 : Int) ≤ (k : Int) := by omega
            have hk1 : (k : Int) < (l.length : Int) := by omega
            clear hs hst htt hlk hJ hj1 hj2
            have n0 := N2.out.c 0 _ rfl; have n1 := N2.out.c 1 _ rfl
            have HS0 : Aside0 (∀ W, Below wr.heap.size wr W → (Below wr.heap.size wr W ∧ W.cell? ⟨w.heap.size, 0, none⟩ = some (.slice A0 n.pieces.length c0) ∧ W.cell? ⟨w.heap.size, 1, none⟩ = some (.slice A1 n.joints.length c1) ∧ W.cell? ⟨w.heap.size + 1, 0, none⟩ = some (.slice (some ad0) l.length c) ∧ W.cell? ⟨bi, 0, none⟩ = some (.int .i64 J) ∧ W.cell? (ad0.add (k * 2)) = some (.int .i64 sp) ∧ W.cell? ⟨(ad0.add (k * 2)).block, (ad0.add (k * 2)).off + 1, none⟩ = some (.int .i64 sw))) :=
              ⟨fun W hb => ⟨hb, (N2.out.below hb).c 0 _ rfl, (N2.out.below hb).c 1 _ rfl, (S2.out.below hb).c 0 _ rfl, (HQ.out.below hb).box.c 0 _ rfl, pw_cell_below hb y0, pw_cell_below hb y1⟩⟩
            go_wp2_with fail
            go_region_held3 (fun W => Below wr.heap.size wr W ∧ W.cell? ⟨w.heap.size, 0, none⟩ = some (.slice A0 n.pieces.length c0) ∧ W.cell? ⟨w.heap.size, 1, none⟩ = some (.slice A1 n.joints.length c1) ∧ W.cell? ⟨w.heap.size + 1, 0, none⟩ = some (.slice (some ad0) l.length c) ∧ W.cell? ⟨bi, 0, none⟩ = some (.int .i64 J) ∧ W.cell? (ad0.add (k * 2)) = some (.int .i64 sp) ∧ W.cell? ⟨(ad0.add (k * 2)).block, (ad0.add (k * 2)).off + 1, none⟩ = some (.int .i64 sw))
              (first | assumption | (with_reducible exact HS0.out _ (by assumption)) | (with_reducible exact HS0.out _ (Below.drew (Below.refl _ _))))
              (first
                | (go_at_call 155; go_split_ands; (with_reducible refine Calls.mono (looked_any ⟨sp, sw⟩ _) ?_); rintro e w3 ⟨rfl, b3⟩; rw [HLK.out]; have q3 : Below wr.heap.size wr w3 := below_more (by assumption) b3; clear b3)
                | (go_at_call 136; go_split_ands; (with_reducible refine Calls.mono (over_any n ((A0, c0), (A1, c1)) ⟨lp, ls⟩ _ (HR.out.below (below_more HBt.out (by assumption))) HG.out) ?_); rintro e w4 ⟨v1, v2, rfl, hr1, hr2, b4⟩; have q4 : Below wr.heap.size wr w4 := below_more (by assumption) b4; have B4 := Aside0.mk q4; have X1 := Aside0.mk (Kd.R_lower hr1 (Below.size (w := wr) (by assumption))); have X2 := Aside0.mk (Kd.R_lower hr2 (Below.size (w := wr) (by assumption))); clear b4 hr1 hr2))
            all_goals
              rw [HA.out.1] at X1
              rw [HA.out.2] at X2
              obtain ⟨A4, c4, e4, hc4, hC4⟩ := Kd.R_reads X1.out
              obtain ⟨A5, c5, e5, hc5, hC5⟩ := Kd.R_reads X2.out
              subst e4 e5
              have HC4 := Aside0.mk hC4
              have HC5 := Aside0.mk hC5
              have hm5 := hC5.2.1
              clear hC4 hC5 hc4 hc5
              have Q4 := Aside0.mk (HQ.out.below B4.out)
              have S4 := Aside0.mk (S2.out.below B4.out)
              have N4 := Aside0.mk (N2.out.below B4.out)
              have hmf : ∀ (fn : Fn) (first cap : Array Value) (w : World), (Instr.makeFunc fn first cap).run Try.prog w = .ok (.func fn first cap) w := fun _ _ _ _ => rfl
              go_wp2_with fail
              (with_reducible refine Calls.mono (index_any A4 c4 _ (w.heap.size + 1) bi (some ad0) c l (k + 1) _ HC4.out S4.out (by rw [HJ.out] at Q4; exact Q4.out.box) (Kd.C_below HC.out (below_more HBt.out B4.out)) hlt) ?_)
              rintro e w5 ⟨r, rfl, hd, b5⟩
              have Q5 := Aside0.mk (Q4.out.below b5)
              have S5 := Aside0.mk (S4.out.below b5)
              have N5 := Aside0.mk (N4.out.below b5)
              have B5 := Aside0.mk (below_more (below_more HBt.out B4.out) b5)
              have C5 := Aside0.mk (Kd.C_below HC5.out b5)
              have y50 := pw_cell_below (below_more B4.out b5) y0
              have y51 := pw_cell_below (below_more B4.out b5) y1
              clear b5 y0 y1 i0 s0 n0 n1
              rcases hd with ⟨rfl, hn⟩ | ⟨q, rfl, hq, hc⟩
              · have HV := Aside0.mk (pl_fail (HP.out.fail hlt (show stepLie n (l.getD k default) (l.getD (k + 1) default) = none by rw [← HS.out]; exact stepLie_none HG.out HST.out HTT.out hn)))
                clear hn
                go_wp2_with fail
                refine bodyPost_ret (v := .tuple #[.slice none 0 0, .bool false]) (by simp [results, Try.results148, go_sem]) rfl ⟨.slice none 0 0, by rw [HV.out.1], by rw [HV.out.2]; exact Kd.R_nil .., B5.out⟩
              · have HSL := Aside0.mk (stepLie_some HG.out HST.out HTT.out hq hc)
                have hqh := (how_at HG.out (lookS_ok HST.out) hq).1
                obtain ⟨ad5, e5, z0⟩ := at_Int C5.out q hqh
                subst e5
                have hqi : (q : Int) < ((howJ (jOf n (lookS ⟨sp, sw⟩)) (kOf n (lookS ⟨sp, sw⟩))).length : Int) := by omega
                have hq0 : (0 : Int) ≤ (q : Int) := by omega
                have hqn : ¬ (q : Int) < 0 := by omega
                obtain ⟨LH, hLH⟩ : ∃ x, x = (howJ (jOf n (lookS ⟨sp, sw⟩)) (kOf n (lookS ⟨sp, sw⟩))).length := ⟨_, rfl⟩
                rw [← hLH] at hqi hm5 ⊢
                obtain ⟨h, hh⟩ : ∃ x, x = (howJ (jOf n (lookS ⟨sp, sw⟩)) (kOf n (lookS ⟨sp, sw⟩))).getD q 0 := ⟨_, rfl⟩
                rw [← hh] at z0 HSL
                have HBL : Aside0 (ad5.block ≠ WA.heap.size) := ⟨by
                  have h1 := Kd.R_base X2.out ad5.block rfl
                  have h2 := HQ.out.sz
                  omega⟩
                clear hq hc hqh hLH hh
                have i5 := Q5.out.box.c 0 _ rfl
                by_cases hz : h = 0
                · subst hz
                  rw [if_pos rfl] at HSL
                  go_wp2_with fail
                  go_roundw
                  case rel => exact ⟨k + 1 + 1, w5.heap.size, out, lm, _, rfl, HJ3.out, by omega, by omega, ⟨HP.out.skip hlt (show stepLie n (l.getD k default) (l.getD (k + 1) default) = some none by rw [← HS.out]; exact HSL.out)⟩, ⟨Q5.out.next _⟩⟩
                  case measure =>
                    have e1 := (Q5.out.next (Go.RowKit.wrap64 (J + 1))).box.c 0 _ rfl
                    have e2 := HQ.out.box.c 0 _ rfl
                    have e3 := HJ.out
                    simp [ptrOf, intOf, e1, e2, HJ3.out]
                    omega
                · rw [if_neg hz] at HSL
                  have hzb : (h == 0) = false := by simpa using hz
                  obtain ⟨I, hI⟩ : ∃ I, I = iOf n (lookS ⟨sp, sw⟩) := ⟨_, rfl⟩
                  obtain ⟨K, hK⟩ : ∃ K, K = (atEnd n ⟨lp, ls⟩).2 := ⟨_, rfl⟩
                  have HAT := Aside0.mk (show atEnd n ⟨lp, ls⟩ = ((I : Int), K) from by rw [hI, hK]; exact at_both HG.out HST.out HLK.out.symm)
                  rw [← hI] at HSL
                  clear hI hK hz
                  have HT0 : Aside0 (∀ W, Below w5.heap.size w5 W → (Below w5.heap.size w5 W ∧ W.cell? ⟨w.heap.size, 0, none⟩ = some (.slice A0 n.pieces.length c0) ∧ W.cell? ⟨w.heap.size, 1, none⟩ = some (.slice A1 n.joints.length c1) ∧ W.cell? ⟨w.heap.size + 1, 0, none⟩ = some (.slice (some ad0) l.length c) ∧ W.cell? ⟨bi, 0, none⟩ = some (.int .i64 J) ∧ W.cell? (ad0.add (k * 2)) = some (.int .i64 sp) ∧ W.cell? ⟨(ad0.add (k * 2)).block, (ad0.add (k * 2)).off + 1, none⟩ = some (.int .i64 sw))) :=
                    ⟨fun W hb => ⟨hb, (N5.out.below hb).c 0 _ rfl, (N5.out.below hb).c 1 _ rfl, (S5.out.below hb).c 0 _ rfl, (Q5.out.below hb).box.c 0 _ rfl, pw_cell_below hb y50, pw_cell_below hb y51⟩⟩
                  have n0 := N5.out.c 0 _ rfl; have n1 := N5.out.c 1 _ rfl; have s0 := S5.out.c 0 _ rfl
                  have Z0 := Aside0.mk z0
                  clear y50 y51
                  go_wp2_with fail
                  go_region_held3 (fun W => Below w5.heap.size w5 W ∧ W.cell? ⟨w.heap.size, 0, none⟩ = some (.slice A0 n.pieces.length c0) ∧ W.cell? ⟨w.heap.size, 1, none⟩ = some (.slice A1 n.joints.length c1) ∧ W.cell? ⟨w.heap.size + 1, 0, none⟩ = some (.slice (some ad0) l.length c) ∧ W.cell? ⟨bi, 0, none⟩ = some (.int .i64 J) ∧ W.cell? (ad0.add (k * 2)) = some (.int .i64 sp) ∧ W.cell? ⟨(ad0.add (k * 2)).block, (ad0.add (k * 2)).off + 1, none⟩ = some (.int .i64 sw))
                    (first | assumption | (with_reducible exact HT0.out _ (by assumption)) | (with_reducible exact HT0.out _ (Below.drew (Below.refl _ _))))
                    (first
                      | (go_at_call 155; go_split_ands; (with_reducible refine Calls.mono (looked_any ⟨sp, sw⟩ _) ?_); rintro e w6 ⟨rfl, b6⟩; rw [HLK.out]; have q6 : Below w5.heap.size w5 w6 := below_more (by assumption) b6; clear b6)
                      | (go_at_call 134; go_split_ands; (with_reducible refine Calls.mono (at_any n ((A0, c0), (A1, c1)) ⟨lp, ls⟩ _ (HR.out.below (below_more B5.out (by assumption)))) ?_); rintro e w7 ⟨rfl, b7⟩; rw [HAT.out]; have q7 : Below w5.heap.size w5 w7 := below_more (by assumption) b7; have B7 := Aside0.mk q7; clear b7))
                  all_goals
                    have Q7 := Aside0.mk (Q5.out.below B7.out)
                    have i7 := Q7.out.box.c 0 _ rfl
                    have z7 := pw_cell_below B7.out Z0.out
                    clear z0 i5 n0 n1 s0 Z0
                    cases hl : lk lm (I : Int) with
                    | none =>
                      have hg := lie_get Q7.out.map (I : Int)
                      rw [hl] at hg
                      simp only [Option.getD_none, Option.isSome_none] at hg
                      obtain ⟨o8, hput, hM8⟩ := lie_put Q7.out.map (I : Int) h
                      have HL := Aside0.mk hl
                      have M8 := Aside0.mk hM8
                      obtain ⟨W8, hW8⟩ : ∃ W8, W8 = putMap w7 WA.heap.size o8 := ⟨_, rfl⟩
                      have HW8 := Aside0.mk hW8
                      have z8 : W8.cell? (ad5.add q) = some (.int .i64 h) := by rw [hW8]; exact (cell_put (a := ad5.add q) (by have := HBL.out; unfold Addr.add; split <;> exact this)).trans z7
                      have hr8 := Q7.out.rowPut (o := o8)
                      have hs8 : WA.heap.size + 1 ≤ W8.heap.size := by rw [hW8]; unfold putMap; simp; exact Q7.out.sz
                      have hs8' : bi < W8.heap.size := by rw [hW8]; unfold putMap; simp; exact Q7.out.box.lt
                      rw [← hW8] at hput hr8
                      have HR8 := Aside0.mk hr8
                      have HS8 := Aside0.mk hs8
                      have HS8' := Aside0.mk hs8'
                      have HOL := Aside0.mk (show out.length ≤ 400 from by have := HP.out.2.1; omega)
                      clear hl hM8 hW8 hr8 hs8 hs8'
                      go_wp2_with ((with_reducible refine gate_callP (b := .append) (xs := #[.tmp 103, .tmp 110]) rfl ?_); at_builtin; refine Kd.R_append kLie (w0 := W8) (WA.heap.size + 1) rfl (.tmp 103) (.tmp 110) 95 111 (.agg #[.int .i64 0, .int .i64 0]) 16 rfl Try.underlying95 info111 rfl (by decide) (by omega) u8 out ⟨I, h⟩ [.int .i64 I, .int .i64 h] (fun g => g ≠ bi) (fun _ => False) rfl (by first | (go_simp; done) | (go_simp; rfl)) (kLie_mkM _ _ _ ⟨I, h⟩) (fun _ hk => hk.elim) (fun g hg => by have := HS8'.out; show g ≠ bi; omega) HR8.out (Below.refl _ _) HS8.out (by have := HOL.out; omega) ?_; intro v9 w9 hR9 hB9 hG9 hat9; have Q9 := Aside0.mk (PJ.add (x := ⟨I, h⟩) Q7.out HL.out M8.out hR9 (by rw [← HW8.out]; exact hB9) (by rw [← HW8.out]; exact hG9)); have i9 := Q9.out.box.c 0 _ rfl; clear hR9 hB9 hG9 hat9)
                      go_roundw
                      case rel => exact ⟨k + 1 + 1, w9.heap.size, _, _, _, rfl, HJ3.out, by omega, by omega, ⟨HP.out.add hlt (show stepLie n (l.getD k default) (l.getD (k + 1) default) = _ by rw [← HS.out]; exact HSL.out) (Q7.out.lies.lacks HL.out)⟩, ⟨Q9.out.next _⟩⟩
                      case measure =>
                        have e1 := (Q9.out.next (Go.RowKit.wrap64 (J + 1))).box.c 0 _ rfl
                        have e2 := HQ.out.box.c 0 _ rfl
                        have e3 := HJ.out
                        simp [ptrOf, intOf, e1, e2, HJ3.out]
                        omega
                    | some v =>
                      have hg := lie_get Q7.out.map (I : Int)
                      rw [hl] at hg
                      simp only [Option.getD_some, Option.isSome_some] at hg
                      have HAD := Aside0.mk (Q7.out.lies.has (x := ⟨I, h⟩) hl)
                      clear hl
                      by_cases hv : v = h
                      · subst hv
                        rw [if_pos rfl] at HAD
                        have hvv : (v != v) = false := by simp
                        go_wp2_with fail
                        go_roundw
                        case rel => exact ⟨k + 1 + 1, w7.heap.size, out, lm, _, rfl, HJ3.out, by omega, by omega, ⟨HP.out.add hlt (show stepLie n (l.getD k default) (l.getD (k + 1) default) = _ by rw [← HS.out]; exact HSL.out) HAD.out⟩, ⟨Q7.out.next _⟩⟩
                        case measure =>
                          have e1 := (Q7.out.next (Go.RowKit.wrap64 (J + 1))).box.c 0 _ rfl
                          have e2 := HQ.out.box.c 0 _ rfl
                          have e3 := HJ.out
                          simp [ptrOf, intOf, e1, e2, HJ3.out]
                          omega
                      · rw [if_neg hv] at HAD
                        have hvv : (v != h) = true := by simpa using hv
                        have HV := Aside0.mk (pl_fail (HP.out.bad hlt (show stepLie n (l.getD k default) (l.getD (k + 1) default) = _ by rw [← HS.out]; exact HSL.out) HAD.out))
                        have B9 := Aside0.mk (below_more B5.out B7.out)
                        clear hv
                        go_wp2_with fail
                        refine bodyPost_ret (v := .tuple #[.slice none 0 0, .bool false]) (by simp [results, Try.results148, go_sem]) rfl ⟨.slice none 0 0, by rw [HV.out.1], by rw [HV.out.2]; exact Kd.R_nil .., B9.out⟩
          · have HD := Aside0.mk (pl_done HSB.out (HP.out.stop (by omega)))
            have hJ1 : ¬ J < (l.length : Int) := by omega
            clear hlt hj1 hj2 hJ
            go_wp2_with fail
            refine bodyPost_ret (v := .tuple #[u8, .bool true]) (by simp [results, Try.results148, go_sem]) rfl ⟨u8, by rw [HD.out.1], by rw [HD.out.2]; exact Kd.R_lower (Kd.R_mono HQ.out.row (fun _ _ => trivial)) (by have := HBW.out.size; omega), HBt.out⟩
end Go.Proofs.Ytckcffjnffcjcaa
namespace Go.Proofs.Ytckcffjnffcjcaa
def sideN (b : SpotT) : Nat := if b.way = -1 then 1 else 0
theorem num_spot {n : NetT} {b : SpotT} (h : spotB n b = true) : 2 * b.piece + (sideN b : Int) = (numS (stepOf b) : Int) := by
  have := spotB_iff.1 h
  unfold numS stepOf sideN
  simp only
  rcases this.2.2.1 with e | e <;> rw [e] <;> simp <;> omega
def directC (a b : SpotT) : CarT := ⟨b, (b.at_ - a.at_) * a.way, [stepOf a]⟩
structure BestIs (n : NetT) (a b : SpotT) (ok : Bool) (x : CarT) : Prop where
  ok_ : ok = (shortV n a b).ok
  far : ok = true → x.far = (shortV n a b).far
  steps : ok = true → x.steps = (shortV n a b).steps
theorem BestIs.direct {n : NetT} {a b : SpotT} (h : directB a b = true) : BestIs n a b true (directC a b) := by
  refine ⟨?_, fun _ => ?_, fun _ => ?_⟩ <;> simp [shortV, h, directC]
theorem BestIs.none_ {n : NetT} {a b : SpotT} {x : CarT} (h : directB a b = false) (hn : shortL n (stepOf a) (stepOf b) = none) : BestIs n a b false x := by
  refine ⟨?_, fun h => (by cases h), fun h => (by cases h)⟩
  unfold shortV farV
  rw [if_neg (by rw [h]; simp), hn]
  rfl
theorem short_no {n : NetT} {a b : SpotT} (h : (shortV n a b).ok = false) : shortV n a b = noPath := by
  unfold shortV at h ⊢
  split at h
  · cases h
  · rename_i hd
    rw [if_neg hd]
    unfold farV at h ⊢
    split at h
    · rfl
    · cases h
theorem far_car {n : NetT} {a b : SpotT} {l : List StepT} (h : shortL n (stepOf a) (stepOf b) = some l) : (carOf n a l).far + inOf n b = (farV n a b).far ∧ (carOf n a l).steps = (farV n a b).steps ∧ (farV n a b).ok = true := by
  have hl := shortL_is h
  obtain rfl | ⟨m, t, rfl⟩ := snoc_cases l
  · exact absurd rfl hl.ne
  · have ht : t = stepOf b := by have := hl.last; rw [lastS_snoc] at this; exact this
    unfold farV
    rw [h]
    refine ⟨?_, rfl, rfl⟩
    show farW n a (m ++ [t]) + inOf n b = roomS n a + (weighS n (m ++ [t]) - lenP n b.piece) + inOf n b
    rw [farW_snoc, weighS_append, weighS_one, ht]
    have : lenS n (stepOf b) = lenP n b.piece := rfl
    omega
theorem BestIs.way {n : NetT} {a b : SpotT} {l : List StepT} {sp : SpotT} {far : Int} {steps : List StepT} (h : directB a b = false) (hn : shortL n (stepOf a) (stepOf b) = some l) (hf : far = (carOf n a l).far + inOf n b) (hs : steps = (carOf n a l).steps) : BestIs n a b true ⟨sp, far, steps⟩ := by
  obtain ⟨h1, h2, h3⟩ := far_car hn
  have e : shortV n a b = farV n a b := by unfold shortV; rw [if_neg (by rw [h]; simp)]
  exact ⟨by rw [e, h3], fun _ => by rw [e, ← h1]; exact hf, fun _ => by rw [e, ← h2]; exact hs⟩
theorem direct_room {n : NetT} {a b : SpotT} (ha : spotB n a = true) (hb : spotB n b = true) (h : directB a b = true) : 0 ≤ (b.at_ - a.at_) * a.way ∧ (b.at_ - a.at_) * a.way ≤ roomS n a := by
  unfold directB at h
  simp only [decide_eq_true_eq] at h
  have hw := way_cases ha
  have h3 := spotB_iff.1 ha
  have h4 := spotB_iff.1 hb
  refine ⟨h.2.2, ?_⟩
  have hp := h.1
  rw [hp] at h3
  unfold roomS
  rw [hp]
  rcases hw with h | h <;> rw [h] <;> simp <;> omega
theorem direct_least {n : NetT} (hg : Good n) {a b : SpotT} (ha : spotB n a = true) (hb : spotB n b = true) (h : directB a b = true) {l : List StepT} (hn : shortL n (stepOf a) (stepOf b) = some l) {sp : SpotT} {far : Int} {steps : List StepT} (hf : far = (carOf n a l).far + inOf n b) (hs : steps = (carOf n a l).steps) :
    lessCar ⟨sp, far, steps⟩ (directC a b) = false := by
  have hl := shortL_is hn
  have h1 := weigh_last hg l (stepOf a) (stepOf_ok ha) hl.f hl.ne
  rw [hl.last] at h1
  have h2 : lenS n (stepOf b) = lenP n b.piece := rfl
  have h3 := (direct_room ha hb h).2
  have h4 := (inOf_bd hb).1
  obtain ⟨h5, h6, h7⟩ := far_car hn
  have h8 : (farV n a b).far = roomS n a + (weighS n l - lenP n b.piece) + inOf n b := by unfold farV; rw [hn]
  have hlen : 0 < l.length := List.length_pos_iff.2 hl.ne
  have hsl : steps.length = l.length + 1 := by rw [hs]; rfl
  unfold lessCar directC
  simp only [List.length_cons, List.length_nil]
  obtain ⟨D, hD⟩ : ∃ D, D = (b.at_ - a.at_) * a.way := ⟨_, rfl⟩
  rw [← hD] at h3 ⊢
  by_cases e : far = D
  · rw [if_neg (by simpa using e), if_pos (by omega)]
    exact decide_eq_false (by omega)
  · rw [if_pos e]
    exact decide_eq_false (by omega)
theorem short_steps {n : NetT} (hg : Good n) {a b : SpotT} (ha : spotB n a = true) (hok : (shortV n a b).ok = true) : stepsB n (shortV n a b).steps = true ∧ (shortV n a b).lies = plV n (shortV n a b).steps := by
  have key : stepsB n (shortV n a b).steps = true ∧ (shortV n a b).lies = (liesAll n (shortV n a b).steps).getD [] := by
    have hsa := stepOf_ok ha
    have hp := hg.p1
    unfold shortV at hok ⊢
    split at hok
    · rename_i hd
      rw [if_pos hd]
      refine ⟨?_, rfl⟩
      unfold stepsB
      simp [hsa]
    · rename_i hd
      rw [if_neg hd]
      unfold farV at hok ⊢
      rcases shortL_cases hg hsa (t := stepOf b) with ⟨l, e1, q1, q2⟩ | ⟨e1, n1⟩
      · rw [e1]
        refine ⟨?_, rfl⟩
        have h1 := follows_ok hg hsa q1.f
        unfold stepsB
        simp only [Bool.and_eq_true, decide_eq_true_eq, List.all_eq_true, List.length_cons]
        refine ⟨by omega, fun t ht => ?_⟩
        rcases List.mem_cons.1 ht with rfl | ht
        · exact hsa
        · exact h1 t ht
      · rw [e1] at hok
        cases hok
  refine ⟨key.1, ?_⟩
  unfold plV
  rw [if_pos key.1]
  exact key.2
end Go.Proofs.Ytckcffjnffcjcaa
