/- Rounds in whatever order, one round place by place, and a row sorted by changing neighbours, in plain lists. No program in sight, no conditions. -/
import Derived.Test.YtckcffjnffcjcaaReachV
set_option linter.unusedVariables false
set_option linter.unusedSimpArgs false
namespace Go.Proofs.Ytckcffjnffcjcaa
theorem foldR_perm {n : NetT} {F : Int} {xs ys : List ItemT} {st su : List SpotT × List ItemT} (h : xs.Perm ys) (h1 : st.1.Perm su.1) (h2 : st.2.Perm su.2) (n1 : st.1.Nodup) (n2 : st.2.Nodup) :
    (xs.foldl (lookR n F) st).1.Perm (ys.foldl (lookR n F) su).1 ∧ (xs.foldl (lookR n F) st).2.Perm (ys.foldl (lookR n F) su).2 := by
  obtain ⟨a1, a2⟩ := lookR_mem (n := n) (F := F) xs st
  obtain ⟨b1, b2⟩ := lookR_mem (n := n) (F := F) ys su
  obtain ⟨c1, c2⟩ := lookR_nodup (n := n) (F := F) xs st n1 n2
  obtain ⟨d1, d2⟩ := lookR_nodup (n := n) (F := F) ys su (h1.nodup_iff.1 n1) (h2.nodup_iff.1 n2)
  refine ⟨(List.perm_ext_iff_of_nodup c1 d1).2 fun y => ?_, (List.perm_ext_iff_of_nodup c2 d2).2 fun z => ?_⟩
  · rw [a1, b1, h1.mem_iff]
    refine or_congr Iff.rfl ⟨?_, ?_⟩
    · rintro ⟨x, hx, hh⟩; exact ⟨x, h.mem_iff.1 hx, hh⟩
    · rintro ⟨x, hx, hh⟩; exact ⟨x, h.mem_iff.2 hx, hh⟩
  · rw [a2, b2, h2.mem_iff, h.mem_iff]
theorem roundR_perm {n : NetT} {F : Int} {out out' : List SpotT} {line line' : List ItemT} (h1 : out.Perm out') (h2 : line.Perm line') (hn : out.Nodup) :
    (roundR n F out line).1.Perm (roundR n F out' line').1 ∧ (roundR n F out line).2.Perm (roundR n F out' line').2 ∧ (roundR n F out line).1.Nodup ∧ (roundR n F out line).2.Nodup := by
  have h := foldR_perm (n := n) (F := F) (h2.flatMap_right (nextR n)) (st := (out, [])) (su := (out', [])) h1 (List.Perm.refl _) hn List.nodup_nil
  have h3 := lookR_nodup (n := n) (F := F) (line.flatMap (nextR n)) (out, []) hn List.nodup_nil
  exact ⟨h.1, h.2, h3.1, h3.2⟩
def goV (o : Option (List SpotT)) : List SpotT := match o with
  | none => []
  | some out => sortS out
theorem sortS_perm {l m : List SpotT} (h : l.Perm m) (hn : l.Nodup) : sortS l = sortS m :=
  (sortS_eq (h.nodup_iff.1 hn) (sortS_sorted hn) (fun x => by rw [sortS_mem]; exact h.mem_iff))
theorem reachGo_perm {n : NetT} {F : Int} : ∀ (k : Nat) (out out' : List SpotT) (line line' : List ItemT), out.Perm out' → line.Perm line' → out.Nodup → goV (reachGo n F k out line) = goV (reachGo n F k out' line')
  | k, out, out', [], line', h1, h2, hn => by
    obtain rfl : line' = [] := h2.symm.eq_nil
    cases k <;> exact sortS_perm h1 hn
  | 0, out, out', c :: line, line', h1, h2, hn => by
    cases line' with
    | nil => exact absurd h2.length_eq (by simp)
    | cons c' line' => rfl
  | k + 1, out, out', c :: line, line', h1, h2, hn => by
    cases line' with
    | nil => exact absurd h2.length_eq (by simp)
    | cons c' line' =>
      obtain ⟨a, b, c1, _⟩ := roundR_perm (n := n) (F := F) h1 h2 hn
      simp only [reachGo]
      rw [← a.length_eq, ← b.length_eq]
      split
      · rfl
      · exact reachGo_perm k _ _ _ _ a b c1
theorem reachGo_step {n : NetT} {F : Int} {k : Nat} {out : List SpotT} {line : List ItemT} (h : line ≠ []) : reachGo n F (k + 1) out line = if 200 < (roundR n F out line).1.length ∨ 1000 < (roundR n F out line).2.length ∨ k = 0 then none else reachGo n F k (roundR n F out line).1 (roundR n F out line).2 := by
  cases line with
  | nil => exact absurd rfl h
  | cons c line => rfl
/-- Behind some rounds, k more may come. -/
structure RG (n : NetT) (s : SpotT) (F : Int) (k : Nat) (out : List SpotT) (line : List ItemT) : Prop where
  val : goV (reachGo n F 1001 [] [(s, 0)]) = goV (reachGo n F k out line)
  nd : out.Nodup
  it : ∀ c ∈ line, spotB n c.1 = true ∧ 0 ≤ c.2 ∧ c.2 + roomS n c.1 < F
  inj : line = [(s, 0)] ∨ ∀ c ∈ line, ∃ e, endB n e = true ∧ c.1 = enterS n e
  ol : out.length ≤ 200 ∧ line.length ≤ 1000
theorem RG.start {n : NetT} {s : SpotT} {F : Int} (hs : spotB n s = true) (h : ¬ F ≤ roomS n s) : RG n s F 1001 [] [(s, 0)] :=
  ⟨rfl, List.nodup_nil, fun c hc => by
    obtain rfl : c = (s, 0) := by simpa using hc
    exact ⟨hs, by show (0 : Int) ≤ 0; omega, by show (0 : Int) + roomS n s < F; omega⟩, .inl rfl, ⟨by simp, by simp⟩⟩
theorem RG.out {n : NetT} {s : SpotT} {F : Int} {k : Nat} {out : List SpotT} (h : RG n s F k out []) : goV (reachGo n F 1001 [] [(s, 0)]) = sortS out := by
  rw [h.val]; cases k <;> rfl
theorem RG.fail {n : NetT} {s : SpotT} {F : Int} {k : Nat} {out : List SpotT} {line line' : List ItemT} (h : RG n s F (k + 1) out line) (hp : line.Perm line') (hne : line ≠ []) (hf : 200 < (roundR n F out line').1.length ∨ 1000 < (roundR n F out line').2.length ∨ k = 0) : goV (reachGo n F 1001 [] [(s, 0)]) = [] := by
  rw [h.val, reachGo_step hne]
  obtain ⟨a, b, _, _⟩ := roundR_perm (n := n) (F := F) (List.Perm.refl out) hp h.nd
  rw [a.length_eq, b.length_eq, if_pos hf]
  rfl
theorem nextR_ok {n : NetT} (hg : Good n) {c x : ItemT} (hc : spotB n c.1 = true) (hx : x ∈ nextR n c) : ∃ e, endB n e = true ∧ x = (enterS n e, c.2 + roomS n c.1) := by
  unfold nextR at hx
  obtain ⟨e, he, rfl⟩ := List.mem_map.1 hx
  exact ⟨e, (hg.across (headE_ok hc) he).1, rfl⟩
theorem RG.next {n : NetT} (hg : Good n) {s : SpotT} {F : Int} {k : Nat} {out : List SpotT} {line line' : List ItemT} (h : RG n s F (k + 1) out line) (hp : line.Perm line') (hne : line ≠ []) (hf : ¬ (200 < (roundR n F out line').1.length ∨ 1000 < (roundR n F out line').2.length ∨ k = 0)) :
    RG n s F k (roundR n F out line').1 (roundR n F out line').2 := by
  obtain ⟨a, b, c, d⟩ := roundR_perm (n := n) (F := F) (List.Perm.refl out) hp h.nd
  have key : ∀ z ∈ (roundR n F out line').2, toldR n F z = false ∧ ∃ y ∈ line, ∃ e, endB n e = true ∧ z = (enterS n e, y.2 + roomS n y.1) := fun z hz => by
    rcases ((lookR_mem (n := n) (F := F) (line'.flatMap (nextR n)) (out, [])).2 z).1 hz with h1 | ⟨h1, h2⟩
    · simp at h1
    · obtain ⟨y, hy, hz⟩ := List.mem_flatMap.1 h1
      have hy := hp.mem_iff.2 hy
      obtain ⟨e, he, hz⟩ := nextR_ok hg (h.it y hy).1 hz
      exact ⟨h2, y, hy, e, he, hz⟩
  refine ⟨?_, a.nodup_iff.1 c, fun z hz => ?_, .inr fun z hz => ?_, by omega⟩
  · rw [h.val, reachGo_step hne, a.length_eq, b.length_eq, if_neg hf]
    exact reachGo_perm k _ _ _ _ a b c
  · obtain ⟨h1, y, hy, e, he, rfl⟩ := key z hz
    have h2 := h.it y hy
    have hr := roomS_bd hg h2.1
    unfold toldR at h1
    simp only [decide_eq_false_iff_not] at h1
    exact ⟨enterS_ok hg he, by show 0 ≤ y.2 + roomS n y.1; omega, by show y.2 + roomS n y.1 + roomS n (enterS n e) < F; omega⟩
  · obtain ⟨h1, y, hy, e, he, rfl⟩ := key z hz
    exact ⟨e, he, rfl⟩
/-! ### One round, place by place -/
def lineRS (n : NetT) (F : Int) (out : List SpotT) (line : List ItemT) (a : Nat) : List SpotT × List ItemT := ((line.take a).flatMap (nextR n)).foldl (lookR n F) (out, [])
def endRS (n : NetT) (F : Int) (st : List SpotT × List ItemT) (c : ItemT) (q : Nat) : List SpotT × List ItemT := ((nextR n c).take q).foldl (lookR n F) st
theorem lineRS_all (n : NetT) (F : Int) (out : List SpotT) (line : List ItemT) : lineRS n F out line line.length = roundR n F out line := by unfold lineRS roundR; rw [List.take_length]
theorem endRS_all {n : NetT} {F : Int} {st : List SpotT × List ItemT} {c : ItemT} {q : Nat} (hq : q = (nextR n c).length) : endRS n F st c q = (nextR n c).foldl (lookR n F) st := by unfold endRS; rw [hq, List.take_length]
theorem lineRS_next {n : NetT} {F : Int} {out : List SpotT} {line : List ItemT} {a : Nat} (ha : a < line.length) : lineRS n F out line (a + 1) = (nextR n (line.getD a default)).foldl (lookR n F) (lineRS n F out line a) := by
  unfold lineRS
  rw [take_getD line a ha, List.flatMap_append, List.foldl_append]
  simp
theorem nextR_len (n : NetT) (c : ItemT) : (nextR n c).length = (acrossE n (headE c.1)).length := by unfold nextR; simp
theorem nextR_getD {n : NetT} {c : ItemT} {E : List EndT} (hE : E = acrossE n (headE c.1)) {q : Nat} (hq : q < E.length) : (nextR n c).getD q default = (enterS n (E.getD q default), c.2 + roomS n c.1) := by
  unfold nextR
  rw [← hE, getD_at _ q (by simpa using hq), getD_at E q hq]
  simp
theorem endRS_next {n : NetT} {F : Int} {st : List SpotT × List ItemT} {c : ItemT} {E : List EndT} (hE : E = acrossE n (headE c.1)) {q : Nat} (hq : q < E.length) : endRS n F st c (q + 1) = lookR n F (endRS n F st c q) (enterS n (E.getD q default), c.2 + roomS n c.1) := by
  unfold endRS
  rw [take_getD _ q (by rw [nextR_len, ← hE]; exact hq), List.foldl_append, nextR_getD hE hq]
  rfl
theorem addR_len {α : Type} [DecidableEq α] (l : List α) (x : α) : (addR l x).length ≤ l.length + 1 := by unfold addR; split <;> simp
theorem lookR_len (n : NetT) (F : Int) (st : List SpotT × List ItemT) (x : ItemT) : (lookR n F st x).1.length ≤ st.1.length + 1 ∧ (lookR n F st x).2.length ≤ st.2.length + 1 := by
  unfold lookR
  have h1 := addR_len st.1 (endR F x)
  have h2 := addR_len st.2 x
  split
  · exact ⟨h1, by simp⟩
  · exact ⟨by simp, h2⟩
theorem endRS_len (n : NetT) (F : Int) (st : List SpotT × List ItemT) (c : ItemT) (q : Nat) : (endRS n F st c q).1.length ≤ st.1.length + q ∧ (endRS n F st c q).2.length ≤ st.2.length + q := by
  unfold endRS
  have : ∀ (xs : List ItemT) (st : List SpotT × List ItemT), (xs.foldl (lookR n F) st).1.length ≤ st.1.length + xs.length ∧ (xs.foldl (lookR n F) st).2.length ≤ st.2.length + xs.length := by
    intro xs
    induction xs with
    | nil => intro st; simp
    | cons x xs ih =>
      intro st
      have h1 := lookR_len n F st x
      have h2 := ih (lookR n F st x)
      rw [List.foldl_cons, List.length_cons]
      omega
  have h := this ((nextR n c).take q) st
  have := List.length_take_le q (nextR n c)
  omega
theorem lookR_told {n : NetT} {F : Int} {st : List SpotT × List ItemT} {x : ItemT} (h : F - x.2 ≤ roomS n x.1) : lookR n F st x = (addR st.1 (endR F x), st.2) := by
  unfold lookR; rw [if_pos (by unfold toldR; simpa using h)]
theorem lookR_more {n : NetT} {F : Int} {st : List SpotT × List ItemT} {x : ItemT} (h : ¬ F - x.2 ≤ roomS n x.1) : lookR n F st x = (st.1, addR st.2 x) := by
  unfold lookR; rw [if_neg (by unfold toldR; simpa using h)]
/-! ### Changing neighbours -/
/-- The row up to place i is in order but for place k, which stands ahead of what is behind it. -/
structure SI (out : List SpotT) (i k : Nat) (l : List SpotT) : Prop where
  p : l.Perm out
  ki : k ≤ i
  il : i < l.length
  rest : ∀ a b, a < b → b ≤ i → a ≠ k → b ≠ k → spotLt (l.getD a default) (l.getD b default) = true
  own : ∀ b, k < b → b ≤ i → spotLt (l.getD k default) (l.getD b default) = true
def SO (out : List SpotT) (i : Nat) (l : List SpotT) : Prop := l.Perm out ∧ ∀ a b, a < b → b < i → spotLt (l.getD a default) (l.getD b default) = true
theorem SO.start (out : List SpotT) : SO out 1 out := ⟨List.Perm.refl _, fun a b h1 h2 => by omega⟩
theorem SO.into {out l : List SpotT} {i : Nat} (h : SO out i l) (hi : i < l.length) : SI out i i l := ⟨h.1, Nat.le_refl _, hi, fun a b h1 h2 h3 h4 => h.2 a b h1 (by omega), fun b h1 h2 => by omega⟩
theorem getD_inj {l : List SpotT} (hn : l.Nodup) {a b : Nat} (ha : a < l.length) (hb : b < l.length) (h : l.getD a default = l.getD b default) : a = b := by
  rw [getD_at l a ha, getD_at l b hb] at h
  have hp := List.pairwise_iff_getElem.1 hn
  rcases Nat.lt_trichotomy a b with h1 | h1 | h1
  · exact absurd h (hp a b ha hb h1)
  · exact h1
  · exact absurd h.symm (hp b a hb ha h1)
theorem SI.stop {out l : List SpotT} {i k : Nat} (h : SI out i k l) (hn : out.Nodup) (hk : k = 0 ∨ spotLt (l.getD k default) (l.getD (k - 1) default) = false) : SO out (i + 1) l := by
  refine ⟨h.p, fun a b h1 h2 => ?_⟩
  have hil := h.il
  have hki := h.ki
  have hnl := h.p.nodup_iff.2 hn
  by_cases hb : b = k
  · subst hb
    rcases hk with hk | hk
    · omega
    · have e1 : spotLt (l.getD (b - 1) default) (l.getD b default) = true := by
        rcases spotLt_total (a := l.getD (b - 1) default) (b := l.getD b default) (fun e => by have := getD_inj hnl (by omega) (by omega) e; omega) with e | e
        · exact e
        · rw [hk] at e; cases e
      by_cases ha : a = b - 1
      · rw [ha]; exact e1
      · exact spotLt_trans (h.rest a (b - 1) (by omega) (by omega) (by omega) (by omega)) e1
  · by_cases ha : a = k
    · subst ha
      exact h.own b h1 (by omega)
    · exact h.rest a b h1 (by omega) ha hb
theorem getD_setS {α : Type} (l : List α) (i j : Nat) (x d : α) (hi : i < l.length) : (l.set i x).getD j d = if i = j then x else l.getD j d := by
  rw [List.getD_eq_getElem?_getD, List.getD_eq_getElem?_getD, List.getElem?_set]
  split
  · rename_i h; subst h; simp [hi]
  · rfl
def swapL (l : List SpotT) (k : Nat) : List SpotT := (l.set k (l.getD (k - 1) default)).set (k - 1) (l.getD k default)
theorem swapL_len (l : List SpotT) (k : Nat) : (swapL l k).length = l.length := by unfold swapL; simp
theorem swapL_getD (l : List SpotT) {k : Nat} (hk : 0 < k) (hl : k < l.length) (j : Nat) : (swapL l k).getD j default = if j = k - 1 then l.getD k default else if j = k then l.getD (k - 1) default else l.getD j default := by
  unfold swapL
  rw [getD_setS _ (k - 1) j _ _ (by simp; omega)]
  by_cases h1 : j = k - 1
  · rw [if_pos h1.symm, if_pos h1]
  · rw [if_neg (fun e => h1 e.symm), if_neg h1, getD_setS _ k j _ _ hl]
    by_cases h2 : j = k
    · rw [if_pos h2.symm, if_pos h2]
    · rw [if_neg (fun e => h2 e.symm), if_neg h2]
theorem swapL_perm (l : List SpotT) {k : Nat} (hk : 0 < k) (hl : k < l.length) (hn : l.Nodup) : (swapL l k).Perm l := by
  have inj : ∀ a b, a < l.length → b < l.length → (swapL l k).getD a default = (swapL l k).getD b default → a = b := fun a b ha hb h => by
    rw [swapL_getD l hk hl, swapL_getD l hk hl] at h
    split at h <;> split at h <;> (try split at h) <;> (try split at h) <;> (try omega) <;> (have := getD_inj hn (by omega) (by omega) h; omega)
  have hn2 : (swapL l k).Nodup := by
    rw [List.nodup_iff_pairwise_ne, List.pairwise_iff_getElem]
    intro a b ha hb hab he
    have := inj a b (by rw [swapL_len] at ha; exact ha) (by rw [swapL_len] at hb; exact hb) (by rw [getD_at _ a ha, getD_at _ b hb]; exact he)
    omega
  refine (List.perm_ext_iff_of_nodup hn2 hn).2 fun x => ⟨fun hx => ?_, fun hx => ?_⟩
  · obtain ⟨j, hj, rfl⟩ := List.getElem_of_mem hx
    rw [← getD_at _ j hj, swapL_getD l hk hl]
    rw [swapL_len] at hj
    split
    · exact getD_mem l k hl
    · split
      · exact getD_mem l _ (by omega)
      · exact getD_mem l j hj
  · obtain ⟨j, hj, rfl⟩ := List.getElem_of_mem hx
    rw [← getD_at _ j hj]
    by_cases h1 : j = k
    · subst h1
      have := getD_mem (swapL l j) (j - 1) (by rw [swapL_len]; omega)
      rw [swapL_getD l hk hl, if_pos rfl] at this
      exact this
    · by_cases h2 : j = k - 1
      · subst h2
        have := getD_mem (swapL l k) k (by rw [swapL_len]; omega)
        rw [swapL_getD l hk hl, if_neg (by omega), if_pos rfl] at this
        exact this
      · have := getD_mem (swapL l k) j (by rw [swapL_len]; omega)
        rw [swapL_getD l hk hl, if_neg h2, if_neg h1] at this
        exact this
theorem SI.swap {out l : List SpotT} {i k : Nat} (h : SI out i k l) (hn : out.Nodup) (hk : 0 < k) (hs : spotLt (l.getD k default) (l.getD (k - 1) default) = true) : SI out i (k - 1) (swapL l k) := by
  have hil := h.il
  have hki := h.ki
  have hnl := h.p.nodup_iff.2 hn
  have hkl : k < l.length := by omega
  refine ⟨(swapL_perm l hk hkl hnl).trans h.p, by omega, by rw [swapL_len]; exact hil, fun a b h1 h2 h3 h4 => ?_, fun b h1 h2 => ?_⟩
  · rw [swapL_getD l hk hkl, swapL_getD l hk hkl, if_neg h3, if_neg h4]
    by_cases ha : a = k
    · subst ha
      rw [if_pos rfl, if_neg (by omega)]
      exact h.rest (a - 1) b (by omega) h2 (by omega) (by omega)
    · rw [if_neg ha]
      by_cases hb : b = k
      · subst hb
        rw [if_pos rfl]
        exact h.rest a (b - 1) (by omega) (by omega) ha (by omega)
      · rw [if_neg hb]
        exact h.rest a b h1 h2 ha hb
  · rw [swapL_getD l hk hkl, swapL_getD l hk hkl, if_pos rfl, if_neg (by omega)]
    by_cases hb : b = k
    · subst hb
      rw [if_pos rfl]; exact hs
    · rw [if_neg hb]
      exact h.own b (by omega) h2
theorem SO.all {out l : List SpotT} {i : Nat} (h : SO out i l) (hn : out.Nodup) (hi : l.length ≤ i) : l = sortS out := by
  refine sortS_eq hn ?_ (fun x => h.1.mem_iff)
  rw [List.pairwise_iff_getElem]
  intro a b ha hb hab
  have := h.2 a b hab (by omega)
  rwa [getD_at _ a ha, getD_at _ b hb] at this
theorem reachV_go {n : NetT} {s : SpotT} {F : Int} (hb : reachB n s F = true) (hr : ¬ F ≤ roomS n s) : reachV n s F = goV (reachGo n F 1001 [] [(s, 0)]) := by
  unfold reachV
  rw [if_pos hb, if_neg hr]
  rfl
theorem reachV_near {n : NetT} {s : SpotT} {F : Int} (hb : reachB n s F = true) (hr : F ≤ roomS n s) : reachV n s F = [moveS s F] := by
  unfold reachV
  rw [if_pos hb, if_pos hr]
theorem reachV_bad {n : NetT} {s : SpotT} {F : Int} (hb : reachB n s F = false) : reachV n s F = [] := by
  unfold reachV
  rw [if_neg (by rw [hb]; simp)]
end Go.Proofs.Ytckcffjnffcjcaa
