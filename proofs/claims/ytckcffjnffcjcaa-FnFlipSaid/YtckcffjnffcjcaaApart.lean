/- A net of the call's own whose joints' ends lie each in blocks of its own: the joints are held flat (kind, name, the slice of the ends) beside each joint's row of ends. No conditions. -/
import Derived.Test.YtckcffjnffcjcaaFlipLaw
import Derived.Test.YtckcffjnffcjcaaLib
set_option linter.unusedVariables false
set_option linter.unusedSimpArgs false
namespace Go.Proofs.Ytckcffjnffcjcaa
open Go.RowKit Go.Proofs.YtckcffjnffcjcaaW.PrintWords
abbrev FlatT := Int × ByteArray × (Option Addr × Nat × Nat)
def encSl (x : Option Addr × Nat × Nat) : Value := .slice x.1 x.2.1 x.2.2
def kFlat : Kd FlatT := Kd.pair (Kd.int .i64) (Kd.pair Kd.string (Kd.scalar encSl (fun _ => rfl)))
theorem kFlat_open {w : World} {x : FlatT} {cs : List Value} (h : kFlat.K w x cs) : cs = [.int .i64 x.1, .string x.2.1, encSl x.2.2] := by
  obtain ⟨c0, c1, rfl, h0, c2, c3, rfl, h1, h2⟩ := h
  rw [show c0 = [.int .i64 x.1] from h0, show c2 = [.string x.2.1] from h1, show c3 = [encSl x.2.2] from h2]; rfl
theorem kFlat_mkM (w : World) (base : Nat) (ok : Nat → Prop) (x : FlatT) : kFlat.M w base ok x [.int .i64 x.1, .string x.2.1, encSl x.2.2] := ⟨[.int .i64 x.1], [.string x.2.1, encSl x.2.2], rfl, rfl, ⟨[.string x.2.1], [encSl x.2.2], rfl, rfl, rfl⟩⟩
/-- The joints js, flat in a row, each one's ends in blocks of its own. -/
structure CP (W : World) (base : Nat) (jv : Value) (fl : List FlatT) (own : Nat → Int) (js : List JointT) : Prop where
  outer : Kd.R kFlat 139 W base (fun g => own g = -1) jv fl
  len : fl.length = js.length
  each : ∀ i : Nat, i < js.length → ∃ A c, fl[i]? = some ((js.getD i default).kind, (js.getD i default).name, (A, (js.getD i default).ends.length, c)) ∧ Kd.R kEnd 67 W base (fun g => own g = (i : Int)) (.slice A (js.getD i default).ends.length c) (js.getD i default).ends
section
variable {W W1 : World} {base : Nat} {jv : Value} {fl : List FlatT} {own : Nat → Int} {js : List JointT}
theorem CP.start (W : World) (base : Nat) : CP W base (.slice none 0 0) [] (fun _ => -1) [] := ⟨Kd.R_nil .., rfl, fun i hi => absurd hi (by simp)⟩
theorem CP.below (h : CP W base jv fl own js) (hb : Below W.heap.size W W1) : CP W1 base jv fl own js :=
  ⟨Kd.R_below h.outer hb, h.len, fun i hi => by obtain ⟨A, c, h1, h2⟩ := h.each i hi; exact ⟨A, c, h1, Kd.R_below h2 hb⟩⟩
theorem CP.apart (h : CP W base jv fl own js) {p : Addr} (hp : p.block < base) (u : Value) : CP (W.setCell p u) base jv fl own js :=
  ⟨R_apart h.outer hp u, h.len, fun i hi => by obtain ⟨A, c, h1, h2⟩ := h.each i hi; exact ⟨A, c, h1, R_apart h2 hp u⟩⟩
/-- What is held so reads as joints. -/
theorem CP.read (h : CP W base jv fl own js) : ∃ A c, jv = .slice A js.length c ∧ js.length ≤ c ∧ Kd.C (kJoint 67) W A js.length js := by
  obtain ⟨A, c, e, h1, h2⟩ := Kd.R_reads h.outer
  rw [h.len] at e h1 h2
  refine ⟨A, c, e, h1, rfl, h2.2.1, fun hn => ?_⟩
  obtain ⟨ad, ha, hc⟩ := h2.2.2 hn
  refine ⟨ad, ha, fun j p hj => ?_⟩
  obtain ⟨hjl, hjp⟩ := List.getElem?_eq_some_iff.1 hj
  obtain ⟨B, cb, hf, hr⟩ := h.each j hjl
  have hp : js.getD j default = p := by rw [getD_at js j hjl, hjp]
  rw [hp] at hf hr
  obtain ⟨cs, k1, k2, k3⟩ := hc j _ hf
  obtain rfl := kFlat_open k2
  obtain ⟨_, hle, hC⟩ := Kd.R_reads' hr
  exact ⟨_, rfl, kJoint_mk W p hle hC, k3⟩
/-- A joint more: behind its ends' row the flat row has grown. own': the blocks' owners then. -/
theorem CP.more {jv1 : Value} {j : JointT} {A : Option Addr} {c : Nat} {own' : Nat → Int} (h : CP W base jv fl own js) (hg : W.grownBy W1 jv.ownBlock)
    (ho : Kd.R kFlat 139 W1 base (fun g => own' g = -1) jv1 (fl ++ [(j.kind, j.name, (A, j.ends.length, c))]))
    (he : Kd.R kEnd 67 W1 base (fun g => own' g = (js.length : Int)) (.slice A j.ends.length c) j.ends)
    (hk : ∀ g, g < W.heap.size → 0 ≤ own g → own g < (js.length : Int) → own' g = own g) :
    CP W1 base jv1 (fl ++ [(j.kind, j.name, (A, j.ends.length, c))]) own' (js ++ [j]) := by
  refine ⟨ho, by simp [h.len], fun i hi => ?_⟩
  by_cases hij : i < js.length
  · obtain ⟨B, cb, h1, h2⟩ := h.each i hij
    rw [show (js ++ [j]).getD i default = js.getD i default by rw [List.getD_eq_getElem?_getD, List.getD_eq_getElem?_getD, List.getElem?_append_left hij]]
    refine ⟨B, cb, by rw [List.getElem?_append_left (by rw [h.len]; exact hij)]; exact h1, ?_⟩
    refine Kd.R_mono (Kd.R_grown (Kd.R_bound h2) hg (fun g hgk hgr => ?_)) (fun g hgk => ?_)
    · have := h.outer.1 g hgr.symm
      have := hgk.1
      omega
    · have h3 := hgk.1
      have h4 := hk g hgk.2.2.1 (by omega) (by omega)
      show own' g = (i : Int)
      omega
  · have e : i = js.length := by simp at hi; omega
    subst e
    rw [show (js ++ [j]).getD js.length default = j by rw [List.getD_eq_getElem?_getD, List.getElem?_append_right (Nat.le_refl _)]; simp]
    exact ⟨A, c, by rw [List.getElem?_append_right (by rw [h.len]; exact Nat.le_refl _), h.len]; simp, he⟩
/-- A row of ends, one end's side changed. -/
theorem R_side {ok : Nat → Prop} {g n cap : Nat} {xs : List EndT} (h : Kd.R kEnd 67 W base ok (.slice (some ⟨g, 0, none⟩) n cap) xs) (q : Nat) (hq : q < n) (s : Int) :
    Kd.R kEnd 67 (W.setCell ⟨g, q * 2 + 1, none⟩ (.int .i64 s)) base ok (.slice (some ⟨g, 0, none⟩) n cap) (xs.set q ⟨(xs.getD q default).piece, s⟩) := by
  obtain ⟨c, hcl, hM, hcc, _⟩ := Kd.R_elem h default (q : Int) (by omega) (by omega)
  have hc := kEnd_open (kEnd.K_of_M hM)
  have := (Kd.R_seg h (q : Int) (by omega) (by omega) (j := 1) (seg := [.int .i64 s]) (x' := ⟨(xs.getD q default).piece, s⟩) (okp := fun _ => False) hcl hcc (by show 1 + 1 ≤ 2; omega) (by
    rw [hc]
    exact kEnd_mkM _ _ _ _) (fun k hk => hk.elim)).1
  rw [Int.toNat_natCast] at this
  exact this
/-- One end's side of joint i is stored. -/
theorem CP.side {i q : Nat} (h : CP W base jv fl own js) (hi : i < js.length) (hq : q < (js.getD i default).ends.length) (s : Int) :
    ∃ g cap, fl[i]? = some ((js.getD i default).kind, (js.getD i default).name, (some ⟨g, 0, none⟩, (js.getD i default).ends.length, cap)) ∧ base ≤ g ∧ g < W.heap.size ∧ (∃ cells, W.heap[g]? = some (.cells cells 67 (0, 0))) ∧
      CP (W.setCell ⟨g, q * 2 + 1, none⟩ (.int .i64 s)) base jv fl own (js.set i ⟨(js.getD i default).kind, (js.getD i default).name, (js.getD i default).ends.set q ⟨((js.getD i default).ends.getD q default).piece, s⟩⟩) := by
  obtain ⟨A, c, h1, h2⟩ := h.each i hi
  obtain ⟨g, cap, e, hbg, hgw, hcells⟩ := Kd.R_form h2 (by omega)
  injection e with e1 e2 e3
  subst e1; subst e3
  have hown : own g = (i : Int) := h2.1 g (by simp [Value.ownBlock])
  refine ⟨g, c, h1, hbg, hgw, hcells, ?_, by rw [List.length_set]; exact h.len, fun k hk => ?_⟩
  · exact Kd.R_far h.outer (fun k hk he => by subst he; omega) _
  · rw [List.length_set] at hk
    by_cases hki : k = i
    · subst hki
      rw [show (js.set k ⟨(js.getD k default).kind, (js.getD k default).name, (js.getD k default).ends.set q ⟨((js.getD k default).ends.getD q default).piece, s⟩⟩).getD k default = ⟨(js.getD k default).kind, (js.getD k default).name, (js.getD k default).ends.set q ⟨((js.getD k default).ends.getD q default).piece, s⟩⟩ by
        rw [List.getD_eq_getElem?_getD, List.getElem?_set_self (by simpa using hk)]; rfl]
      refine ⟨some ⟨g, 0, none⟩, c, by simpa using h1, ?_⟩
      have := R_side h2 q hq s
      simpa using this
    · rw [show (js.set i ⟨(js.getD i default).kind, (js.getD i default).name, (js.getD i default).ends.set q ⟨((js.getD i default).ends.getD q default).piece, s⟩⟩).getD k default = js.getD k default by
        rw [List.getD_eq_getElem?_getD, List.getElem?_set_ne (by omega), ← List.getD_eq_getElem?_getD]]
      obtain ⟨B, cb, k1, k2⟩ := h.each k hk
      exact ⟨B, cb, k1, Kd.R_far k2 (fun b hb he => by subst he; omega) _⟩
end
/-- The joints js' are js with the ends ahead of end q of joint i turned. -/
structure Half (k : Int) (js js' : List JointT) (i q : Nat) : Prop where
  len : js'.length = js.length
  same : ∀ m, m < js.length → (js'.getD m default).kind = (js.getD m default).kind ∧ (js'.getD m default).name = (js.getD m default).name ∧ (js'.getD m default).ends.length = (js.getD m default).ends.length
  each : ∀ m, m < js.length → ∀ e, e < (js.getD m default).ends.length → (js'.getD m default).ends.getD e default = if m < i ∨ (m = i ∧ e < q) then flipE k ((js.getD m default).ends.getD e default) else (js.getD m default).ends.getD e default
section
variable {k : Int} {js js' : List JointT} {i q : Nat}
theorem Half.start : Half k js js 0 0 := ⟨rfl, fun m _ => ⟨rfl, rfl, rfl⟩, fun m _ e _ => by rw [if_neg (by omega)]⟩
theorem Half.at (h : Half k js js' i q) (hi : i < js.length) (hq : q < (js.getD i default).ends.length) : (js'.getD i default).ends.getD q default = (js.getD i default).ends.getD q default := by
  rw [h.each i hi q hq, if_neg (by omega)]
theorem Half.keep (h : Half k js js' i q) (hi : i < js.length) (hq : q < (js.getD i default).ends.length) (hne : ((js.getD i default).ends.getD q default).piece ≠ k) : Half k js js' i (q + 1) := by
  refine ⟨h.len, h.same, fun m hm e he => ?_⟩
  rw [h.each m hm e he]
  by_cases h1 : m = i ∧ e = q
  · obtain ⟨rfl, rfl⟩ := h1
    rw [if_neg (by omega), if_pos (by omega)]
    unfold flipE
    rw [if_neg hne]
  · by_cases h2 : m < i ∨ (m = i ∧ e < q)
    · rw [if_pos h2, if_pos (by omega)]
    · rw [if_neg h2, if_neg (by omega)]
theorem getD_set_self {α : Type} (l : List α) (i : Nat) (x d : α) (h : i < l.length) : (l.set i x).getD i d = x := by
  rw [List.getD_eq_getElem?_getD, List.getElem?_set_self h]; rfl
theorem getD_set_ne {α : Type} (l : List α) (i m : Nat) (x d : α) (h : m ≠ i) : (l.set i x).getD m d = l.getD m d := by
  rw [List.getD_eq_getElem?_getD, List.getElem?_set_ne (by omega), ← List.getD_eq_getElem?_getD]
theorem Half.put (h : Half k js js' i q) (hi : i < js.length) (hq : q < (js.getD i default).ends.length) (he : ((js.getD i default).ends.getD q default).piece = k) :
    Half k js (js'.set i ⟨(js'.getD i default).kind, (js'.getD i default).name, (js'.getD i default).ends.set q ⟨((js'.getD i default).ends.getD q default).piece, 1 - ((js.getD i default).ends.getD q default).side⟩⟩) i (q + 1) := by
  have hs := h.same i hi
  have hi' : i < js'.length := by rw [h.len]; exact hi
  refine ⟨by rw [List.length_set]; exact h.len, fun m hm => ?_, fun m hm e hel => ?_⟩
  · by_cases hmi : m = i
    · subst hmi
      rw [getD_set_self _ _ _ _ hi']
      simp only [List.length_set]
      exact hs
    · rw [getD_set_ne _ _ _ _ _ hmi]; exact h.same m hm
  · by_cases hmi : m = i
    · subst hmi
      rw [getD_set_self _ _ _ _ hi']
      show ((js'.getD m default).ends.set q ⟨((js'.getD m default).ends.getD q default).piece, 1 - ((js.getD m default).ends.getD q default).side⟩).getD e default = _
      by_cases heq : e = q
      · subst heq
        rw [getD_set_self _ _ _ _ (by rw [hs.2.2]; exact hel), if_pos (by omega), h.at hm hel]
        unfold flipE
        rw [if_pos he]
      · rw [getD_set_ne _ _ _ _ _ heq, h.each m hm e hel]
        by_cases h2 : m < m ∨ (m = m ∧ e < q)
        · rw [if_pos h2, if_pos (by omega)]
        · rw [if_neg h2, if_neg (by omega)]
    · rw [getD_set_ne _ _ _ _ _ hmi, h.each m hm e hel]
      by_cases h2 : m < i ∨ (m = i ∧ e < q)
      · rw [if_pos h2, if_pos (by omega)]
      · rw [if_neg h2, if_neg (by omega)]
theorem Half.next (h : Half k js js' i q) (hi : i < js.length) (hq : (js.getD i default).ends.length ≤ q) : Half k js js' (i + 1) 0 := by
  refine ⟨h.len, h.same, fun m hm e he => ?_⟩
  rw [h.each m hm e he]
  by_cases h2 : m < i ∨ (m = i ∧ e < q)
  · rw [if_pos h2, if_pos (by omega)]
  · rw [if_neg h2, if_neg]
    rintro (h3 | h3)
    · have : m = i := by omega
      subst this
      omega
    · omega
theorem Half.done (h : Half k js js' i 0) (hi : js.length ≤ i) : js' = js.map (flipJ k) := by
  apply List.ext_getElem?
  intro m
  by_cases hm : m < js.length
  · rw [List.getElem?_eq_getElem (by rw [h.len]; exact hm), List.getElem?_map, List.getElem?_eq_getElem hm, Option.map_some, ← getD_at js' m (by rw [h.len]; exact hm), ← getD_at js m hm]
    obtain ⟨h1, h2, h3⟩ := h.same m hm
    congr 1
    have he : (js'.getD m default).ends = (js.getD m default).ends.map (flipE k) := by
      apply List.ext_getElem?
      intro e
      by_cases hel : e < (js.getD m default).ends.length
      · rw [List.getElem?_eq_getElem (by rw [h3]; exact hel), List.getElem?_map, List.getElem?_eq_getElem hel, Option.map_some, ← getD_at _ e (by rw [h3]; exact hel), ← getD_at _ e hel, h.each m hm e hel, if_pos (by omega)]
      · rw [List.getElem?_eq_none (by rw [h3]; omega), List.getElem?_eq_none (by rw [List.length_map]; omega)]
    unfold flipJ
    rw [← h1, ← h2, ← he]
  · rw [List.getElem?_eq_none (by rw [h.len]; omega), List.getElem?_eq_none (by rw [List.length_map]; omega)]
end
end Go.Proofs.Ytckcffjnffcjcaa
