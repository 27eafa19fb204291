/- Maps that the call makes, over keys that are compared by value (whole numbers, strings, structs of whole numbers) and elements of any kind: what a look-up, a store, an entry's store does to the list of the entries. No conditions. -/
import Derived.Test.YtckcffjnffcjcaaLib
import Derived.Maps.OwnOps
import Derived.Maps.OwnSet
import Derived.MapKept
import Derived.Laws.StructEq
set_option linter.unusedVariables false
set_option linter.unusedSimpArgs false
namespace Go.Proofs.Ytckcffjnffcjcaa
open Go.RowKit Go.Proofs.YtckcffjnffcjcaaW.PrintWords
/-- A kind of keys. -/
structure KeyEnc (P : Program) (κ : Type) where
  t : TypeId
  kind : TypeDesc
  enc : κ → Value
  hk : P.underlying t = some kind
  inj : ∀ a b, enc a = enc b → a = b
  same : ∀ a, Instr.sameBits 10000 (enc a) (enc a) = true
  chk : ∀ e a (w : World), (Instr.checkKey e 10000 t (enc a)).run P w = .ok () w
  find : ∀ (a : κ) (l : List (κ × Value)) (es : List MapEntry) (w : World), es.map (fun e => (e.key, e.val)) = l.map (fun p => (enc p.1, p.2)) →
    ∀ i, ∃ r, (Instr.findAsking t (enc a) es i).run P w = .ok r w ∧ (Instr.findNow kind (enc a) es i = none ∨ Instr.findNow kind (enc a) es i = some r) ∧
      ((r = none ∧ ∀ p ∈ l, p.1 ≠ a) ∨ ∃ j v, r = some (i + j, v) ∧ l[j]? = some (a, v) ∧ ∀ j' < j, ∀ p, l[j']? = some p → p.1 ≠ a)
section
variable {P : Program} {κ : Type}
theorem KeyEnc.run_find (K : KeyEnc P κ) (a : κ) {l : List (κ × Value)} {es : List MapEntry} (w : World) (h : es.map (fun e => (e.key, e.val)) = l.map (fun p => (K.enc p.1, p.2))) :
    ((Instr.findKey K.t (K.enc a) es).run P w = .ok none w ∧ ∀ p ∈ l, p.1 ≠ a) ∨ ∃ j v, (Instr.findKey K.t (K.enc a) es).run P w = .ok (some (j, v)) w ∧ l[j]? = some (a, v) := by
  obtain ⟨r, h1, h2, h3⟩ := K.find a l es w h 0
  have hr : (Instr.findKey K.t (K.enc a) es).run P w = .ok r w := by
    unfold Instr.findKey
    simp only [Sem.run_bind, run_underlying K.hk, Result.andThen_ok]
    rcases h2 with h2 | h2 <;> rw [h2]
    · exact h1
    · rfl
  rcases h3 with ⟨rfl, h3⟩ | ⟨j, v, rfl, h3, _⟩
  · exact .inl ⟨hr, h3⟩
  · exact .inr ⟨j, v, by simpa using hr, h3⟩
/-- Each comparison is decided, in one way or the other: the search follows. -/
theorem find_of_eq {t : TypeId} {kind : TypeDesc} {enc : κ → Value} (dec : κ → κ → Bool) (hd : ∀ a b, dec a b = true ↔ a = b)
    (now : (∀ a b, Instr.sameNow kind (enc a) (enc b) = some (dec a b)) ∨ (∀ a b, Instr.sameNow kind (enc a) (enc b) = none))
    (eq : ∀ a b (w : World), (Op.equal t (enc a) (enc b)).run P w = .ok (dec a b) w) (a : κ) : ∀ (l : List (κ × Value)) (es : List MapEntry) (w : World), es.map (fun e => (e.key, e.val)) = l.map (fun p => (enc p.1, p.2)) →
    ∀ i, ∃ r, (Instr.findAsking t (enc a) es i).run P w = .ok r w ∧ (Instr.findNow kind (enc a) es i = none ∨ Instr.findNow kind (enc a) es i = some r) ∧
      ((r = none ∧ ∀ p ∈ l, p.1 ≠ a) ∨ ∃ j v, r = some (i + j, v) ∧ l[j]? = some (a, v) ∧ ∀ j' < j, ∀ p, l[j']? = some p → p.1 ≠ a)
  | [], [], w, _, i => ⟨none, by simp [Instr.findAsking], .inr rfl, .inl ⟨rfl, by simp⟩⟩
  | p :: l, e :: es, w, h, i => by
    simp only [List.map_cons, List.cons.injEq, Prod.mk.injEq] at h
    obtain ⟨⟨hk, hv⟩, ht⟩ := h
    cases hab : dec a p.1 with
    | true =>
      have hap := (hd _ _).1 hab
      refine ⟨some (i, e.val), ?_, ?_, .inr ⟨0, e.val, rfl, by rw [hv, hap]; rfl, by omega⟩⟩
      · simp only [Instr.findAsking, Sem.run_bind, hk, eq, hab, Result.andThen_ok, if_true]; rfl
      · rcases now with now | now
        · right; simp only [Instr.findNow, hk, now, hab]
        · left; simp only [Instr.findNow, hk, now]
    | false =>
      have hap : p.1 ≠ a := fun h => by rw [(hd a p.1).2 h.symm] at hab; cases hab
      obtain ⟨r, h1, h2, h3⟩ := find_of_eq dec hd now eq a l es w ht (i + 1)
      refine ⟨r, ?_, ?_, ?_⟩
      · simp only [Instr.findAsking, Sem.run_bind, hk, eq, hab, Result.andThen_ok]; simpa using h1
      · rcases now with now | now
        · simp only [Instr.findNow, hk, now, hab]; exact h2
        · left; simp only [Instr.findNow, hk, now]
      · rcases h3 with ⟨rfl, h3⟩ | ⟨j, v, rfl, h3, h4⟩
        · refine .inl ⟨rfl, fun q hq => ?_⟩
          rcases List.mem_cons.1 hq with rfl | hq
          · exact hap
          · exact h3 q hq
        · refine .inr ⟨j + 1, v, by rw [Nat.add_assoc, Nat.add_comm 1 j], by simpa using h3, fun j' hj p' hp' => ?_⟩
          cases j' with
          | zero => simp at hp'; subst hp'; exact hap
          | succ j' => exact h4 j' (by omega) p' (by simpa using hp')
end
/-- What a list of entries has at a key. -/
def lk {κ ν : Type} [DecidableEq κ] : List (κ × ν) → κ → Option ν
  | [], _ => none
  | p :: l, k => if p.1 = k then some p.2 else lk l k
/-- The list behind a store. -/
def up {κ ν : Type} [DecidableEq κ] : List (κ × ν) → κ → ν → List (κ × ν)
  | [], k, v => [(k, v)]
  | p :: l, k, v => if p.1 = k then (k, v) :: l else p :: up l k v
section
variable {κ ν : Type} [DecidableEq κ]
theorem lk_up (l : List (κ × ν)) (k : κ) (v : ν) (k' : κ) : lk (up l k v) k' = if k = k' then some v else lk l k' := by
  induction l with
  | nil => simp [up, lk]
  | cons p l ih =>
    simp only [up]
    split
    · rename_i h
      simp only [lk]
      split
      · rfl
      · rename_i h2; rw [if_neg (by rw [h]; exact h2)]
    · rename_i h
      simp only [lk, ih]
      split
      · rename_i h2
        rw [if_neg]
        rintro rfl
        exact h h2
      · rfl
theorem up_keys (l : List (κ × ν)) (k : κ) (v : ν) : ∀ a, a ∈ (up l k v).map (·.1) ↔ a = k ∨ a ∈ l.map (·.1) := by
  induction l with
  | nil => intro a; simp [up]
  | cons p l ih =>
    intro a
    simp only [up]
    split
    · rename_i h; simp only [List.map_cons, List.mem_cons, h]; constructor <;> (intro hh; rcases hh with hh | hh <;> simp_all)
    · rw [List.map_cons, List.mem_cons, ih, List.map_cons, List.mem_cons]; constructor <;> (intro hh; rcases hh with hh | hh | hh <;> simp_all)
theorem up_nodup {l : List (κ × ν)} (h : (l.map (·.1)).Nodup) (k : κ) (v : ν) : ((up l k v).map (·.1)).Nodup := by
  induction l with
  | nil => simp [up]
  | cons p l ih =>
    simp only [List.map_cons, List.nodup_cons] at h
    simp only [up]
    split
    · rename_i hp; simp only [List.map_cons, List.nodup_cons]; rw [← hp]; exact h
    · rename_i hp
      simp only [List.map_cons, List.nodup_cons]
      refine ⟨fun hm => ?_, ih h.2⟩
      rcases (up_keys l k v p.1).1 hm with rfl | hm
      · exact hp rfl
      · exact h.1 hm
theorem lk_none {l : List (κ × ν)} {k : κ} (h : ∀ p ∈ l, p.1 ≠ k) : lk l k = none := by
  induction l with
  | nil => rfl
  | cons p l ih =>
    simp only [lk]
    rw [if_neg (h p (by simp))]
    exact ih (fun q hq => h q (by simp [hq]))
theorem up_none {l : List (κ × ν)} {k : κ} (h : ∀ p ∈ l, p.1 ≠ k) (v : ν) : up l k v = l ++ [(k, v)] := by
  induction l with
  | nil => rfl
  | cons p l ih =>
    simp only [up]
    rw [if_neg (h p (by simp)), ih (fun q hq => h q (by simp [hq]))]
    rfl
theorem lk_at {l : List (κ × ν)} (hn : (l.map (·.1)).Nodup) {j : Nat} {k : κ} {v : ν} (h : l[j]? = some (k, v)) : lk l k = some v := by
  induction l generalizing j with
  | nil => simp at h
  | cons p l ih =>
    simp only [List.map_cons, List.nodup_cons] at hn
    simp only [lk]
    cases j with
    | zero => simp at h; subst h; simp
    | succ j =>
      have h2 : l[j]? = some (k, v) := by simpa using h
      rw [if_neg, ih hn.2 h2]
      intro hp
      exact hn.1 (by rw [hp]; exact List.mem_map.2 ⟨_, List.mem_of_getElem? h2, rfl⟩)
theorem up_at {l : List (κ × ν)} (hn : (l.map (·.1)).Nodup) {j : Nat} {k : κ} {v v' : ν} (h : l[j]? = some (k, v)) : up l k v' = l.set j (k, v') := by
  induction l generalizing j with
  | nil => simp at h
  | cons p l ih =>
    simp only [List.map_cons, List.nodup_cons] at hn
    simp only [up]
    cases j with
    | zero => simp at h; subst h; simp
    | succ j =>
      have h2 : l[j]? = some (k, v) := by simpa using h
      rw [if_neg, ih hn.2 h2]
      · rfl
      intro hp
      exact hn.1 (by rw [hp]; exact List.mem_map.2 ⟨_, List.mem_of_getElem? h2, rfl⟩)
theorem lk_mem {l : List (κ × ν)} {k : κ} {v : ν} (h : lk l k = some v) : (k, v) ∈ l := by
  induction l with
  | nil => cases h
  | cons p l ih =>
    simp only [lk] at h
    split at h
    · rename_i hp; injection h with h; subst h; subst hp; simp
    · exact List.mem_cons_of_mem _ (ih h)
theorem mem_lk {l : List (κ × ν)} (hn : (l.map (·.1)).Nodup) {k : κ} {v : ν} (h : (k, v) ∈ l) : lk l k = some v := by
  obtain ⟨j, hj⟩ := List.getElem?_of_mem h
  exact lk_at hn hj
theorem lk_isSome {l : List (κ × ν)} {k : κ} : (lk l k).isSome = true ↔ k ∈ l.map (·.1) := by
  induction l with
  | nil => simp [lk]
  | cons p l ih =>
    simp only [lk, List.map_cons, List.mem_cons]
    split
    · rename_i h; simp [h]
    · rename_i h; rw [ih]; constructor
      · exact .inr
      · rintro (h2 | h2)
        · exact absurd h2.symm h
        · exact h2
end
/-- Block b is a map that holds just these entries. -/
structure MapOf {P : Program} {κ ν : Type} (K : KeyEnc P κ) (V : ν → Value) (w : World) (b : Nat) (l : List (κ × ν)) : Prop where
  out : ∃ es clock, w.heap[b]? = some (.map es clock) ∧ es.toList.map (fun e => (e.key, e.val)) = l.map (fun p => (K.enc p.1, V p.2)) ∧ (∀ e ∈ es.toList, e.born < clock) ∧ (es.toList.map (·.born)).Nodup
  nodup : (l.map (·.1)).Nodup
section
variable {P : Program} {κ ν : Type} {K : KeyEnc P κ} {V : ν → Value} {w w1 : World} {b : Nat} {l : List (κ × ν)}
theorem MapOf.move (h : MapOf K V w b l) (hm : w1.heap[b]? = w.heap[b]?) : MapOf K V w1 b l := by
  obtain ⟨⟨es, clock, h1, h2⟩, h3⟩ := h
  exact ⟨⟨es, clock, hm.trans h1, h2⟩, h3⟩
theorem MapOf.lt (h : MapOf K V w b l) : b < w.heap.size := by
  obtain ⟨⟨es, clock, h1, h2⟩, h3⟩ := h
  exact (Array.getElem?_eq_some_iff.1 h1).1
theorem MapOf.below (h : MapOf K V w b l) (hb : Below w.heap.size w w1) : MapOf K V w1 b l := h.move (hb.block b h.lt)
theorem MapOf.alloc (h : MapOf K V w b l) (o : Obj) : MapOf K V (w.alloc o) b l := h.below (below_alloc (Below.refl _ _) o)
theorem MapOf.setCell (h : MapOf K V w b l) (p : Addr) (u : Value) : MapOf K V (w.setCell p u) b l := by
  obtain ⟨⟨es, clock, h1, h2⟩, h3⟩ := h
  refine ⟨⟨es, clock, ?_, h2⟩, h3⟩
  simp only [World.setCell, Array.getElem?_modify]
  split
  · rename_i hp; subst hp; rw [h1]; rfl
  · exact h1
theorem MapOf.made (K : KeyEnc P κ) (V : ν → Value) (w : World) : MapOf K V (w.alloc (.map #[] 0)) w.heap.size [] :=
  ⟨⟨#[], 0, (MapKept.heap_alloc w _).1, rfl, by simp, by simp⟩, by simp⟩
/-- The world with another object in a block. -/
def putMap (w : World) (b : Nat) (o : Obj) : World := { w with heap := w.heap.setIfInBounds b o }
theorem putMap_other (w : World) (b : Nat) (o : Obj) {k : Nat} (h : k ≠ b) : (putMap w b o).heap[k]? = w.heap[k]? := by
  unfold putMap
  simp [Array.getElem?_setIfInBounds, Ne.symm h]
theorem putMap_below {B : Nat} {w0 : World} (h : Below B w0 w) {o : Obj} (hb : B ≤ b) : Below B w0 (putMap w b o) :=
  ⟨h.os, h.tape, h.output, by unfold putMap; simpa using h.size, fun k hk => (putMap_other w b o (by omega)).trans (h.block k hk)⟩
theorem zip_run {es : Array MapEntry} (h : es.toList.map (fun e => (e.key, e.val)) = l.map (fun p => (K.enc p.1, V p.2))) : es.toList.map (fun e => (e.key, e.val)) = (l.map (fun p => (p.1, V p.2))).map (fun p => (K.enc p.1, p.2)) := by
  rw [h, List.map_map]; rfl
theorem MapOf.run_find (h : MapOf K V w b l) (k : κ) : ∃ es clock, w.heap[b]? = some (.map es clock) ∧ es.toList.map (fun e => (e.key, e.val)) = l.map (fun p => (K.enc p.1, V p.2)) ∧ (∀ e ∈ es.toList, e.born < clock) ∧ (es.toList.map (·.born)).Nodup ∧
    (((Instr.findKey K.t (K.enc k) es.toList).run P w = .ok none w ∧ ∀ p ∈ l, p.1 ≠ k) ∨ ∃ j v, (Instr.findKey K.t (K.enc k) es.toList).run P w = .ok (some (j, V v)) w ∧ l[j]? = some (k, v)) := by
  obtain ⟨⟨es, clock, h1, h2, h3, h4⟩, _⟩ := h
  refine ⟨es, clock, h1, h2, h3, h4, ?_⟩
  rcases K.run_find k w (zip_run h2) with ⟨h5, h6⟩ | ⟨j, v, h5, h6⟩
  · exact .inl ⟨h5, fun p hp => h6 _ (List.mem_map.2 ⟨p, hp, rfl⟩)⟩
  · right
    rw [List.getElem?_map] at h6
    obtain ⟨p, hp, he⟩ := Option.map_eq_some_iff.1 h6
    simp only [Prod.mk.injEq] at he
    obtain ⟨rfl, rfl⟩ := he
    exact ⟨j, p.2, h5, hp⟩
/-- A look-up. -/
theorem MapOf.lookup [DecidableEq κ] {t e : TypeId} (h : MapOf K V w b l) (ht : P.underlying t = some (.map K.t e)) {z : Value} (hz : (zeroValue e).run P w = .ok z w) (k : κ) (c : Bool) :
    (Instr.lookup t (.map (some b)) (K.enc k) c).run P w = .ok (if c then .tuple #[((lk l k).map V).getD z, .bool (lk l k).isSome] else ((lk l k).map V).getD z) w := by
  obtain ⟨es, clock, h1, h2, _, _, h5⟩ := h.run_find k
  unfold Instr.lookup
  simp only [Sem.run_bind, run_underlying ht, Result.andThen_ok, MapKept.run_getObj_map h1, Sem.run_pure, K.chk]
  rcases h5 with ⟨h5, h6⟩ | ⟨j, v, h5, h6⟩
  · rw [lk_none h6]
    simp only [h5, Result.andThen_ok, Sem.run_bind, hz, Sem.run_pure]
    cases c <;> rfl
  · rw [lk_at h.nodup h6]
    simp only [h5, Result.andThen_ok, Sem.run_pure]
    cases c <;> rfl
theorem MapOf.putNew [DecidableEq κ] (h : MapOf K V w b l) {es : Array MapEntry} {clock : Nat} (h1 : w.heap[b]? = some (.map es clock)) (h2 : es.toList.map (fun e => (e.key, e.val)) = l.map (fun p => (K.enc p.1, V p.2))) (h3 : ∀ e ∈ es.toList, e.born < clock) (h4 : (es.toList.map (·.born)).Nodup)
    {k : κ} (hk : ∀ p ∈ l, p.1 ≠ k) (v : ν) : MapOf K V (putMap w b (.map (es.push { key := K.enc k, val := V v, born := clock }) (clock + 1))) b (up l k v) := by
  refine ⟨⟨es.push { key := K.enc k, val := V v, born := clock }, clock + 1, ?_, ?_, ?_, ?_⟩, up_nodup h.nodup k v⟩
  · unfold putMap; have := h.lt; simp [Array.getElem?_setIfInBounds, this]
  · rw [up_none hk]; simp [h2]
  · intro e he
    simp only [Array.toList_push, List.mem_append, List.mem_singleton] at he
    rcases he with he | rfl
    · have := h3 e he; omega
    · exact Nat.lt_succ_self _
  · simp only [Array.toList_push, List.map_append, List.map_cons, List.map_nil]
    rw [List.nodup_append]
    refine ⟨h4, by simp, fun x hx y hy => ?_⟩
    simp only [List.mem_singleton] at hy
    obtain ⟨e, he, rfl⟩ := List.mem_map.1 hx
    have := h3 e he
    omega
theorem map_set_of {α β : Type} {f : α → β} {l : List α} {j : Nat} {x : α} : (l.set j x).map f = (l.map f).set j (f x) := List.map_set ..
theorem MapOf.putOld [DecidableEq κ] (h : MapOf K V w b l) {es : Array MapEntry} {clock : Nat} (h1 : w.heap[b]? = some (.map es clock)) (h2 : es.toList.map (fun e => (e.key, e.val)) = l.map (fun p => (K.enc p.1, V p.2))) (h3 : ∀ e ∈ es.toList, e.born < clock) (h4 : (es.toList.map (·.born)).Nodup)
    {k : κ} {j : Nat} {v0 : ν} (hj : l[j]? = some (k, v0)) (v : ν) (f : MapEntry → MapEntry) (hf : ∀ e, es[j]? = some e → (f e).key = K.enc k ∧ (f e).val = V v ∧ (f e).born = e.born) :
    MapOf K V (putMap w b (.map (es.modify j f) clock)) b (up l k v) := by
  have hl : es.size = l.length := by have := congrArg List.length h2; simpa using this
  have hjl : j < l.length := (List.getElem?_eq_some_iff.1 hj).1
  have hje : j < es.size := by omega
  have hg := hf es[j] (Array.getElem?_eq_getElem hje)
  have hm : (es.modify j f).toList = es.toList.set j (f es[j]) := by
    apply List.ext_getElem?
    intro i
    rw [Array.getElem?_toList, Array.getElem?_modify, List.getElem?_set]
    by_cases hij : j = i
    · subst hij; simp [hje]
    · simp [hij]
  refine ⟨⟨es.modify j f, clock, ?_, ?_, ?_, ?_⟩, up_nodup h.nodup k v⟩
  · unfold putMap; have := h.lt; simp [Array.getElem?_setIfInBounds, this]
  · rw [hm, up_at h.nodup hj, map_set_of, map_set_of, h2, hg.1, hg.2.1]
  · intro e he
    rw [hm] at he
    rcases List.mem_or_eq_of_mem_set he with he | rfl
    · exact h3 e he
    · rw [hg.2.2]; exact h3 _ (by simp)
  · rw [hm, map_set_of, hg.2.2]
    rw [show (es.toList.map (·.born)).set j es[j].born = es.toList.map (·.born) from ?_]
    · exact h4
    · apply List.ext_getElem?
      intro i
      rw [List.getElem?_set]
      by_cases hij : j = i
      · subst hij; simp [hje]
      · simp [hij]
theorem key_at {es : Array MapEntry} {k : κ} {j : Nat} {v0 : ν} (h2 : es.toList.map (fun e => (e.key, e.val)) = l.map (fun p => (K.enc p.1, V p.2))) (hj : l[j]? = some (k, v0)) : ∃ e, es[j]? = some e ∧ e.key = K.enc k ∧ e.val = V v0 := by
  have := congrArg (fun z => z[j]?) h2
  simp only [List.getElem?_map, hj, Option.map_some] at this
  obtain ⟨e, he, h3⟩ := Option.map_eq_some_iff.1 this
  simp only [Prod.mk.injEq] at h3
  exact ⟨e, by simpa using he, h3.1, h3.2⟩
/-- A store. -/
theorem MapOf.update [DecidableEq κ] {t e : TypeId} (h : MapOf K V w b l) (ht : P.underlying t = some (.map K.t e)) (k : κ) (v : ν) :
    ∃ o, (Instr.mapUpdate t (.map (some b)) (K.enc k) (V v)).run P w = .ok () (putMap w b o) ∧ MapOf K V (putMap w b o) b (up l k v) := by
  obtain ⟨es, clock, h1, h2, h3, h4, h5⟩ := h.run_find k
  unfold Instr.mapUpdate
  simp only [Sem.run_bind, run_underlying ht, Result.andThen_ok, MapKept.run_getObj_map h1, Sem.run_pure, K.chk]
  rcases h5 with ⟨h5, h6⟩ | ⟨j, v0, h5, h6⟩
  · refine ⟨_, ?_, h.putNew h1 h2 h3 h4 h6 v⟩
    simp only [h5, Result.andThen_ok, MapKept.run_setObj_map _ h1]; rfl
  · obtain ⟨e0, he0, hk0, hv0⟩ := key_at h2 h6
    refine ⟨_, ?_, h.putOld h1 h2 h3 h4 h6 v (fun e => { e with key := K.enc k, val := V v }) (fun e he => ⟨rfl, rfl, rfl⟩)⟩
    have hkt : ((es[j]?).map (·.key)).getD (K.enc k) = K.enc k := by rw [he0]; exact hk0
    simp only [h5, Result.andThen_ok, Sem.run_bind, hkt, Instr.keyThatStays, K.same, if_true, Sem.run_pure, MapKept.run_setObj_map _ h1]; rfl
theorem findIdx_born {es : Array MapEntry} (h4 : (es.toList.map (·.born)).Nodup) {j : Nat} {e : MapEntry} (he : es[j]? = some e) : es.findIdx? (fun x => (x.born : Int) == (e.born : Int)) = some j := by
  rw [Array.findIdx?_eq_some_iff_getElem]
  obtain ⟨hj, hej⟩ := Array.getElem?_eq_some_iff.1 he
  refine ⟨hj, by rw [hej]; simp, fun k hk => ?_⟩
  simp only [beq_iff_eq, Int.natCast_inj]
  intro hh
  have hk' : k < es.size := by omega
  have h1 : (es.toList.map (·.born))[k]? = some es[k].born := by simp [hk']
  have h2 : (es.toList.map (·.born))[j]? = some es[k].born := by rw [hh]; simp [hj, hej]
  have := (List.getElem?_inj (by simpa using hk') h4).1 (h1.trans h2.symm)
  omega
/-- The entry of a key, made where it lacks. -/
theorem MapOf.entry [DecidableEq κ] {t e : TypeId} (h : MapOf K V w b l) (ht : P.underlying t = some (.map K.t e)) {z : ν} (hz : (zeroValue e).run P w = .ok (V z) w) (k : κ) :
    ∃ o stamp, (Instr.mapEntry t (.map (some b)) (K.enc k)).run P w = .ok (.tuple #[V ((lk l k).getD z), .int .i64 stamp]) (putMap w b o) ∧ MapOf K V (putMap w b o) b (up l k ((lk l k).getD z)) ∧
      ∀ v (w2 : World), w2.heap[b]? = (putMap w b o).heap[b]? → ∃ o2, (Instr.entryStore t (.map (some b)) (.int .i64 stamp) (V v)).run P w2 = .ok () (putMap w2 b o2) ∧ MapOf K V (putMap w2 b o2) b (up l k v) := by
  obtain ⟨es, clock, h1, h2, h3, h4, h5⟩ := h.run_find k
  have hlt := h.lt
  unfold Instr.mapEntry
  simp only [Sem.run_bind, run_underlying ht, Result.andThen_ok, MapKept.run_getObj_map h1, Sem.run_pure, K.chk]
  rcases h5 with ⟨h5, h6⟩ | ⟨j, v0, h5, h6⟩
  · rw [lk_none h6]
    have hM := h.putNew h1 h2 h3 h4 h6 z
    refine ⟨.map (es.push { key := K.enc k, val := V z, born := clock }) (clock + 1), clock, ?_, hM, fun v w2 hw2 => ?_⟩
    · simp only [h5, Result.andThen_ok, Sem.run_bind, hz, MapKept.run_setObj_map _ h1]; rfl
    · have hb2 : w2.heap[b]? = some (.map (es.push { key := K.enc k, val := V z, born := clock }) (clock + 1)) := by
        rw [hw2]; unfold putMap; simp [Array.getElem?_setIfInBounds, hlt]
      have hM2 := hM.move hw2
      obtain ⟨es2, clock2, e1, e2, e3, e4⟩ := hM2.out
      rw [hb2] at e1
      injection e1 with e1
      injection e1 with e1 e1'
      subst e1 e1'
      have hj : (up l k z)[l.length]? = some (k, z) := by rw [up_none h6]; simp
      have hl : es.size = l.length := by have := congrArg List.length h2; simpa using this
      have hup : up (up l k z) k v = up l k v := by
        rw [up_at hM.nodup hj, up_none h6, up_none h6]; simp
      refine ⟨_, ?_, hup ▸ hM2.putOld hb2 e2 e3 e4 hj v (fun e => { e with val := V v }) (fun e he => ?_)⟩
      · unfold Instr.entryStore
        have hf := findIdx_born e4 (j := es.size) (e := { key := K.enc k, val := V z, born := clock }) (by simp)
        simp only [Sem.run_bind, MapKept.run_getObj_map hb2, Result.andThen_ok, asInt, asIntOf, Sem.run_pure]
        rw [hf, hl]
        simp only [MapKept.run_setObj_map _ hb2]; rfl
      · rw [← hl] at he
        simp at he
        subst he
        exact ⟨rfl, rfl, rfl⟩
  · obtain ⟨e0, he0, hk0, hv0⟩ := key_at h2 h6
    have hlk := lk_at h.nodup h6
    rw [hlk]
    have hkt : ((es[j]?).map (·.key)).getD (K.enc k) = K.enc k := by rw [he0]; exact hk0
    have hbt : ((es[j]?).map (fun x => (x.born : Int))).getD 0 = (e0.born : Int) := by rw [he0]; rfl
    have hM := h.putOld h1 h2 h3 h4 h6 v0 (fun e => { e with key := K.enc k }) (fun e he => by
      rw [he0] at he
      injection he with he
      subst he
      exact ⟨rfl, hv0, rfl⟩)
    refine ⟨.map (es.modify j fun e => { e with key := K.enc k }) clock, e0.born, ?_, hM, fun v w2 hw2 => ?_⟩
    · simp only [h5, Result.andThen_ok, Sem.run_bind, hkt, hbt, Instr.keyThatStays, K.same, if_true, Sem.run_pure, MapKept.run_setObj_map _ h1]; rfl
    · have hb2 : w2.heap[b]? = some (.map (es.modify j fun e => { e with key := K.enc k }) clock) := by
        rw [hw2]; unfold putMap; simp [Array.getElem?_setIfInBounds, hlt]
      have hM2 := hM.move hw2
      obtain ⟨es2, clock2, e1, e2, e3, e4⟩ := hM2.out
      rw [hb2] at e1
      injection e1 with e1
      injection e1 with e1 e1'
      subst e1 e1'
      have hj : (up l k v0)[j]? = some (k, v0) := by
        rw [up_at h.nodup h6, List.getElem?_set_self (List.getElem?_eq_some_iff.1 h6).1]
      have hup : up (up l k v0) k v = up l k v := by
        rw [up_at hM.nodup hj, up_at h.nodup h6, up_at h.nodup h6]; simp
      refine ⟨_, ?_, hup ▸ hM2.putOld hb2 e2 e3 e4 hj v (fun e => { e with val := V v }) (fun e he => ?_)⟩
      · unfold Instr.entryStore
        have hf := findIdx_born e4 (j := j) (e := { e0 with key := K.enc k }) (by rw [Array.getElem?_modify]; simp [he0])
        simp only [Sem.run_bind, MapKept.run_getObj_map hb2, Result.andThen_ok, asInt, asIntOf, Sem.run_pure]
        rw [hf]
        simp only [MapKept.run_setObj_map _ hb2]; rfl
      · rw [Array.getElem?_modify] at he
        simp [he0] at he
        subst he
        exact ⟨rfl, rfl, rfl⟩
/-! The same at the operations, for the walk. -/
variable {ops : Array Oper} {rest : List Oper} {o : Oper} {a : Act} {Q : Exit → Act → World → Prop}
theorem wp_lookup [DecidableEq κ] (h : MapOf K V w b l) (hg : o.guard = none) (m x : Operand) (t e : TypeId) (hop : o.op = Op.lookup t m x false) (ht : P.underlying t = some (.map K.t e)) {z : Value} (hz : ∀ w, (zeroValue e).run P w = .ok z w)
    (k : κ) (hm : a.eval m = .map (some b)) (hx : a.eval x = K.enc k) (hK : wpList P ops Q rest (a.put o.dst (((lk l k).map V).getD z)) w) : wpList P ops Q (o :: rest) a w := by
  refine wpList_plain hg fun K' hK' => ?_
  unfold Oper.wp
  have hrun := h.lookup ht (hz w) k false
  simp [execOp, hop, hm, hx, hrun, Result.andThen]
  exact hK' _ _ hK
theorem wp_lookup_ok [DecidableEq κ] (h : MapOf K V w b l) (hg : o.guard = none) (m x : Operand) (t e : TypeId) (hop : o.op = Op.lookup t m x true) (ht : P.underlying t = some (.map K.t e)) {z : Value} (hz : ∀ w, (zeroValue e).run P w = .ok z w)
    (k : κ) (hm : a.eval m = .map (some b)) (hx : a.eval x = K.enc k) (hK : wpList P ops Q rest (a.put o.dst (.tuple #[((lk l k).map V).getD z, .bool (lk l k).isSome])) w) : wpList P ops Q (o :: rest) a w := by
  refine wpList_plain hg fun K' hK' => ?_
  unfold Oper.wp
  have hrun := h.lookup ht (hz w) k true
  simp [execOp, hop, hm, hx, hrun, Result.andThen]
  exact hK' _ _ hK
theorem wp_mapUpdate [DecidableEq κ] {B : Nat} {w0 : World} (h : MapOf K V w b l) (hg : o.guard = none) (m x y : Operand) (t e : TypeId) (hop : o.op = Op.mapUpdate t m x y) (hd : o.dst = none) (ht : P.underlying t = some (.map K.t e))
    (k : κ) (v : ν) (hm : a.eval m = .map (some b)) (hx : a.eval x = K.enc k) (hy : a.eval y = V v)
    (hK : ∀ ob, MapOf K V (putMap w b ob) b (up l k v) → wpList P ops Q rest a (putMap w b ob)) : wpList P ops Q (o :: rest) a w := by
  refine wpList_plain hg fun K' hK' => ?_
  unfold Oper.wp
  obtain ⟨ob, hrun, hM⟩ := h.update ht k v
  simp [execOp, hop, hm, hx, hy, hrun, Result.andThen]
  have e : a.put o.dst undef = a := by rw [hd]; rfl
  have := hK' a (putMap w b ob) (hK ob hM)
  rw [← e] at this
  exact this
end
end Go.Proofs.Ytckcffjnffcjcaa
