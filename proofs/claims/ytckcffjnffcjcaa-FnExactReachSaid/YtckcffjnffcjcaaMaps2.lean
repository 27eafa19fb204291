/- Maps that the call makes, further: delete, len, and ranging over one in whatever order. No conditions. -/
import Derived.Test.YtckcffjnffcjcaaKeys
import Derived.Test.YtckcffjnffcjcaaNet4
import Derived.Maps.RangeRun
import Derived.Maps.RangeWalk
set_option linter.unusedVariables false
set_option linter.unusedSimpArgs false
namespace Go.Proofs.Ytckcffjnffcjcaa
open Go.RowKit Go.Proofs.YtckcffjnffcjcaaW.PrintWords
/-- The list of entries without a key. -/
def dl {κ ν : Type} [DecidableEq κ] (l : List (κ × ν)) (k : κ) : List (κ × ν) := l.filter (fun p => decide (p.1 ≠ k))
theorem dl_none {κ ν : Type} [DecidableEq κ] {l : List (κ × ν)} {k : κ} (h : ∀ p ∈ l, p.1 ≠ k) : dl l k = l := by
  unfold dl; rw [List.filter_eq_self]; intro p hp; simpa using h p hp
theorem dl_at {κ ν : Type} [DecidableEq κ] {l : List (κ × ν)} (hn : (l.map (·.1)).Nodup) {j : Nat} {k : κ} {v : ν} (h : l[j]? = some (k, v)) : dl l k = l.eraseIdx j := by
  induction l generalizing j with
  | nil => simp at h
  | cons p l ih =>
    simp only [List.map_cons, List.nodup_cons] at hn
    cases j with
    | zero =>
      simp at h; subst h
      have : dl l k = l := dl_none fun q hq e => hn.1 (by rw [← e]; exact List.mem_map.2 ⟨q, hq, rfl⟩)
      unfold dl at this ⊢
      rw [List.filter_cons, if_neg (by simp), this]; rfl
    | succ j =>
      have h2 : l[j]? = some (k, v) := by simpa using h
      have hp : p.1 ≠ k := fun e => hn.1 (by rw [e]; exact List.mem_map.2 ⟨_, List.mem_of_getElem? h2, rfl⟩)
      have := ih hn.2 h2
      unfold dl at this ⊢
      rw [List.filter_cons, if_pos (by simpa using hp), this]; rfl
theorem map_eraseIdx' {α β : Type} (f : α → β) : ∀ (l : List α) (i : Nat), (l.eraseIdx i).map f = (l.map f).eraseIdx i
  | [], _ => rfl
  | _ :: _, 0 => rfl
  | a :: l, i + 1 => by rw [List.eraseIdx_cons_succ, List.map_cons, List.map_cons, List.eraseIdx_cons_succ, map_eraseIdx' f l i]
theorem nodup_sub {α : Type} {l m : List α} (h : l.Sublist m) (hn : m.Nodup) : l.Nodup := List.Nodup.sublist h hn
section
variable {P : Program} {κ ν : Type} {K : KeyEnc P κ} {V : ν → Value} {w w1 : World} {b r : Nat} {l left : List (κ × ν)}
theorem MapOf.put (h : MapOf K V w b l) {k : Nat} {o : Obj} (hk : b ≠ k) : MapOf K V (putMap w k o) b l := h.move (putMap_other w k o hk)
/-- len(m). -/
theorem MapOf.len {t e : TypeId} (h : MapOf K V w b l) (ht : P.underlying t = some (.map K.t e)) (ty : TypeId) : (Builtin.len_ #[t] ty #[.map (some b)]).run P w = .ok (.int .i64 l.length) w := by
  obtain ⟨⟨es, clock, h1, h2, _⟩, _⟩ := h
  have hl : es.size = l.length := by have := congrArg List.length h2; simpa using this
  simp [Builtin.len_, run_underlying ht, MapKept.run_getObj_map h1, goInt, Result.andThen, hl]
/-- delete(m, k). -/
theorem MapOf.delete [DecidableEq κ] {t e : TypeId} (h : MapOf K V w b l) (ht : P.underlying t = some (.map K.t e)) (k : κ) (ty : TypeId) :
    ∃ o, (Builtin.delete_ #[t, K.t] ty #[.map (some b), K.enc k]).run P w = .ok (.tuple #[]) (putMap w b o) ∧ MapOf K V (putMap w b o) b (dl l k) := by
  obtain ⟨es, clock, h1, h2, h3, h4, h5⟩ := h.run_find k
  have hlt := h.lt
  rcases h5 with ⟨h5, h6⟩ | ⟨j, v0, h5, h6⟩
  · refine ⟨.map es clock, ?_, ⟨⟨es, clock, ?_, by rw [dl_none h6]; exact h2, h3, h4⟩, by rw [dl_none h6]; exact h.nodup⟩⟩
    · simp [Builtin.delete_, run_underlying ht, MapKept.run_getObj_map h1, K.chk, h5, MapKept.run_setObj_map _ h1, Result.andThen, putMap]
    · unfold putMap; simp [Array.getElem?_setIfInBounds, hlt]
  · have hl : es.size = l.length := by have := congrArg List.length h2; simpa using this
    have hj : j < es.size := by rw [hl]; exact (List.getElem?_eq_some_iff.1 h6).1
    have hsub : (es.eraseIdxIfInBounds j).toList = es.toList.eraseIdx j := by
      unfold Array.eraseIdxIfInBounds
      rw [dif_pos hj]; simp
    have hd := dl_at h.nodup h6
    refine ⟨.map (es.eraseIdxIfInBounds j) clock, ?_, ⟨⟨es.eraseIdxIfInBounds j, clock, by unfold putMap; simp [Array.getElem?_setIfInBounds, hlt], ?_, fun e he => ?_, ?_⟩, ?_⟩⟩
    · simp [Builtin.delete_, run_underlying ht, MapKept.run_getObj_map h1, K.chk, h5, MapKept.run_setObj_map _ h1, Result.andThen, putMap]
    · rw [hsub, hd, map_eraseIdx', map_eraseIdx', h2]
    · rw [hsub] at he
      exact h3 e ((List.eraseIdx_sublist _ _).subset he)
    · rw [hsub]
      exact nodup_sub ((List.eraseIdx_sublist _ _).map _) h4
    · rw [hd]
      exact nodup_sub ((List.eraseIdx_sublist _ _).map _) h.nodup
/-- Block r is an iterator over the map in block b, which holds the entries l; those of left are still to come. -/
structure Iter {P : Program} {κ ν : Type} (K : KeyEnc P κ) (V : ν → Value) (w : World) (b r : Nat) (l left : List (κ × ν)) : Prop where
  map : MapOf K V w b l
  out : ∃ es clock since c0 seen, w.heap[b]? = some (.map es clock) ∧ es.toList.map (fun e => (e.key, e.val)) = l.map (fun p => (K.enc p.1, V p.2)) ∧ w.heap[r]? = some (.mapIter (some b) since seen c0) ∧ since ≤ c0 ∧ c0 ≤ clock ∧
    (∀ e ∈ es.toList, e.born < since) ∧ (es.toList.map (·.born)).Nodup ∧ left = ((l.zip es.toList).filter (fun p => !seen.contains p.2.born)).map (·.1)
theorem Iter.move (h : Iter K V w b r l left) (hb : w1.heap[b]? = w.heap[b]?) (hr : w1.heap[r]? = w.heap[r]?) : Iter K V w1 b r l left := by
  obtain ⟨hm, es, clock, since, c0, seen, h1, h2, h3, h4⟩ := h
  exact ⟨hm.move hb, es, clock, since, c0, seen, hb.trans h1, h2, hr.trans h3, h4⟩
theorem Iter.ne (h : Iter K V w b r l left) : b ≠ r := by
  obtain ⟨hm, es, clock, since, c0, seen, h1, h2, h3, h4⟩ := h
  rintro rfl
  rw [h1] at h3
  cases h3
theorem Iter.ltr (h : Iter K V w b r l left) : r < w.heap.size := by
  obtain ⟨hm, es, clock, since, c0, seen, h1, h2, h3, h4⟩ := h
  exact (Array.getElem?_eq_some_iff.1 h3).1
theorem Iter.below (h : Iter K V w b r l left) (hb : Below w.heap.size w w1) : Iter K V w1 b r l left := h.move (hb.block b h.map.lt) (hb.block r h.ltr)
theorem Iter.put (h : Iter K V w b r l left) {k : Nat} {o : Obj} (hk : b ≠ k) (hk2 : r ≠ k) : Iter K V (putMap w k o) b r l left := h.move (putMap_other w k o hk) (putMap_other w k o hk2)
theorem zip_all {α β : Type} (l : List α) (es : List β) (h : es.length = l.length) : (l.zip es).map (·.1) = l := by
  rw [List.map_fst_zip (by omega)]
/-- range m. -/
theorem MapOf.range {t e : TypeId} (h : MapOf K V w b l) (ht : P.underlying t = some (.map K.t e)) :
    ∃ o, (Instr.range t (.map (some b))).run P w = .ok (.pointer (some ⟨w.heap.size, 0, none⟩)) (w.alloc o) ∧ Iter K V (w.alloc o) b w.heap.size l l := by
  have hm := h
  have hlt := h.lt
  obtain ⟨⟨es, clock, h1, h2, h3, h4⟩, hn⟩ := h
  have hl : es.toList.length = l.length := by have := congrArg List.length h2; simpa using this
  refine ⟨_, run_range_map w t K.t e b es clock ht h1, hm.alloc _, es, clock, clock, clock, #[], ?_, h2, (MapKept.heap_alloc w _).1, Nat.le_refl _, Nat.le_refl _, h3, h4, ?_⟩
  · rw [heap_alloc_old w _ hlt, Array.getElem?_eq_getElem hlt, ← Array.getElem?_eq_getElem hlt]; exact h1
  · rw [show ((l.zip es.toList).filter (fun p => !(#[] : Array Nat).contains p.2.born)) = l.zip es.toList from List.filter_eq_self.2 (by simp), zip_all l es.toList hl]
/-- The iterator's step: nothing is left; or an entry that is left, whichever. -/
theorem Iter.next (h : Iter K V w b r l left) (ty : TypeId) :
    (left = [] ∧ (Instr.next (.pointer (some ⟨r, 0, none⟩)) false ty).run P w = .ok (.tuple #[.bool false]) w) ∨
    ∃ k v left' w' o, (Instr.next (.pointer (some ⟨r, 0, none⟩)) false ty).run P w = .ok (.tuple #[.bool true, K.enc k, V v]) w' ∧ (w' = putMap w r o ∨ w' = putMap w.drew r o) ∧
      (k, v) ∈ left ∧ left'.length < left.length ∧ (∀ p, p ∈ left ↔ p = (k, v) ∨ p ∈ left') ∧ (∀ p ∈ left', p.1 ≠ k) ∧ Iter K V w' b r l left' ∧ (Instr.entry (.pointer (some ⟨r, 0, none⟩))).run P w' = .ok (.tuple #[K.enc k, V v]) w' := by
  have hne := h.ne
  have hltr := h.ltr
  have hmap := h.map
  obtain ⟨hm, es, clock, since, c0, seen, h1, h2, h3, h4, h5, h6, h7, hleft⟩ := h
  have hl : es.toList.length = l.length := by have := congrArg List.length h2; simpa using this
  rcases run_next_at w ty r b since c0 seen es clock h3 h1 h6 h4 with ⟨h0, hrun⟩ | ⟨e, he, w1, hw1, hrun⟩
  · left
    refine ⟨?_, hrun⟩
    rw [hleft]
    have hz : ∀ e ∈ es.toList, seen.contains e.born = true := fun e he => by
      have hemp : leftOf es seen = #[] := Array.eq_empty_of_size_eq_zero h0
      unfold leftOf at hemp
      have := Array.filter_eq_empty_iff.1 hemp e (by simpa using he)
      simpa using this
    rw [List.filter_eq_nil_iff.2]
    · rfl
    · intro p hp
      rw [hz p.2 (List.of_mem_zip hp).2]; simp
  · right
    have hem : e ∈ es.toList ∧ seen.contains e.born = false := by
      unfold leftOf at he
      simp only [Array.toList_filter, List.mem_filter] at he
      exact ⟨he.1, by simpa using he.2⟩
    obtain ⟨j, hj, hje⟩ := List.getElem_of_mem hem.1
    have hjl : j < l.length := by omega
    have hkv : e.key = K.enc l[j].1 ∧ e.val = V l[j].2 := by
      have := congrArg (fun z => z[j]?) h2
      simp only [List.getElem?_map, List.getElem?_eq_getElem hj, List.getElem?_eq_getElem hjl, Option.map_some, hje, Option.some.injEq, Prod.mk.injEq] at this
      exact this
    have hpair : (l[j], e) ∈ l.zip es.toList := by
      have : (l.zip es.toList)[j]? = some (l[j], e) := by
        rw [List.getElem?_zip_eq_some]
        exact ⟨List.getElem?_eq_getElem hjl, by rw [List.getElem?_eq_getElem hj, hje]⟩
      exact List.mem_of_getElem? this
    -- what has this stamp is this entry; what has this key is this pair
    have hstamp : ∀ p ∈ l.zip es.toList, p.2.born = e.born → p = (l[j], e) := by
      intro p hp hb
      obtain ⟨i, hi, hpi⟩ := List.getElem_of_mem hp
      have hi' : i < l.length ∧ i < es.toList.length := by simp at hi; omega
      have h8 : (es.toList.map (·.born))[i]? = (es.toList.map (·.born))[j]? := by
        rw [List.getElem?_map, List.getElem?_map, List.getElem?_eq_getElem hi'.2, List.getElem?_eq_getElem hj, hje]
        rw [List.getElem_zip] at hpi
        rw [← hpi] at hb
        simpa using hb
      have h9 := (List.getElem?_inj (by simpa using hi'.2) h7).1 h8
      subst h9
      rw [← hpi, List.getElem_zip, hje]
    have hkey : ∀ p ∈ l.zip es.toList, p.1.1 = l[j].1 → p = (l[j], e) := by
      intro p hp hb
      obtain ⟨i, hi, hpi⟩ := List.getElem_of_mem hp
      have hi' : i < l.length ∧ i < es.toList.length := by simp at hi; omega
      have h8 : (l.map (·.1))[i]? = (l.map (·.1))[j]? := by
        rw [List.getElem?_map, List.getElem?_map, List.getElem?_eq_getElem hi'.1, List.getElem?_eq_getElem hjl]
        rw [List.getElem_zip] at hpi
        rw [← hpi] at hb
        simpa using hb
      have h9 := (List.getElem?_inj (by simpa using hi'.1) hmap.nodup).1 h8
      subst h9
      rw [← hpi, List.getElem_zip, hje]
    have hw : w1.heap = w.heap := by rcases hw1 with rfl | rfl <;> rfl
    have hb1 : (putMap w1 r (.mapIter (some b) since (seen.push e.born) clock)).heap[b]? = some (.map es clock) := by rw [putMap_other _ _ _ hne, hw]; exact h1
    have hr1 : (putMap w1 r (.mapIter (some b) since (seen.push e.born) clock)).heap[r]? = some (.mapIter (some b) since (seen.push e.born) clock) := by
      unfold putMap; rw [hw]; simp [Array.getElem?_setIfInBounds, hltr]
    have hiter : Iter K V (putMap w1 r (.mapIter (some b) since (seen.push e.born) clock)) b r l (((l.zip es.toList).filter (fun p => !(seen.push e.born).contains p.2.born)).map (·.1)) :=
      ⟨hmap.move (hb1.trans h1.symm), es, clock, since, clock, seen.push e.born, hb1, h2, hr1, by omega, Nat.le_refl _, h6, h7, rfl⟩
    have hcont : ∀ p ∈ l.zip es.toList, (seen.push e.born).contains p.2.born = (seen.contains p.2.born || p.2.born == e.born) := fun p _ => by
      rw [Array.contains_push]
    refine ⟨l[j].1, l[j].2, ((l.zip es.toList).filter (fun p => !(seen.push e.born).contains p.2.born)).map (·.1), putMap w1 r (.mapIter (some b) since (seen.push e.born) clock), .mapIter (some b) since (seen.push e.born) clock, by rw [hrun, hkv.1, hkv.2]; rfl, ?_, ?_, ?_, ?_, ?_, hiter, ?_⟩
    · rcases hw1 with rfl | rfl
      · exact .inl rfl
      · exact .inr rfl
    · rw [hleft]
      exact List.mem_map.2 ⟨(l[j], e), List.mem_filter.2 ⟨hpair, by simp only; rw [hem.2]; rfl⟩, rfl⟩
    · rw [hleft, List.length_map, List.length_map]
      refine filter_lt (fun p : (κ × ν) × MapEntry => !seen.contains p.2.born) (fun p => !(seen.push e.born).contains p.2.born) (fun p hp => ?_) (l[j], e) (by simp only; rw [hem.2]; rfl) ?_ _ hpair
      · simp only [Array.contains_push, Bool.not_or, Bool.and_eq_true] at hp
        exact hp.1
      · simp only [Array.contains_push]; simp
    · intro p
      rw [hleft]
      simp only [List.mem_map, List.mem_filter]
      constructor
      · rintro ⟨x, ⟨hx1, hx2⟩, rfl⟩
        by_cases hb : x.2.born = e.born
        · exact .inl (by rw [hstamp x hx1 hb])
        · refine .inr ⟨x, ⟨hx1, ?_⟩, rfl⟩
          rw [hcont x hx1, Bool.not_or, hx2]
          simpa using hb
      · rintro (rfl | ⟨x, ⟨hx1, hx2⟩, rfl⟩)
        · exact ⟨(l[j], e), ⟨hpair, by simp only; rw [hem.2]; rfl⟩, rfl⟩
        · refine ⟨x, ⟨hx1, ?_⟩, rfl⟩
          rw [hcont x hx1, Bool.not_or, Bool.and_eq_true] at hx2
          exact hx2.1
    · intro p hp
      obtain ⟨x, hx, rfl⟩ := List.mem_map.1 hp
      obtain ⟨hx1, hx2⟩ := List.mem_filter.1 hx
      intro hk
      have := hkey x hx1 hk
      rw [hcont x hx1, this] at hx2
      simp at hx2
    · rw [← hkv.1, ← hkv.2]
      exact run_entry_at _ r b since seen es clock e hr1 hb1 hem.1 h7
end
end Go.Proofs.Ytckcffjnffcjcaa
