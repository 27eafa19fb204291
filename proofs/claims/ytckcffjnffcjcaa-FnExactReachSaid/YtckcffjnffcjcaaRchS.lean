/- slices.SortFunc at rows of spots, by the kit's contract; the program's closure that compares. No conditions. -/
import Derived.Test.YtckcffjnffcjcaaRchX
import Derived.Test.YtckcffjnffcjcaaRchLay
set_option linter.unusedVariables false
set_option linter.unusedSimpArgs false
namespace Go.Proofs.Ytckcffjnffcjcaa
open Go.RowKit Go.Proofs.YtckcffjnffcjcaaW.PrintWords
def encS (x : SpotT) : List Value := [.int .i64 x.piece, .int .i64 x.at_, .int .i64 x.way]
/-- How the closure compares. -/
def cmpS (x y : SpotT) : Int := if Go.Lib.compareInt x.piece y.piece ≠ 0 then Go.Lib.compareInt x.piece y.piece else if Go.Lib.compareInt x.at_ y.at_ ≠ 0 then Go.Lib.compareInt x.at_ y.at_ else Go.Lib.compareInt x.way y.way
theorem cmpI (a b : Int) : (a < b ∧ Go.Lib.compareInt a b = -1) ∨ (a = b ∧ Go.Lib.compareInt a b = 0) ∨ (b < a ∧ Go.Lib.compareInt a b = 1) := by
  unfold Go.Lib.compareInt
  rcases Int.lt_trichotomy a b with h | h | h
  · exact .inl ⟨h, by simp [h]⟩
  · exact .inr (.inl ⟨h, by simp [h]⟩)
  · exact .inr (.inr ⟨h, by rw [if_neg (by omega), if_pos h]⟩)
theorem ltS (x y : SpotT) : Go.Proofs.ltOf cmpS x y = spotLt x y := by
  unfold Go.Proofs.ltOf cmpS spotLt
  rcases cmpI x.piece y.piece with ⟨h, e⟩ | ⟨h, e⟩ | ⟨h, e⟩ <;> rw [e] <;> rcases cmpI x.at_ y.at_ with ⟨h2, e2⟩ | ⟨h2, e2⟩ | ⟨h2, e2⟩ <;> rw [e2] <;> rcases cmpI x.way y.way with ⟨h3, e3⟩ | ⟨h3, e3⟩ | ⟨h3, e3⟩ <;> rw [e3] <;> simp <;> omega
theorem swoS : Go.Sort.SWO (Go.Proofs.ltOf cmpS) where
  irrefl x := by rw [ltS]; unfold spotLt; simp
  trans x y z h1 h2 := by rw [ltS] at *; unfold spotLt at *; simp at *; omega
  ntrans x y z h1 h2 := by rw [ltS] at *; unfold spotLt at *; simp at *; omega
/-! ### Rows -/
theorem flat_at (d : List SpotT) (i c : Nat) (hi : i < d.length) (hc : c < 3) : (Go.Sort.flatK encS 3 d.toArray)[i * 3 + c]! = (encS (d.getD i default))[c]! := by
  rw [Go.Sort.get_flatK encS 3 d.toArray (i * 3 + c) (by simp; omega)]
  rw [show (i * 3 + c) / 3 = i by omega, show (i * 3 + c) % 3 = c by omega]
  congr 2
  rw [getD_at d i hi]
  simp [hi]
theorem holds_spots {W : World} {base g cap : Nat} {ok : Nat → Prop} {xs : List SpotT} (h : kSpot.R 38 W base ok (.slice (some ⟨g, 0, none⟩) xs.length cap) xs) : Go.Sort.HoldsK encS 3 W g 0 xs.toArray := by
  intro j hj
  have hj3 : j < xs.length * 3 := by simpa using hj
  obtain ⟨g', cap', e, _, _, cells, hb⟩ := Kd.R_form h (by omega)
  injection e with e _ _
  injection e with e
  injection e with e _ _
  subst e
  refine ⟨?_, by simp [World.frozen?, hb]⟩
  obtain ⟨ad, ea, x0, x1, x2⟩ := at_Spot (Kd.R_reads' h).2.2 (j / 3) (by omega)
  obtain rfl : (⟨g, 0, none⟩ : Addr) = ad := by injection ea
  rw [add_lit] at x0 x1 x2
  have hc : j % 3 < 3 := by omega
  have hf := flat_at xs (j / 3) (j % 3) (by omega) hc
  rw [show j / 3 * 3 + j % 3 = j by omega] at hf
  rw [hf, Nat.zero_add]
  rcases (by omega : j % 3 = 0 ∨ j % 3 = 1 ∨ j % 3 = 2) with e | e | e
  · rw [e, show j = j / 3 * 3 by omega, show (j / 3 * 3) / 3 = j / 3 by omega]; exact x0
  · rw [e]; rw [show (⟨g, j, none⟩ : Addr) = ⟨g, j / 3 * 3 + 1, none⟩ by congr 1; omega]; exact x1
  · rw [e]; rw [show (⟨g, j, none⟩ : Addr) = ⟨g, j / 3 * 3 + 2, none⟩ by congr 1; omega]; exact x2
/-- Behind the sort the same row holds the other list; no other block has changed. -/
theorem sorted_spots {W : World} {base g cap m : Nat} {ok : Nat → Prop} {os : Array Obj} {xs ys : List SpotT} (h : kSpot.R 38 W base ok (.slice (some ⟨g, 0, none⟩) xs.length cap) xs) (hl : ys.length = xs.length) (hp : 0 < xs.length) :
    kSpot.R 38 (Go.Proofs.sortWorldK encS 3 W g 0 m ys.toArray os) base ok (.slice (some ⟨g, 0, none⟩) xs.length cap) ys ∧ W.grownBy (Go.Proofs.sortWorldK encS 3 W g 0 m ys.toArray os) (some g) := by
  obtain ⟨h0, inner, ⟨h1, h2⟩, h3⟩ := h
  rcases h2 with ⟨e, e2⟩ | ⟨g', cap', cur, e, hb, hg, hn, hcap, hsz, htk⟩
  · omega
  · injection e with e _ ecap
    injection e with e
    injection e with e _ _
    subst e
    subst ecap
    have hsz' : cur.size = cap * 3 := hsz
    have hgl : g < W.heap.size := (Array.getElem?_eq_some_iff.1 hg).1
    have hheap : (Go.Proofs.sortWorldK encS 3 W g 0 m ys.toArray os).heap[g]? = some (.cells (Go.Sort.putCells id 0 (Go.Sort.flatK encS 3 ys.toArray) cur) 38 (0, 0)) := by
      unfold Go.Proofs.sortWorldK Go.Sort.putRowK
      rw [Go.Sort.heap_grow_old _ _ (by simpa [Go.Sort.putRow, Go.Sort.mapBlock, Go.Sort.ahead] using hgl)]
      simp [Go.Sort.putRow, Go.Sort.mapBlock, Go.Sort.ahead, Array.getElem?_modify, hg, Go.Sort.onCells]
    have htake : (Go.Sort.putCells id 0 (Go.Sort.flatK encS 3 ys.toArray) cur).toList.take (xs.length * 3) = (Go.Sort.flatK encS 3 ys.toArray).toList := by
      apply List.ext_getElem?
      intro j
      by_cases hj : j < xs.length * 3
      · rw [List.getElem?_take_of_lt hj, Array.getElem?_toList]
        simp [Go.Sort.putCells, hl, hj, show j < cur.size by omega]
      · rw [List.getElem?_take_eq_none (by omega), List.getElem?_eq_none (by simp; omega)]
    refine ⟨⟨h0, (Go.Sort.flatK encS 3 ys.toArray).toList, ⟨by rw [Array.length_toList, Go.Sort.size_flatK]; rfl, .inr ⟨g, cap, _, by rw [hl], hb, hheap, by omega, hcap, by simp [Go.Sort.putCells]; exact hsz, by rw [hl]; exact htake⟩⟩, by rw [Array.length_toList, Go.Sort.size_flatK]; rfl, fun j p hj => ?_⟩, rfl, rfl, rfl, ?_, fun k hk hne => ?_⟩
    · have hjl : j < ys.length := (List.getElem?_eq_some_iff.1 hj).1
      have hpj : ys.getD j default = p := by rw [List.getD_eq_getElem?_getD, hj]; rfl
      have e : ((Go.Sort.flatK encS 3 ys.toArray).toList.drop (j * kSpot.sz)).take kSpot.sz = encS p := by
        apply List.ext_getElem?
        intro c
        show (((Go.Sort.flatK encS 3 ys.toArray).toList.drop (j * 3)).take 3)[c]? = _
        by_cases hc : c < 3
        · rw [List.getElem?_take_of_lt hc, List.getElem?_drop, Array.getElem?_toList]
          have hf := flat_at ys j c hjl hc
          rw [hpj] at hf
          have hlt : j * 3 + c < (Go.Sort.flatK encS 3 ys.toArray).size := by rw [Go.Sort.size_flatK]; simp; omega
          rw [getElem!_pos (Go.Sort.flatK encS 3 ys.toArray) (j * 3 + c) hlt] at hf
          rw [Array.getElem?_eq_getElem hlt, hf]
          rcases (by omega : c = 0 ∨ c = 1 ∨ c = 2) with e | e | e <;> subst e <;> rfl
        · rw [List.getElem?_take_eq_none (by omega), List.getElem?_eq_none (by simp [encS]; omega)]
      rw [e]
      exact kSpot_mkM _ _ _ p
    · simp [Go.Proofs.sortWorldK, Go.Sort.putRowK, Go.Sort.putRow, Go.Sort.mapBlock, Go.Sort.ahead, Go.Sort.grow]
    · unfold Go.Proofs.sortWorldK Go.Sort.putRowK
      rw [Go.Sort.heap_grow_old _ _ (by simpa [Go.Sort.putRow, Go.Sort.mapBlock, Go.Sort.ahead] using hk)]
      have : g ≠ k := fun e => hne (by rw [e])
      simp [Go.Sort.putRow, Go.Sort.mapBlock, Go.Sort.ahead, Array.getElem?_modify, this]
/-! ### The closure -/
def or3 (a b c : Int) : Int := if a ≠ 0 then a else if b ≠ 0 then b else c
set_option maxRecDepth 100000 in
set_option maxHeartbeats 4000000 in
theorem cmpOr_any (g : Nat) (a b c : Int) (w : World) (h : Bx w g [.int .i64 a, .int .i64 b, .int .i64 c]) :
    Calls Try.prog 165 #[.slice (some ⟨g, 0, none⟩) 3 3] w fun e w' => e = .returned (.int .i64 (or3 a b c)) ∧ w' = w := by
  have H := Aside0.mk h
  clear h
  go_enter Try.func165, Try.ntmps165
  go_wp2_with fail
  go_loopw [8] (fun v8 wr => ∃ (i : Nat), v8 = .int .i64 (i : Int) ∧ i ≤ 3 ∧ Aside0 (wr = w) ∧ (0 < i → a = 0) ∧ (1 < i → b = 0) ∧ (2 < i → c = 0)) (fun v8 _ => 3 - (intOf v8).toNat)
  case atStart => exact ⟨0, rfl, by omega, ⟨rfl⟩, fun h => by omega, fun h => by omega, fun h => by omega⟩
  case round =>
    obtain ⟨i, rfl, hi, ⟨rfl⟩, h1, h2, h3⟩ := hrel
    by_cases hlt : i < 3
    · obtain ⟨v, hv, hva, hvb, hvc⟩ : ∃ v : Int, [Value.int .i64 a, .int .i64 b, .int .i64 c][i]? = some (.int .i64 v) ∧ (i = 0 → v = a) ∧ (i = 1 → v = b) ∧ (i = 2 → v = c) := by
        rcases (by omega : i = 0 ∨ i = 1 ∨ i = 2) with e | e | e <;> subst e
        · exact ⟨a, rfl, fun _ => rfl, fun h => by omega, fun h => by omega⟩
        · exact ⟨b, rfl, fun h => by omega, fun _ => rfl, fun h => by omega⟩
        · exact ⟨c, rfl, fun h => by omega, fun h => by omega, fun _ => rfl⟩
      have y := H.out.c i _ hv
      have hlt1 : (i : Int) < 3 := by omega
      have hlt0 : (0 : Int) ≤ (i : Int) := by omega
      have H1 := Aside0.mk h1; have H2 := Aside0.mk h2; have H3 := Aside0.mk h3
      have HA := Aside0.mk hva; have HB := Aside0.mk hvb; have HC := Aside0.mk hvc
      clear hv h1 h2 h3 hva hvb hvc
      by_cases hv0 : v = 0
      · have e0 : (v == 0) = true := by simpa using hv0
        have HV0 := Aside0.mk hv0
        clear hv0
        go_wp2_with fail
        go_roundw
        case rel =>
          have h1 := H1.out; have h2 := H2.out; have h3 := H3.out; have ha := HA.out; have hb := HB.out; have hc := HC.out; have hv0 := HV0.out
          exact ⟨i + 1, by go_num, by omega, ⟨by first | trivial | rfl⟩, fun h => by omega, fun h => by omega, fun h => by omega⟩
        case measure => simp [intOf]; omega
      · have e0 : (v == 0) = false := by simpa using hv0
        have HV0 := Aside0.mk hv0
        clear hv0
        have HR : Aside0 (or3 a b c = v) := ⟨by
          have h1 := H1.out; have h2 := H2.out; have ha := HA.out; have hb := HB.out; have hc := HC.out; have hv0 := HV0.out
          unfold or3
          rcases (by omega : i = 0 ∨ i = 1 ∨ i = 2) with e | e | e
          · rw [← ha e, if_pos hv0]
          · rw [if_neg (by have := h1 (by omega); omega), ← hb e, if_pos hv0]
          · rw [if_neg (by have := h1 (by omega); omega), if_neg (by have := h2 (by omega); omega), ← hc e]⟩
        go_wp2_with fail
        go_ret
        exact ⟨by rw [HR.out]; rfl, rfl⟩
    · have hge : ¬ (i : Int) < 3 := by omega
      have HR : Aside0 (or3 a b c = 0) := ⟨by unfold or3; rw [if_neg (by have := h1 (by omega); omega), if_neg (by have := h2 (by omega); omega)]; exact h3 (by omega)⟩
      go_wp2_with fail
      go_ret
      exact ⟨by rw [HR.out]; rfl, rfl⟩
/-- A world that has only grown. -/
def GW (W w : World) : Prop := ∃ q os, w = Go.Sort.grow (W.drewN q) os
theorem GW.refl (W : World) : GW W W := ⟨0, #[], by rw [Go.Sort.grow_empty]; rfl⟩
theorem GW.alloc {W w : World} (h : GW W w) (o : Obj) : GW W (w.alloc o) := by
  obtain ⟨q, os, rfl⟩ := h
  exact ⟨q, os ++ #[o], by rw [Go.Sort.alloc_eq_grow, Go.Sort.grow_grow]⟩
theorem GW.drew {W w : World} (h : GW W w) : GW W w.drew := by
  obtain ⟨q, os, rfl⟩ := h
  exact ⟨q + 1, os, rfl⟩
theorem GW.trans {W w w' : World} (h : GW W w) (k : GW w w') : GW W w' := by
  obtain ⟨q, os, rfl⟩ := h
  obtain ⟨q', os', rfl⟩ := k
  refine ⟨q + q', os ++ os', ?_⟩
  simp [Go.Sort.grow, World.drewN, Array.append_assoc, Nat.add_assoc]
theorem GW.below {W w : World} (h : GW W w) : Below W.heap.size W w := by
  obtain ⟨q, os, rfl⟩ := h
  exact ⟨rfl, rfl, rfl, by simp [Go.Sort.grow], fun k hk => Go.Sort.heap_grow_old _ _ hk⟩
set_option maxRecDepth 100000 in
set_option maxHeartbeats 4000000 in
theorem cmpSpots_any (x y : SpotT) (w : World) : Calls Try.prog 164 #[.agg #[.int .i64 x.piece, .int .i64 x.at_, .int .i64 x.way], .agg #[.int .i64 y.piece, .int .i64 y.at_, .int .i64 y.way]] w
    fun e w' => e = .returned (.int .i64 (cmpS x y)) ∧ GW w w' := by
  obtain ⟨xp, xa, xw⟩ := x
  obtain ⟨yp, ya, yw⟩ := y
  have hcon : ∀ a b W, Calls Try.prog 166 #[.int .i64 a, .int .i64 b] W fun e w' => e = .returned (.int .i64 (Go.Lib.compareInt a b)) ∧ w' = W := fun a b W => Go.Proofs.AnyG.cmp_Compare_int Go.Proofs.Ytckcffjnffcjcaa.cmpInt a b W
  have HCN := Aside0.mk hcon
  clear hcon
  obtain ⟨W0, hW0, hBX, hBY, fb0, hz0⟩ := box2 w [.int .i64 xp, .int .i64 xa, .int .i64 xw] [.int .i64 yp, .int .i64 ya, .int .i64 yw] 38 38
  have G0 : Aside0 (GW w W0) := ⟨by rw [hW0]; exact ((GW.refl w).alloc _).alloc _⟩
  have BX := Aside0.mk hBX
  have BY := Aside0.mk hBY
  have HW := Aside0.mk hW0
  obtain ⟨c1, hc1⟩ : ∃ c, c = Go.Lib.compareInt xp yp := ⟨_, rfl⟩
  obtain ⟨c2, hc2⟩ : ∃ c, c = Go.Lib.compareInt xa ya := ⟨_, rfl⟩
  obtain ⟨c3, hc3⟩ : ∃ c, c = Go.Lib.compareInt xw yw := ⟨_, rfl⟩
  have HV : Aside0 (cmpS ⟨xp, xa, xw⟩ ⟨yp, ya, yw⟩ = or3 c1 c2 c3) := ⟨by unfold cmpS or3; simp only; rw [← hc1, ← hc2, ← hc3]⟩
  have HC1 := Aside0.mk hc1; have HC2 := Aside0.mk hc2; have HC3 := Aside0.mk hc3
  clear hW0 hBX hBY fb0 hz0 hc1 hc2 hc3
  have HSt : Aside0 (∀ W, GW W0 W → (GW W0 W ∧ W.cell? ⟨w.heap.size, 0, none⟩ = some (.int .i64 xp) ∧ W.cell? ⟨w.heap.size, 1, none⟩ = some (.int .i64 xa) ∧ W.cell? ⟨w.heap.size, 2, none⟩ = some (.int .i64 xw) ∧ W.cell? ⟨w.heap.size + 1, 0, none⟩ = some (.int .i64 yp) ∧ W.cell? ⟨w.heap.size + 1, 1, none⟩ = some (.int .i64 ya) ∧ W.cell? ⟨w.heap.size + 1, 2, none⟩ = some (.int .i64 yw))) := ⟨fun W hb => ⟨hb, (BX.out.below hb.below).c 0 _ rfl, (BX.out.below hb.below).c 1 _ rfl, (BX.out.below hb.below).c 2 _ rfl, (BY.out.below hb.below).c 0 _ rfl, (BY.out.below hb.below).c 1 _ rfl, (BY.out.below hb.below).c 2 _ rfl⟩⟩
  go_enter Try.func164, Try.ntmps164
  go_wp2_with fail
  rw [← HW.out]
  go_wp2_with fail
  go_region_held3 (fun W => GW W0 W ∧ W.cell? ⟨w.heap.size, 0, none⟩ = some (.int .i64 xp) ∧ W.cell? ⟨w.heap.size, 1, none⟩ = some (.int .i64 xa) ∧ W.cell? ⟨w.heap.size, 2, none⟩ = some (.int .i64 xw) ∧ W.cell? ⟨w.heap.size + 1, 0, none⟩ = some (.int .i64 yp) ∧ W.cell? ⟨w.heap.size + 1, 1, none⟩ = some (.int .i64 ya) ∧ W.cell? ⟨w.heap.size + 1, 2, none⟩ = some (.int .i64 yw))
    (first | (with_reducible assumption) | (with_reducible exact HSt.out _ (by with_reducible assumption)) | (with_reducible exact HSt.out _ (by repeat (first | (with_reducible assumption) | (with_reducible refine GW.alloc ?_ _) | (with_reducible refine GW.drew ?_) | (with_reducible exact GW.refl _)))))
    (first
      | (go_at_call 166; go_split_ands; (with_reducible refine Calls.mono (HCN.out xp yp _) ?_); rintro e t0 ⟨rfl, rfl⟩; rw [← HC1.out])
      | (go_at_call 166; go_split_ands; (with_reducible refine Calls.mono (HCN.out xa ya _) ?_); rintro e t0 ⟨rfl, rfl⟩; rw [← HC2.out])
      | (go_at_call 166; go_split_ands; (with_reducible refine Calls.mono (HCN.out xw yw _) ?_); rintro e t0 ⟨rfl, rfl⟩; rw [← HC3.out])
      | (go_at_call 165; go_split_ands; (with_reducible refine Calls.mono (cmpOr_any _ c1 c2 c3 _ (by first | exact Bx.new _ _ _ | exact Bx.drew (Bx.new _ _ _))) ?_); rintro e t0 ⟨rfl, rfl⟩))
  all_goals
    try go_wp2_with fail
    go_ret
    refine ⟨by rw [HV.out]; rfl, ?_⟩
    refine G0.out.trans ?_
    repeat (first | (with_reducible assumption) | (with_reducible refine GW.alloc ?_ _) | (with_reducible refine GW.drew ?_) | (with_reducible exact GW.refl _))
set_option maxRecDepth 100000 in
/-- slices.SortFunc over a row of spots of the call's own. -/
theorem sortFunc_any {W : World} {base : Nat} {ok : Nat → Prop} {v : Value} {xs : List SpotT} (h : kSpot.R 38 W base ok v xs) (hlen : xs.length ≤ 1000000) :
    Calls Try.prog 163 #[v, .func (Fn.func 164) #[] #[]] W fun e w' => e = .returned (.tuple #[]) ∧ kSpot.R 38 w' base ok v (sortS xs) ∧ Below base W w' := by
  by_cases hp : 0 < xs.length
  · obtain ⟨g, cap, rfl, hb, hg, _⟩ := Kd.R_form h hp
    have eg : ∀ args w, (callFunc 164 args).run Try.prog w = .ok (.enter 164 args) w := _root_.Go.Proofs.enters_of Try.func164 (by kernel_rfl) rfl
    have hcmp : Go.Proofs.CmpLays Try.prog 164 #[] encS 3 cmpS g 0 xs.toArray.size W := fun _ _ _ _ x y => cmpSpots_any x y _
    have hcon := Go.Proofs.AnyQ.slices_SortFunc_total Go.Proofs.Ytckcffjnffcjcaa.sortSp 3 Try.isAgg38 Try.sizeOf38 encS (fun _ => rfl) (fun x v hv => by simp [encS] at hv; rcases hv with rfl | rfl | rfl <;> rfl) cmpS swoS 164 #[] g 0 cap xs.toArray W eg hcmp (holds_spots h) hg (by simp; omega) (fun x y h1 h2 => by
      rw [ltS] at h1 h2
      by_cases e : x = y
      · exact e
      · rcases spotLt_total e with h | h
        · rw [h] at h1; cases h1
        · rw [h] at h2; cases h2)
    refine hcon.mono ?_
    rintro e w' ⟨rfl, m, os, rfl⟩
    have e1 : (xs.toArray.toList.mergeSort fun x y => !(Go.Proofs.ltOf cmpS) y x) = sortS xs := by
      unfold sortS
      simp only [ltS]
    rw [e1]
    obtain ⟨h1, h2⟩ := sorted_spots (m := m) (os := os) h (sortS_len xs) hp
    exact ⟨rfl, h1, ⟨h2.os, h2.tape, h2.output, h2.size, fun k hk => by
      by_cases e : k = g
      · omega
      · by_cases hl : k < W.heap.size
        · exact h2.block k hl (fun he => e (by injection he))
        · omega⟩⟩
  · obtain rfl : xs = [] := List.length_eq_zero_iff.1 (by omega)
    obtain ⟨A, c, rfl⟩ := Kd.R_slice h
    refine (Go.Proofs.AnyF.slices_SortFunc_none Go.Proofs.Ytckcffjnffcjcaa.sortSp A c _ W).mono ?_
    rintro e w' ⟨rfl, rfl⟩
    exact ⟨rfl, by unfold sortS; simpa using h, Below.refl _ _⟩
end Go.Proofs.Ytckcffjnffcjcaa
