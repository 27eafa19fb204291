/- Contracts of the reference's and the program's functions on lists of parts: l1in, l3parts, partsOk, PartsLen (both). No conditions. -/
import Derived.Test.YtckcffjnffcjcaaLib
set_option linter.unusedVariables false
set_option linter.unusedSimpArgs false
namespace Go.Proofs.Ytckcffjnffcjcaa
open Go.RowKit Go.Proofs.YtckcffjnffcjcaaW.PrintWords
/-- Does x lie between a and b? -/
def inB (x a b : Int) : Bool := decide (a ≤ x ∧ x ≤ b)
theorem inB_true {x a b : Int} : inB x a b = true ↔ a ≤ x ∧ x ≤ b := by unfold inB; simp
theorem inB_false {x a b : Int} : inB x a b = false ↔ ¬ (a ≤ x ∧ x ≤ b) := by unfold inB; simp
theorem l1in_any (x a b : Int) (w : World) :
    Calls Try.prog 119 #[.int .i64 x, .int .i64 a, .int .i64 b] w fun e w' => e = .returned (.bool (inB x a b)) ∧ w = w' := by
  by_cases h1 : a ≤ x
  · go_enter Try.func119, Try.ntmps119
    go_wp2
    go_ret
    refine ⟨?_, rfl⟩
    unfold inB
    simp [h1]
  · have hd : decide (a ≤ x) = false := by simpa using h1
    go_enter Try.func119, Try.ntmps119
    go_wp2
    go_ret
    refine ⟨?_, rfl⟩
    unfold inB
    simp; omega
def partOk (p : PartT) : Bool := inB p.piece 0 99 && inB p.frm 0 10000000 && inB p.upto p.frm 10000000
def partsOk (l : List PartT) : Bool := l.all partOk && decide (l.length ≤ 10000)
theorem all_step {α : Type} [Inhabited α] {l : List α} {f : α → Bool} {i : Nat} (h : i < l.length) (ha : (l.take i).all f = true) (hp : f (l.getD i default) = true) : (l.take (i + 1)).all f = true := by
  rw [take_getD l i h, List.all_append, ha, List.all_cons, hp]; rfl
theorem all_stop {α : Type} [Inhabited α] {l : List α} {f : α → Bool} {i : Nat} (h : i < l.length) (hp : f (l.getD i default) = false) : l.all f = false := by
  rw [Bool.eq_false_iff]; intro ha
  have := List.all_eq_true.1 ha _ (getD_mem l i h)
  rw [hp] at this; cases this
set_option maxRecDepth 100000 in
theorem l3parts_any (A : Option Addr) (c : Nat) (l : List PartT) (w : World) (hr : Kd.C kPart w A l.length l) :
    Calls Try.prog 104 #[.slice A l.length c] w fun e w' => e = .returned (.bool (partsOk l)) ∧ Below w.heap.size w w' := by
  have hm := hr.2.1
  have HR := Aside0.mk hr
  clear hr
  go_enter Try.func104, Try.ntmps104
  go_wp2
  go_loopw [7] (fun v7 wr => ∃ i : Nat, v7 = .int .i64 i ∧ i ≤ l.length ∧ Aside0 ((l.take i).all partOk = true) ∧ Aside0 (Below w.heap.size w wr)) (fun v7 _ => l.length - (intOf v7).toNat)
  case atStart => exact ⟨0, rfl, Nat.zero_le _, ⟨by simp⟩, ⟨Below.refl _ _⟩⟩
  case round =>
    obtain ⟨i, rfl, hi, HT, HB⟩ := hrel
    by_cases hlt : i < l.length
    · obtain ⟨ad0, e0, x0, x1, x2⟩ := at_Part HR.out i hlt
      subst e0
      replace x0 := pw_cell_below HB.out x0
      replace x1 := pw_cell_below HB.out x1
      replace x2 := pw_cell_below HB.out x2
      obtain ⟨p, hp⟩ : ∃ p, p = l.getD i default := ⟨_, rfl⟩
      rw [← hp] at x0 x1 x2
      have HP := Aside0.mk hp
      clear hp
      go_wp2_with (go_at_call 119; refine (l1in_any _ _ _ _).mono ?_; rintro e w3 ⟨rfl, rfl⟩)
      all_goals first
        | (go_roundw
           case rel =>
             refine ⟨i + 1, by go_num, by omega, ⟨all_step hlt HT.out ?_⟩, ⟨below_alloc HB.out _⟩⟩
             rw [← HP.out]; unfold partOk; simp_all
           case measure => simp [intOf]; omega)
        | (go_ret
           refine ⟨?_, below_alloc HB.out _⟩
           have : partsOk l = false := by
             unfold partsOk
             rw [all_stop hlt (by rw [← HP.out]; unfold partOk; simp_all)]; rfl
           rw [this]; rfl)
    · by_cases h2 : l.length ≤ 10000
      · go_wp2
        go_ret
        refine ⟨?_, HB.out⟩
        have ha := HT.out
        rw [List.take_of_length_le (by omega)] at ha
        have e : partsOk l = true := by unfold partsOk; rw [ha]; simp [h2]
        rw [e]; first | rfl | (simp; omega)
      · have hd : decide ((l.length : Int) ≤ 10000) = false := by simp; omega
        go_wp2
        go_ret
        refine ⟨?_, HB.out⟩
        unfold partsOk
        simp [h2]
set_option maxRecDepth 100000 in
theorem partsOk_any (A : Option Addr) (c : Nat) (l : List PartT) (w : World) (hr : Kd.C kPart w A l.length l) :
    Calls Try.prog 106 #[.slice A l.length c] w fun e w' => e = .returned (.bool (partsOk l)) ∧ Below w.heap.size w w' := by
  have hm := hr.2.1
  have HR := Aside0.mk hr
  clear hr
  by_cases h2 : l.length ≤ 10000
  · go_enter Try.func106, Try.ntmps106
    go_wp2
    go_loopw [10] (fun v7 wr => ∃ i : Nat, v7 = .int .i64 i ∧ i ≤ l.length ∧ Aside0 ((l.take i).all partOk = true) ∧ Aside0 (Below w.heap.size w wr)) (fun v7 _ => l.length - (intOf v7).toNat)
    case atStart => exact ⟨0, rfl, Nat.zero_le _, ⟨by simp⟩, ⟨Below.refl _ _⟩⟩
    case round =>
      obtain ⟨i, rfl, hi, HT, HB⟩ := hrel
      by_cases hlt : i < l.length
      · obtain ⟨ad0, e0, x0, x1, x2⟩ := at_Part HR.out i hlt
        subst e0
        replace x0 := pw_cell_below HB.out x0
        replace x1 := pw_cell_below HB.out x1
        replace x2 := pw_cell_below HB.out x2
        obtain ⟨p, hp⟩ : ∃ p, p = l.getD i default := ⟨_, rfl⟩
        rw [← hp] at x0 x1 x2
        have HP := Aside0.mk hp
        clear hp
        go_wp2
        all_goals first
          | (go_roundw
             case rel =>
               refine ⟨i + 1, by go_num, by omega, ⟨all_step hlt HT.out ?_⟩, ⟨below_alloc HB.out _⟩⟩
               rw [← HP.out]; unfold partOk inB; simp_all <;> omega
             case measure => simp [intOf]; omega)
          | (go_ret
             refine ⟨?_, below_alloc HB.out _⟩
             have : partsOk l = false := by
               unfold partsOk
               rw [all_stop hlt (by rw [← HP.out]; unfold partOk inB; simp_all <;> omega)]; rfl
             rw [this]; rfl)
      · go_wp2
        go_ret
        refine ⟨?_, HB.out⟩
        have ha := HT.out
        rw [List.take_of_length_le (by omega)] at ha
        have e : partsOk l = true := by unfold partsOk; rw [ha]; simp [h2]
        rw [e]; rfl
  · go_enter Try.func106, Try.ntmps106
    go_wp2
    go_ret
    refine ⟨?_, Below.refl _ _⟩
    have e : partsOk l = false := by unfold partsOk; simp [h2]
    rw [e]; rfl
/-- How long parts are together. -/
def sumLen (l : List PartT) : Int := (l.map fun p => p.upto - p.frm).sum
def partsLenV (l : List PartT) : Int := if partsOk l = true then (l.map fun p => p.upto - p.frm).sum else -1
theorem sumLen_step {l : List PartT} {i : Nat} (h : i < l.length) {p : PartT} (hp : p = l.getD i default) : sumLen (l.take (i + 1)) = sumLen (l.take i) + (p.upto - p.frm) := by
  unfold sumLen; rw [take_getD l i h, ← hp]; simp
theorem partOk_of {l : List PartT} (h : partsOk l = true) : l.length ≤ 10000 ∧ ∀ p ∈ l, 0 ≤ p.piece ∧ p.piece ≤ 99 ∧ 0 ≤ p.frm ∧ p.frm ≤ p.upto ∧ p.upto ≤ 10000000 := by
  unfold partsOk at h
  simp only [Bool.and_eq_true, decide_eq_true_eq, List.all_eq_true] at h
  refine ⟨h.2, fun p hp => ?_⟩
  have := h.1 p hp
  unfold partOk at this
  simp only [Bool.and_eq_true, inB_true] at this
  omega
theorem sumLen_bound {l : List PartT} (h : ∀ p ∈ l, 0 ≤ p.piece ∧ p.piece ≤ 99 ∧ 0 ≤ p.frm ∧ p.frm ≤ p.upto ∧ p.upto ≤ 10000000) : 0 ≤ sumLen l ∧ sumLen l ≤ 10000000 * (l.length : Int) := by
  induction l with
  | nil => simp [sumLen]
  | cons a l ih =>
    have h1 := h a (by simp)
    have h2 := ih (fun p hp => h p (by simp [hp]))
    unfold sumLen at h2 ⊢
    simp only [List.map_cons, List.sum_cons, List.length_cons]
    omega
set_option maxRecDepth 100000 in
theorem specPartsLen_any (A : Option Addr) (c : Nat) (l : List PartT) (w : World) (hr : Kd.C kPart w A l.length l) :
    Calls Try.prog 27 #[.slice A l.length c] w fun e w' => e = .returned (.int .i64 (partsLenV l)) ∧ Below w.heap.size w w' := by
  have hm := hr.2.1
  have HR := Aside0.mk hr
  clear hr
  by_cases hok : partsOk l = true
  · have HK := Aside0.mk (partOk_of hok)
    have hlen := HK.out.1
    go_enter Try.func27, Try.ntmps27
    go_wp2_with (go_at_call 104; refine (l3parts_any _ _ _ _ HR.out).mono ?_; rintro e w1 ⟨rfl, hb1⟩; have HB1 := Aside0.mk hb1; clear hb1)
    have HOK := Aside0.mk hok
    clear hok
    go_loopw [3, 11] (fun v3 v11 wr => ∃ i : Nat, ∃ s : Int, v11 = .int .i64 i ∧ i ≤ l.length ∧ v3 = .int .i64 s ∧ 0 ≤ s ∧ s ≤ 10000000 * (i : Int) ∧ Aside0 (s = sumLen (l.take i)) ∧ Aside0 (Below w.heap.size w wr)) (fun _ v11 _ => l.length - (intOf v11).toNat)
    case atStart => exact ⟨0, 0, rfl, Nat.zero_le _, rfl, by omega, by omega, ⟨by simp [sumLen]⟩, HB1⟩
    case round =>
      clear HB1
      obtain ⟨i, s, rfl, hi, rfl, hs0, hs1, HT, HB⟩ := hrel
      by_cases hlt : i < l.length
      · obtain ⟨ad0, e0, x0, x1, x2⟩ := at_Part HR.out i hlt
        subst e0
        replace x0 := pw_cell_below HB.out x0
        replace x1 := pw_cell_below HB.out x1
        replace x2 := pw_cell_below HB.out x2
        have hb := HK.out.2 _ (getD_mem l i hlt)
        obtain ⟨p, hp⟩ : ∃ p, p = l.getD i default := ⟨_, rfl⟩
        rw [← hp] at x0 x1 x2 hb
        have HS := Aside0.mk (sumLen_step hlt hp)
        clear hp
        obtain ⟨_, _, hb0, hb1, hb2⟩ := hb
        go_wp2
        go_roundw
        case rel => exact ⟨i + 1, s + (p.upto - p.frm), by go_num, by omega, rfl, by omega, by omega, ⟨by rw [HS.out, HT.out]⟩, ⟨below_alloc HB.out _⟩⟩
        case measure => simp [intOf]; omega
      · go_wp2
        go_ret
        refine ⟨?_, HB.out⟩
        have ha := HT.out
        rw [List.take_of_length_le (by omega)] at ha
        have e : partsLenV l = sumLen l := if_pos HOK.out
        rw [e, ← ha]; rfl
  · have hok2 : partsOk l = false := by simpa using hok
    have HOK := Aside0.mk hok2
    clear hok
    go_enter Try.func27, Try.ntmps27
    go_wp2_with (go_at_call 104; refine (l3parts_any _ _ _ _ HR.out).mono ?_; rintro e w1 ⟨rfl, hb1⟩)
    go_ret
    have e : partsLenV l = -1 := if_neg (by rw [HOK.out]; simp)
    exact ⟨by rw [e]; rfl, hb1⟩
set_option maxRecDepth 100000 in
theorem implPartsLen_any (A : Option Addr) (c : Nat) (l : List PartT) (w : World) (hr : Kd.C kPart w A l.length l) :
    Calls Try.prog 29 #[.slice A l.length c] w fun e w' => e = .returned (.int .i64 (partsLenV l)) ∧ Below w.heap.size w w' := by
  have hm := hr.2.1
  have HR := Aside0.mk hr
  clear hr
  by_cases hok : partsOk l = true
  · have HK := Aside0.mk (partOk_of hok)
    have hlen := HK.out.1
    go_enter Try.func29, Try.ntmps29
    go_wp2_with (go_at_call 106; refine (partsOk_any _ _ _ _ HR.out).mono ?_; rintro e w1 ⟨rfl, hb1⟩; have HB1 := Aside0.mk hb1; clear hb1)
    have HOK := Aside0.mk hok
    clear hok
    go_loopw [3, 11] (fun v3 v11 wr => ∃ i : Nat, ∃ s : Int, v11 = .int .i64 i ∧ i ≤ l.length ∧ v3 = .int .i64 s ∧ 0 ≤ s ∧ s ≤ 10000000 * (i : Int) ∧ Aside0 (s = sumLen (l.take i)) ∧ Aside0 (Below w.heap.size w wr)) (fun _ v11 _ => l.length - (intOf v11).toNat)
    case atStart => exact ⟨0, 0, rfl, Nat.zero_le _, rfl, by omega, by omega, ⟨by simp [sumLen]⟩, HB1⟩
    case round =>
      clear HB1
      obtain ⟨i, s, rfl, hi, rfl, hs0, hs1, HT, HB⟩ := hrel
      by_cases hlt : i < l.length
      · obtain ⟨ad0, e0, x0, x1, x2⟩ := at_Part HR.out i hlt
        subst e0
        replace x0 := pw_cell_below HB.out x0
        replace x1 := pw_cell_below HB.out x1
        replace x2 := pw_cell_below HB.out x2
        have hb := HK.out.2 _ (getD_mem l i hlt)
        obtain ⟨p, hp⟩ : ∃ p, p = l.getD i default := ⟨_, rfl⟩
        rw [← hp] at x0 x1 x2 hb
        have HS := Aside0.mk (sumLen_step hlt hp)
        clear hp
        obtain ⟨_, _, hb0, hb1, hb2⟩ := hb
        go_wp2
        go_roundw
        case rel => exact ⟨i + 1, s + (p.upto - p.frm), by go_num, by omega, rfl, by omega, by omega, ⟨by rw [HS.out, HT.out]⟩, ⟨below_alloc HB.out _⟩⟩
        case measure => simp [intOf]; omega
      · go_wp2
        go_ret
        refine ⟨?_, HB.out⟩
        have ha := HT.out
        rw [List.take_of_length_le (by omega)] at ha
        have e : partsLenV l = sumLen l := if_pos HOK.out
        rw [e, ← ha]; rfl
  · have hok2 : partsOk l = false := by simpa using hok
    have HOK := Aside0.mk hok2
    clear hok
    go_enter Try.func29, Try.ntmps29
    go_wp2_with (go_at_call 106; refine (partsOk_any _ _ _ _ HR.out).mono ?_; rintro e w1 ⟨rfl, hb1⟩)
    go_ret
    have e : partsLenV l = -1 := if_neg (by rw [HOK.out]; simp)
    exact ⟨by rw [e]; rfl, hb1⟩
end Go.Proofs.Ytckcffjnffcjcaa
