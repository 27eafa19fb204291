/- Texts of this work, of each what the claim leans on: Parts, Net1, Nets, Net2, Net3, Maps, WEqStruct, Keys. No conditions. -/
import Derived.Test.YtckcffjnffcjcaaVSh1
import Derived.Laws.StructEq
import Derived.MapKept
import Derived.Maps.OwnOps
import Derived.Maps.OwnSet
namespace Go.Proofs.Ytckcffjnffcjcaa

theorem z1 {α : Type _} {xs : List α} {i : Nat} (h : i < xs.toArray.size) : xs.toArray[i] = xs[i]'(by simpa using h) := List.getElem_toArray h
theorem z2 {α : Type _} (a : α) (xs : List α) (h : 0 < (a :: xs).length) : (a :: xs)[0] = a := List.getElem_cons_zero a xs h
theorem z3 {α : Type _} (a : α) (xs : List α) (i : Nat) (h : i + 1 < (a :: xs).length) : (a :: xs)[i + 1] = xs[i]'(Nat.lt_of_succ_lt_succ h) := List.getElem_cons_succ a xs i h
theorem z4 {α : Type _} (l : List α) (i : Nat) (a : α) : l.toArray.setIfInBounds i a = (l.set i a).toArray := List.setIfInBounds_toArray l i a
theorem z5 {α : Type _} {x : α} {xs : List α} {a : α} : (x :: xs).set 0 a = a :: xs := List.set_cons_zero
theorem z6 {α : Type _} {x : α} {xs : List α} {i : Nat} {a : α} : (x :: xs).set (i + 1) a = x :: xs.set i a := List.set_cons_succ
theorem tkq {P : Program} {ops : Array Oper} {Q : Exit → Act → World → Prop} {md : Region.Mode} {S : World → Prop} {i : Nat} {oi : Oper} {v : Value} {fuel : Nat} {listed : Array Bool} {a : Act} {w : World} (hi : ops[i]? = some oi)
    (hy : YieldsIf P ops S oi v a) (hS : S w)
    (h : wpAnyH P md ops Q S fuel (listed.setIfInBounds i true) (a.put oi.dst v) w)
    (hk : (Region.noSelect ops && Region.free md ops listed i && (Region.ready md ops listed).contains i) = true := by kernel_rfl)
    (hQ : ∀ c a w, Q (.panic c) (a.put oi.dst v) w → Q (.panic c) a w := by exact fun _ _ _ h => h) : wpAnyH P md ops Q S (fuel + 1) listed a w := by
  simp only [Bool.and_eq_true] at hk
  exact wpAnyH_take hi hk.1.1 hk.1.2 hk.2 hQ hy hS h
end Go.Proofs.Ytckcffjnffcjcaa
set_option linter.unusedVariables false
set_option linter.unusedSimpArgs false
namespace Go.Proofs.Ytckcffjnffcjcaa
open Go.RowKit Go.Proofs.YtckcffjnffcjcaaW.PrintWords
def inB (x a b : Int) : Bool := decide (a ≤ x ∧ x ≤ b)
theorem inB_true {x a b : Int} : inB x a b = true ↔ a ≤ x ∧ x ≤ b := by unfold inB; simp
theorem inB_false {x a b : Int} : inB x a b = false ↔ ¬ (a ≤ x ∧ x ≤ b) := by unfold inB; simp
theorem l1in_any (x a b : Int) (w : World) :
    Calls Try.prog 119 #[.int .i64 x, .int .i64 a, .int .i64 b] w fun e w' => e = .returned (.bool (inB x a b)) ∧ w = w' := by
  by_cases h1 : a ≤ x
  · go_enter Try.func119, Try.ntmps119
    go_wp2
    go_ret
    refine ⟨?_, rfl⟩
    unfold inB
    simp [h1]
  · have hd : decide (a ≤ x) = false := by simpa using h1
    go_enter Try.func119, Try.ntmps119
    go_wp2
    go_ret
    refine ⟨?_, rfl⟩
    unfold inB
    simp; omega
def partOk (p : PartT) : Bool := inB p.piece 0 99 && inB p.frm 0 10000000 && inB p.upto p.frm 10000000
def partsOk (l : List PartT) : Bool := l.all partOk && decide (l.length ≤ 10000)
theorem all_step {α : Type} [Inhabited α] {l : List α} {f : α → Bool} {i : Nat} (h : i < l.length) (ha : (l.take i).all f = true) (hp : f (l.getD i default) = true) : (l.take (i + 1)).all f = true := by
  rw [take_getD l i h, List.all_append, ha, List.all_cons, hp]; rfl
theorem all_stop {α : Type} [Inhabited α] {l : List α} {f : α → Bool} {i : Nat} (h : i < l.length) (hp : f (l.getD i default) = false) : l.all f = false := by
  rw [Bool.eq_false_iff]; intro ha
  have := List.all_eq_true.1 ha _ (getD_mem l i h)
  rw [hp] at this; cases this
set_option maxRecDepth 100000 in
theorem l3parts_any (A : Option Addr) (c : Nat) (l : List PartT) (w : World) (hr : Kd.C kPart w A l.length l) :
    Calls Try.prog 104 #[.slice A l.length c] w fun e w' => e = .returned (.bool (partsOk l)) ∧ Below w.heap.size w w' := by
  have hm := hr.2.1
  have HR := Aside0.mk hr
  clear hr
  go_enter Try.func104, Try.ntmps104
  go_wp2
  go_loopw [7] (fun v7 wr => ∃ i : Nat, v7 = .int .i64 i ∧ i ≤ l.length ∧ Aside0 ((l.take i).all partOk = true) ∧ Aside0 (Below w.heap.size w wr)) (fun v7 _ => l.length - (intOf v7).toNat)
  case atStart => exact ⟨0, rfl, Nat.zero_le _, ⟨by simp⟩, ⟨Below.refl _ _⟩⟩
  case round =>
    obtain ⟨i, rfl, hi, HT, HB⟩ := hrel
    by_cases hlt : i < l.length
    · obtain ⟨ad0, e0, x0, x1, x2⟩ := at_Part HR.out i hlt
      subst e0
      replace x0 := pw_cell_below HB.out x0
      replace x1 := pw_cell_below HB.out x1
      replace x2 := pw_cell_below HB.out x2
      obtain ⟨p, hp⟩ : ∃ p, p = l.getD i default := ⟨_, rfl⟩
      rw [← hp] at x0 x1 x2
      have HP := Aside0.mk hp
      clear hp
      go_wp2_with (go_at_call 119; refine (l1in_any _ _ _ _).mono ?_; rintro e w3 ⟨rfl, rfl⟩)
      all_goals first
        | (go_roundw
           case rel =>
             refine ⟨i + 1, by go_num, by omega, ⟨all_step hlt HT.out ?_⟩, ⟨below_alloc HB.out _⟩⟩
             rw [← HP.out]; unfold partOk; simp_all
           case measure => simp [intOf]; omega)
        | (go_ret
           refine ⟨?_, below_alloc HB.out _⟩
           have : partsOk l = false := by
             unfold partsOk
             rw [all_stop hlt (by rw [← HP.out]; unfold partOk; simp_all)]; rfl
           rw [this]; rfl)
    · by_cases h2 : l.length ≤ 10000
      · go_wp2
        go_ret
        refine ⟨?_, HB.out⟩
        have ha := HT.out
        rw [List.take_of_length_le (by omega)] at ha
        have e : partsOk l = true := by unfold partsOk; rw [ha]; simp [h2]
        rw [e]; first | rfl | (simp; omega)
      · have hd : decide ((l.length : Int) ≤ 10000) = false := by simp; omega
        go_wp2
        go_ret
        refine ⟨?_, HB.out⟩
        unfold partsOk
        simp [h2]
set_option maxRecDepth 100000 in
theorem partsOk_any (A : Option Addr) (c : Nat) (l : List PartT) (w : World) (hr : Kd.C kPart w A l.length l) :
    Calls Try.prog 106 #[.slice A l.length c] w fun e w' => e = .returned (.bool (partsOk l)) ∧ Below w.heap.size w w' := by
  have hm := hr.2.1
  have HR := Aside0.mk hr
  clear hr
  by_cases h2 : l.length ≤ 10000
  · go_enter Try.func106, Try.ntmps106
    go_wp2
    go_loopw [10] (fun v7 wr => ∃ i : Nat, v7 = .int .i64 i ∧ i ≤ l.length ∧ Aside0 ((l.take i).all partOk = true) ∧ Aside0 (Below w.heap.size w wr)) (fun v7 _ => l.length - (intOf v7).toNat)
    case atStart => exact ⟨0, rfl, Nat.zero_le _, ⟨by simp⟩, ⟨Below.refl _ _⟩⟩
    case round =>
      obtain ⟨i, rfl, hi, HT, HB⟩ := hrel
      by_cases hlt : i < l.length
      · obtain ⟨ad0, e0, x0, x1, x2⟩ := at_Part HR.out i hlt
        subst e0
        replace x0 := pw_cell_below HB.out x0
        replace x1 := pw_cell_below HB.out x1
        replace x2 := pw_cell_below HB.out x2
        obtain ⟨p, hp⟩ : ∃ p, p = l.getD i default := ⟨_, rfl⟩
        rw [← hp] at x0 x1 x2
        have HP := Aside0.mk hp
        clear hp
        go_wp2
        all_goals first
          | (go_roundw
             case rel =>
               refine ⟨i + 1, by go_num, by omega, ⟨all_step hlt HT.out ?_⟩, ⟨below_alloc HB.out _⟩⟩
               rw [← HP.out]; unfold partOk inB; simp_all <;> omega
             case measure => simp [intOf]; omega)
          | (go_ret
             refine ⟨?_, below_alloc HB.out _⟩
             have : partsOk l = false := by
               unfold partsOk
               rw [all_stop hlt (by rw [← HP.out]; unfold partOk inB; simp_all <;> omega)]; rfl
             rw [this]; rfl)
      · go_wp2
        go_ret
        refine ⟨?_, HB.out⟩
        have ha := HT.out
        rw [List.take_of_length_le (by omega)] at ha
        have e : partsOk l = true := by unfold partsOk; rw [ha]; simp [h2]
        rw [e]; rfl
  · go_enter Try.func106, Try.ntmps106
    go_wp2
    go_ret
    refine ⟨?_, Below.refl _ _⟩
    have e : partsOk l = false := by unfold partsOk; simp [h2]
    rw [e]; rfl
def sumLen (l : List PartT) : Int := (l.map fun p => p.upto - p.frm).sum
def partsLenV (l : List PartT) : Int := if partsOk l = true then (l.map fun p => p.upto - p.frm).sum else -1
theorem sumLen_step {l : List PartT} {i : Nat} (h : i < l.length) {p : PartT} (hp : p = l.getD i default) : sumLen (l.take (i + 1)) = sumLen (l.take i) + (p.upto - p.frm) := by
  unfold sumLen; rw [take_getD l i h, ← hp]; simp
theorem partOk_of {l : List PartT} (h : partsOk l = true) : l.length ≤ 10000 ∧ ∀ p ∈ l, 0 ≤ p.piece ∧ p.piece ≤ 99 ∧ 0 ≤ p.frm ∧ p.frm ≤ p.upto ∧ p.upto ≤ 10000000 := by
  unfold partsOk at h
  simp only [Bool.and_eq_true, decide_eq_true_eq, List.all_eq_true] at h
  refine ⟨h.2, fun p hp => ?_⟩
  have := h.1 p hp
  unfold partOk at this
  simp only [Bool.and_eq_true, inB_true] at this
  omega
set_option maxRecDepth 100000 in
theorem specPartsLen_any (A : Option Addr) (c : Nat) (l : List PartT) (w : World) (hr : Kd.C kPart w A l.length l) :
    Calls Try.prog 27 #[.slice A l.length c] w fun e w' => e = .returned (.int .i64 (partsLenV l)) ∧ Below w.heap.size w w' := by
  have hm := hr.2.1
  have HR := Aside0.mk hr
  clear hr
  by_cases hok : partsOk l = true
  · have HK := Aside0.mk (partOk_of hok)
    have hlen := HK.out.1
    go_enter Try.func27, Try.ntmps27
    go_wp2_with (go_at_call 104; refine (l3parts_any _ _ _ _ HR.out).mono ?_; rintro e w1 ⟨rfl, hb1⟩; have HB1 := Aside0.mk hb1; clear hb1)
    have HOK := Aside0.mk hok
    clear hok
    go_loopw [3, 11] (fun v3 v11 wr => ∃ i : Nat, ∃ s : Int, v11 = .int .i64 i ∧ i ≤ l.length ∧ v3 = .int .i64 s ∧ 0 ≤ s ∧ s ≤ 10000000 * (i : Int) ∧ Aside0 (s = sumLen (l.take i)) ∧ Aside0 (Below w.heap.size w wr)) (fun _ v11 _ => l.length - (intOf v11).toNat)
    case atStart => exact ⟨0, 0, rfl, Nat.zero_le _, rfl, by omega, by omega, ⟨by simp [sumLen]⟩, HB1⟩
    case round =>
      clear HB1
      obtain ⟨i, s, rfl, hi, rfl, hs0, hs1, HT, HB⟩ := hrel
      by_cases hlt : i < l.length
      · obtain ⟨ad0, e0, x0, x1, x2⟩ := at_Part HR.out i hlt
        subst e0
        replace x0 := pw_cell_below HB.out x0
        replace x1 := pw_cell_below HB.out x1
        replace x2 := pw_cell_below HB.out x2
        have hb := HK.out.2 _ (getD_mem l i hlt)
        obtain ⟨p, hp⟩ : ∃ p, p = l.getD i default := ⟨_, rfl⟩
        rw [← hp] at x0 x1 x2 hb
        have HS := Aside0.mk (sumLen_step hlt hp)
        clear hp
        obtain ⟨_, _, hb0, hb1, hb2⟩ := hb
        go_wp2
        go_roundw
        case rel => exact ⟨i + 1, s + (p.upto - p.frm), by go_num, by omega, rfl, by omega, by omega, ⟨by rw [HS.out, HT.out]⟩, ⟨below_alloc HB.out _⟩⟩
        case measure => simp [intOf]; omega
      · go_wp2
        go_ret
        refine ⟨?_, HB.out⟩
        have ha := HT.out
        rw [List.take_of_length_le (by omega)] at ha
        have e : partsLenV l = sumLen l := if_pos HOK.out
        rw [e, ← ha]; rfl
  · have hok2 : partsOk l = false := by simpa using hok
    have HOK := Aside0.mk hok2
    clear hok
    go_enter Try.func27, Try.ntmps27
    go_wp2_with (go_at_call 104; refine (l3parts_any _ _ _ _ HR.out).mono ?_; rintro e w1 ⟨rfl, hb1⟩)
    go_ret
    have e : partsLenV l = -1 := if_neg (by rw [HOK.out]; simp)
    exact ⟨by rw [e]; rfl, hb1⟩
set_option maxRecDepth 100000 in
theorem implPartsLen_any (A : Option Addr) (c : Nat) (l : List PartT) (w : World) (hr : Kd.C kPart w A l.length l) :
    Calls Try.prog 29 #[.slice A l.length c] w fun e w' => e = .returned (.int .i64 (partsLenV l)) ∧ Below w.heap.size w w' := by
  have hm := hr.2.1
  have HR := Aside0.mk hr
  clear hr
  by_cases hok : partsOk l = true
  · have HK := Aside0.mk (partOk_of hok)
    have hlen := HK.out.1
    go_enter Try.func29, Try.ntmps29
    go_wp2_with (go_at_call 106; refine (partsOk_any _ _ _ _ HR.out).mono ?_; rintro e w1 ⟨rfl, hb1⟩; have HB1 := Aside0.mk hb1; clear hb1)
    have HOK := Aside0.mk hok
    clear hok
    go_loopw [3, 11] (fun v3 v11 wr => ∃ i : Nat, ∃ s : Int, v11 = .int .i64 i ∧ i ≤ l.length ∧ v3 = .int .i64 s ∧ 0 ≤ s ∧ s ≤ 10000000 * (i : Int) ∧ Aside0 (s = sumLen (l.take i)) ∧ Aside0 (Below w.heap.size w wr)) (fun _ v11 _ => l.length - (intOf v11).toNat)
    case atStart => exact ⟨0, 0, rfl, Nat.zero_le _, rfl, by omega, by omega, ⟨by simp [sumLen]⟩, HB1⟩
    case round =>
      clear HB1
      obtain ⟨i, s, rfl, hi, rfl, hs0, hs1, HT, HB⟩ := hrel
      by_cases hlt : i < l.length
      · obtain ⟨ad0, e0, x0, x1, x2⟩ := at_Part HR.out i hlt
        subst e0
        replace x0 := pw_cell_below HB.out x0
        replace x1 := pw_cell_below HB.out x1
        replace x2 := pw_cell_below HB.out x2
        have hb := HK.out.2 _ (getD_mem l i hlt)
        obtain ⟨p, hp⟩ : ∃ p, p = l.getD i default := ⟨_, rfl⟩
        rw [← hp] at x0 x1 x2 hb
        have HS := Aside0.mk (sumLen_step hlt hp)
        clear hp
        obtain ⟨_, _, hb0, hb1, hb2⟩ := hb
        go_wp2
        go_roundw
        case rel => exact ⟨i + 1, s + (p.upto - p.frm), by go_num, by omega, rfl, by omega, by omega, ⟨by rw [HS.out, HT.out]⟩, ⟨below_alloc HB.out _⟩⟩
        case measure => simp [intOf]; omega
      · go_wp2
        go_ret
        refine ⟨?_, HB.out⟩
        have ha := HT.out
        rw [List.take_of_length_le (by omega)] at ha
        have e : partsLenV l = sumLen l := if_pos HOK.out
        rw [e, ← ha]; rfl
  · have hok2 : partsOk l = false := by simpa using hok
    have HOK := Aside0.mk hok2
    clear hok
    go_enter Try.func29, Try.ntmps29
    go_wp2_with (go_at_call 106; refine (partsOk_any _ _ _ _ HR.out).mono ?_; rintro e w1 ⟨rfl, hb1⟩)
    go_ret
    have e : partsLenV l = -1 := if_neg (by rw [HOK.out]; simp)
    exact ⟨by rw [e]; rfl, hb1⟩
end Go.Proofs.Ytckcffjnffcjcaa
namespace Go.Proofs.Ytckcffjnffcjcaa
open Go.RowKit Go.Proofs.YtckcffjnffcjcaaW.PrintWords
def nameByte (c : Int) : Bool := (decide (97 ≤ c) && decide (c ≤ 122)) || (decide (48 ≤ c) && decide (c ≤ 57)) || (c == 95)
def bs (s : ByteArray) : List Int := s.data.toList.map (fun c => (c.toNat : Int))
theorem bs_length (s : ByteArray) : (bs s).length = s.size := by unfold bs; simp
theorem bs_get (s : ByteArray) (i : Nat) (h : i < s.size) : (bs s)[i]'(by rw [bs_length]; exact h) = ((s[i]'h).toNat : Int) := by unfold bs; simp; rfl
def nameOk (s : ByteArray) : Bool := (bs s).all nameByte && decide (1 ≤ s.size ∧ s.size ≤ 20)
theorem bs_getD (s : ByteArray) (i : Nat) (h : i < s.size) : ((s[i]'h).toNat : Int) = (bs s).getD i default := by
  rw [getD_at _ _ (by rw [bs_length]; exact h), bs_get s i h]
set_option maxRecDepth 100000 in
theorem l1name_any (s : ByteArray) (w : World) (hs : s.size ≤ 9223372036854775807) :
    Calls Try.prog 118 #[.string s] w fun e w' => e = .returned (.bool (nameOk s)) ∧ w' = w := by
  go_enter Try.func118, Try.ntmps118
  go_wp2
  go_loop [3] (fun v3 => ∃ i : Nat, v3 = .int .i64 i ∧ i ≤ s.size ∧ Aside0 (((bs s).take i).all nameByte = true)) (fun v3 => s.size - (intOf v3).toNat)
  case atStart => exact ⟨0, rfl, Nat.zero_le _, ⟨by simp⟩⟩
  case round =>
    obtain ⟨i, rfl, hi, HT⟩ := hrel
    by_cases hlt : i < s.size
    · have hb := bs_getD s i hlt
      have h0 : 0 ≤ ((s[i]'hlt).toNat : Int) := by omega
      obtain ⟨c, hc⟩ : ∃ c : Int, c = (bs s).getD i default := ⟨_, rfl⟩
      rw [← hc] at hb
      have HC := Aside0.mk hc
      clear hc
      go_wp2
      all_goals first
        | (go_round
           case rel =>
             refine ⟨i + 1, by go_num, by omega, ⟨all_step (by rw [bs_length]; exact hlt) HT.out ?_⟩⟩
             rw [← HC.out]; unfold nameByte; simp_all <;> omega
           case measure => simp [intOf]; omega)
        | (go_ret
           refine ⟨?_, rfl⟩
           have : nameOk s = false := by
             unfold nameOk
             rw [all_stop (i := i) (by rw [bs_length]; exact hlt) (by rw [← HC.out]; unfold nameByte; simp_all <;> omega)]; rfl
           rw [this]; rfl)
    · by_cases h1 : 1 ≤ s.size
      · go_wp2
        go_ret
        refine ⟨?_, rfl⟩
        have ha := HT.out
        rw [List.take_of_length_le (by rw [bs_length]; omega)] at ha
        have : nameOk s = decide ((s.size : Int) ≤ 20) := by unfold nameOk; rw [ha]; simp [h1]; omega
        rw [this]; rfl
      · have hd : decide ((1 : Int) ≤ (s.size : Int)) = false := by simp; omega
        go_wp2
        go_ret
        refine ⟨?_, rfl⟩
        have : nameOk s = false := by unfold nameOk; simp [h1]
        rw [this]; rfl
set_option maxRecDepth 100000 in
theorem named_any (s : ByteArray) (w : World) (hs : s.size ≤ 9223372036854775807) :
    Calls Try.prog 125 #[.string s] w fun e w' => e = .returned (.bool (nameOk s)) ∧ w' = w := by
  by_cases h1 : 1 ≤ s.size
  · by_cases h2 : s.size ≤ 20
    · go_enter Try.func125, Try.ntmps125
      go_wp2
      go_loop [3] (fun v3 => ∃ i : Nat, v3 = .int .i64 i ∧ i ≤ s.size ∧ Aside0 (((bs s).take i).all nameByte = true)) (fun v3 => s.size - (intOf v3).toNat)
      case atStart => exact ⟨0, rfl, Nat.zero_le _, ⟨by simp⟩⟩
      case round =>
        obtain ⟨i, rfl, hi, HT⟩ := hrel
        by_cases hlt : i < s.size
        · have hb := bs_getD s i hlt
          obtain ⟨c, hc⟩ : ∃ c : Int, c = (bs s).getD i default := ⟨_, rfl⟩
          rw [← hc] at hb
          have HC := Aside0.mk hc
          clear hc
          go_wp2
          all_goals first
            | (go_round
               case rel =>
                 refine ⟨i + 1, by go_num, by omega, ⟨all_step (by rw [bs_length]; exact hlt) HT.out ?_⟩⟩
                 rw [← HC.out]; unfold nameByte; simp_all <;> omega
               case measure => simp [intOf]; omega)
            | (go_ret
               refine ⟨?_, rfl⟩
               have : nameOk s = false := by
                 unfold nameOk
                 rw [all_stop (i := i) (by rw [bs_length]; exact hlt) (by rw [← HC.out]; unfold nameByte; simp_all <;> omega)]; rfl
               rw [this]; rfl)
        · go_wp2
          go_ret
          refine ⟨?_, rfl⟩
          have ha := HT.out
          rw [List.take_of_length_le (by rw [bs_length]; omega)] at ha
          have : nameOk s = true := by unfold nameOk; rw [ha]; simp [h1, h2]
          rw [this]; rfl
    · have hd : decide ((20 : Int) < (s.size : Int)) = true := by simp; omega
      go_enter Try.func125, Try.ntmps125
      go_wp2
      go_ret
      refine ⟨?_, rfl⟩
      have : nameOk s = false := by unfold nameOk; simp [h2]
      rw [this]; rfl
  · go_enter Try.func125, Try.ntmps125
    go_wp2
    go_ret
    refine ⟨?_, rfl⟩
    have : nameOk s = false := by unfold nameOk; simp [h1]
    rw [this]; rfl
def pieceB (p : PieceT) : Bool := nameOk p.name && inB p.len 1 10000000 && inB p.speed 1 10000 && inB p.brake 1 1000
set_option maxRecDepth 100000 in
theorem pieceOk_any (p : PieceT) (w : World) (hs : p.name.size ≤ 9223372036854775807) :
    Calls Try.prog 124 #[.agg #[.string p.name, .int .i64 p.len, .int .i64 p.speed, .int .i64 p.brake]] w
      fun e w' => e = .returned (.bool (pieceB p)) ∧ Below w.heap.size w w' := by
  cases hn : nameOk p.name with
  | false =>
    have HN := Aside0.mk hn
    go_enter Try.func124, Try.ntmps124
    go_wp2_with (go_at_call 125; refine (named_any _ _ hs).mono ?_; rintro e w3 ⟨rfl, rfl⟩)
    go_ret
    refine ⟨?_, below_alloc (Below.refl _ _) _⟩
    have : pieceB p = false := by unfold pieceB; rw [HN.out]; rfl
    rw [this]; rfl
  | true =>
    have HN := Aside0.mk hn
    go_enter Try.func124, Try.ntmps124
    go_wp2_with (go_at_call 125; refine (named_any _ _ hs).mono ?_; rintro e w3 ⟨rfl, rfl⟩)
    all_goals
      go_ret
      refine ⟨?_, below_alloc (Below.refl _ _) _⟩
      have : pieceB p = (inB p.len 1 10000000 && inB p.speed 1 10000 && inB p.brake 1 1000) := by unfold pieceB; rw [HN.out]; rfl
      rw [this]
      unfold inB
      simp_all <;> omega
def endB (n : NetT) (e : EndT) : Bool := inB e.piece 0 ((n.pieces.length : Int) - 1) && inB e.side 0 1
set_option maxRecDepth 100000 in
theorem l1end_any (n : NetT) (u : (Option Addr × Nat) × (Option Addr × Nat)) (x : EndT) (w : World) (hm : n.pieces.length ≤ 9223372036854775807) :
    Calls Try.prog 132 #[.agg #[.slice u.1.1 n.pieces.length u.1.2, .slice u.2.1 n.joints.length u.2.2], .agg #[.int .i64 x.piece, .int .i64 x.side]] w
      fun e w' => e = .returned (.bool (endB n x)) ∧ Below w.heap.size w w' := by
  cases h1 : inB x.piece 0 ((n.pieces.length : Int) - 1) with
  | false =>
    have H1 := Aside0.mk h1
    go_enter Try.func132, Try.ntmps132
    go_wp2_with (go_at_call 119; refine (l1in_any _ _ _ _).mono ?_; rintro e w3 ⟨rfl, rfl⟩)
    go_ret
    refine ⟨?_, below_two _ _ _⟩
    have : endB n x = false := by unfold endB; rw [H1.out]; rfl
    rw [this]; rfl
  | true =>
    have H1 := Aside0.mk h1
    go_enter Try.func132, Try.ntmps132
    go_wp2_with (go_at_call 119; refine (l1in_any _ _ _ _).mono ?_; rintro e w3 ⟨rfl, rfl⟩)
    go_ret
    refine ⟨?_, below_two _ _ _⟩
    have : endB n x = inB x.side 0 1 := by unfold endB; rw [H1.out]; rfl
    rw [this]; rfl
def allEnds (n : NetT) : List EndT := n.joints.flatMap (·.ends)
def uses (n : NetT) (e : EndT) : Nat := (allEnds n).count e
theorem count_step {α : Type} [Inhabited α] [DecidableEq α] (l : List α) (i : Nat) (h : i < l.length) (e : α) : (l.take (i + 1)).count e = (l.take i).count e + if l.getD i default = e then 1 else 0 := by
  rw [take_getD l i h, List.count_append]
  congr 1
  by_cases he : l.getD i default = e
  · rw [if_pos he, he]; simp
  · rw [if_neg he]
    exact List.count_eq_zero.2 (by simpa using fun h => he h.symm)
theorem flat_step {α β : Type} [Inhabited α] (f : α → List β) (l : List α) (i : Nat) (h : i < l.length) : (l.take (i + 1)).flatMap f = (l.take i).flatMap f ++ f (l.getD i default) := by
  rw [take_getD l i h]; simp
set_option maxRecDepth 100000 in
theorem l1uses_any (n : NetT) (u : (Option Addr × Nat) × (Option Addr × Nat)) (x : EndT) (w : World) (hr : RdNet 67 w u n) (hb : (allEnds n).length ≤ 1048576) :
    Calls Try.prog 121 #[.agg #[.slice u.1.1 n.pieces.length u.1.2, .slice u.2.1 n.joints.length u.2.2], .agg #[.int .i64 x.piece, .int .i64 x.side]] w
      fun e w' => e = .returned (.int .i64 (uses n x)) ∧ Below w.heap.size w w' := by
  have hm := hr.2.1.2.1
  have HR := Aside0.mk hr.2.1
  clear hr
  obtain ⟨⟨A0, c0⟩, ⟨A1, c1⟩⟩ := u
  go_enter Try.func121, Try.ntmps121
  go_wp2
  obtain ⟨W0, hW0⟩ : ∃ W0 : World, W0 = (w.alloc (.cells #[.slice A0 n.pieces.length c0, .slice A1 n.joints.length c1] 35)).alloc (.cells #[.int .i64 x.piece, .int .i64 x.side] 67) := ⟨_, rfl⟩
  have f0 : W0.cell? ⟨w.heap.size + 1, 0, none⟩ = some (.int .i64 x.piece) := by rw [hW0]; go_simp
  have f1 : W0.cell? ⟨w.heap.size + 1, 1, none⟩ = some (.int .i64 x.side) := by rw [hW0]; go_simp
  have fs : w.heap.size + 1 < W0.heap.size := by rw [hW0]; simp
  have fb := Aside0.mk (show Below w.heap.size w W0 by rw [hW0]; exact below_two _ _ _)
  rw [← hW0]
  clear hW0
  go_loopw [5, 13] (fun v5 v13 wr => ∃ (i k : Nat), v13 = .int .i64 i ∧ i ≤ n.joints.length ∧ v5 = .int .i64 k ∧ k ≤ 1048576 ∧ Aside0 (k = ((n.joints.take i).flatMap (·.ends)).count x) ∧ Aside0 (Below W0.heap.size W0 wr)) (fun _ v13 _ => n.joints.length - (intOf v13).toNat)
  case atStart => exact ⟨0, 0, rfl, Nat.zero_le _, rfl, Nat.zero_le _, ⟨by simp⟩, ⟨Below.refl _ _⟩⟩
  case round =>
    obtain ⟨i, k, rfl, hi, rfl, hk, HT, HB⟩ := hrel
    by_cases hlt : i < n.joints.length
    · obtain ⟨ad0, B0, k0, e0, x0, x1, x2, m0, g0⟩ := at_Joint HR.out i hlt
      subst e0
      have HB2 := Aside0.mk (below_more fb.out HB.out)
      replace x0 := pw_cell_below HB2.out x0
      replace x1 := pw_cell_below HB2.out x1
      replace x2 := pw_cell_below HB2.out x2
      have HG := Aside0.mk g0
      have hgm := g0.2.1
      clear g0 m0
      obtain ⟨j, hj⟩ : ∃ j, j = n.joints.getD i default := ⟨_, rfl⟩
      have HS := Aside0.mk (flat_step (·.ends) n.joints i hlt)
      rw [← hj] at x0 x1 x2 HG HS hgm
      clear hj
      go_wp2
      have hT0 := Aside0.mk (Nat.le_trans (show k + (j.ends.take 0).count x ≤ k + 0 from by simp) (by omega : k + 0 ≤ 1048576))
      have HL := Aside0.mk (show ∀ q, k + (j.ends.take q).count x ≤ 1048576 from fun q => by
        have h1 := HT.out
        have h2 := HS.out
        have h3 : ((n.joints.take (i + 1)).flatMap (·.ends)).count x ≤ 1048576 := by
          refine Nat.le_trans (List.count_le_length ..) (Nat.le_trans ?_ hb)
          unfold allEnds
          conv => rhs; rw [← List.take_append_drop (i + 1) n.joints, List.flatMap_append, List.length_append]
          omega
        rw [h2, List.count_append] at h3
        have h4 : (j.ends.take q).count x ≤ j.ends.count x := (List.take_sublist _ _).count_le _
        omega)
      have HB3 := Aside0.mk (below_alloc HB.out (.cells #[.int .i64 j.kind, .string j.name, .slice B0 j.ends.length k0] 139))
      go_loopw [5, 20] (fun v5 v20 wq => ∃ (q k' : Nat), v20 = .int .i64 q ∧ q ≤ j.ends.length ∧ v5 = .int .i64 k' ∧ k' ≤ 1048576 ∧ Aside0 (k' = k + (j.ends.take q).count x) ∧ Aside0 (Below W0.heap.size W0 wq)) (fun _ v20 _ => j.ends.length - (intOf v20).toNat)
      case atStart => exact ⟨0, k, rfl, Nat.zero_le _, rfl, hk, ⟨by simp⟩, HB3⟩
      case round =>
        obtain ⟨q, k', rfl, hq, rfl, hk', HQ, HBq⟩ := hrel
        by_cases hqt : q < j.ends.length
        · obtain ⟨ad1, e1, y0, y1⟩ := at_End HG.out q hqt
          subst e1
          have HBw := Aside0.mk (below_more fb.out HBq.out)
          replace y0 := pw_cell_below HBw.out y0
          replace y1 := pw_cell_below HBw.out y1
          have z0 := pw_cell_below HBq.out f0
          have z1 := pw_cell_below HBq.out f1
          have fq := Nat.lt_of_lt_of_le fs HBq.out.size
          have HC := Aside0.mk (count_step j.ends q hqt x)
          have hk2 := HL.out (q + 1)
          obtain ⟨p, hp⟩ : ∃ p, p = j.ends.getD q default := ⟨_, rfl⟩
          rw [← hp] at y0 y1 HC
          clear hp
          have hk3 : p = x → k' + 1 ≤ 1048576 := fun h => by
            have h1 := HC.out
            rw [if_pos h] at h1
            have := HQ.out
            omega
          clear hk2
          have HK3 := Aside0.mk hk3
          clear hk3
          go_wp2
          all_goals first
            | (have hpx : p = x := EndT.ext_iff.1 ⟨by assumption, by assumption⟩
               have hk4 := HK3.out hpx
               have h1 := HC.out
               rw [if_pos hpx] at h1
               have HE := Aside0.mk h1
               clear hpx h1
               go_roundw
               case rel => exact ⟨q + 1, k' + 1, by go_num, by omega, by go_num, hk4, ⟨by have := HE.out; have := HQ.out; omega⟩, ⟨below_alloc HBq.out _⟩⟩
               case measure => simp [intOf]; omega)
            | (have hpx : p ≠ x := fun h => by subst h; first | exact absurd rfl ‹¬ p.piece = p.piece› | exact absurd rfl ‹¬ p.side = p.side›
               have h1 := HC.out
               rw [if_neg hpx] at h1
               have HE := Aside0.mk h1
               clear hpx h1
               go_roundw
               case rel => exact ⟨q + 1, k', by go_num, by omega, rfl, hk', ⟨by have := HE.out; have := HQ.out; omega⟩, ⟨below_alloc HBq.out _⟩⟩
               case measure => simp [intOf]; omega)
        · go_wp2
          go_roundw
          case rel => exact ⟨i + 1, k', by go_num, by omega, rfl, hk', ⟨by
            have h1 := HQ.out
            rw [List.take_of_length_le (by omega)] at h1
            rw [HS.out, List.count_append, ← HT.out, h1]⟩, HBq⟩
          case measure => simp [intOf]; omega
    · go_wp2
      go_ret
      refine ⟨?_, below_more fb.out HB.out⟩
      have ha := HT.out
      rw [List.take_of_length_le (by omega)] at ha
      unfold uses allEnds
      rw [← ha]; rfl
end Go.Proofs.Ytckcffjnffcjcaa
namespace Go.Proofs.Ytckcffjnffcjcaa
open Go.RowKit Go.Proofs.YtckcffjnffcjcaaW.PrintWords
theorem sum_mem_le {α : Type} (f : α → Nat) : ∀ (l : List α) (x : α), x ∈ l → f x ≤ (l.map f).sum
  | a :: l, x, h => by
    simp only [List.map_cons, List.sum_cons]
    rcases List.mem_cons.1 h with rfl | h
    · omega
    · have := sum_mem_le f l x h; omega
theorem sum_len_le (l : List JointT) : (l.flatMap (·.ends)).length ≤ (l.map wJoint).sum := by
  induction l with
  | nil => simp
  | cons a l ih => simp only [List.flatMap_cons, List.length_append, List.map_cons, List.sum_cons]; unfold wJoint at *; omega
structure NetFits (n : NetT) : Prop where
  p : n.pieces.length ≤ 1048576
  j : n.joints.length ≤ 1048576
  e : ∀ x ∈ n.joints, x.ends.length ≤ 1048576
  all : (allEnds n).length ≤ 1048576
  pn : ∀ x ∈ n.pieces, x.name.size ≤ 9223372036854775807
  jn : ∀ x ∈ n.joints, x.name.size ≤ 9223372036854775807
theorem NetFits.of {n : NetT} (hg : GNet n) (h : wNet n ≤ 1048576) : NetFits n := by
  unfold wNet wPieces wJoints at h
  refine ⟨by omega, by omega, fun x hx => ?_, ?_, fun x hx => (hg.1.2 x hx).1, fun x hx => (hg.2.2 x hx).2.1⟩
  · have := sum_mem_le wJoint n.joints x hx
    unfold wJoint at this h
    omega
  · have := sum_len_le n.joints
    unfold allEnds
    omega
end Go.Proofs.Ytckcffjnffcjcaa
namespace Go.Proofs.Ytckcffjnffcjcaa
open Go.RowKit Go.Proofs.YtckcffjnffcjcaaW.PrintWords
def j3 (n : NetT) (j : JointT) : Bool := !(inB j.kind 1 4) || ((j.ends.length : Int) != j.kind) || j.ends.any (fun e => !endB n e)
def j4 (n : NetT) (i : Nat) (j : JointT) : Bool := if j.kind < 3 then !(j.name.toList).isEmpty else !nameOk j.name || (n.joints.take i).any (fun x => decide (x.name = j.name))
def jointCode (n : NetT) (i : Nat) : Int := if j3 n (n.joints.getD i default) = true then 3 else if j4 n i (n.joints.getD i default) = true then 4 else 0
theorem any_step {α : Type} [Inhabited α] {l : List α} {f : α → Bool} {i : Nat} (h : i < l.length) (ha : (l.take i).any f = false) (hp : f (l.getD i default) = false) : (l.take (i + 1)).any f = false := by
  rw [take_getD l i h, List.any_append, ha, List.any_cons, hp]; rfl
theorem any_stop {α : Type} [Inhabited α] {l : List α} {f : α → Bool} {i k : Nat} (h : i < l.length) (hk : i < k) (hp : f (l.getD i default) = true) : (l.take k).any f = true := by
  rw [List.any_eq_true]
  refine ⟨l.getD i default, ?_, hp⟩
  rw [getD_at l i h]
  exact List.mem_take_iff_getElem.2 ⟨i, by omega, rfl⟩
theorem below_drewN' {B : Nat} {w W : World} (h : Below B w W) (n : Nat) : Below B w (W.drewN n) := pw_below_drewN h n
set_option maxRecDepth 100000 in
set_option maxHeartbeats 1000000 in
theorem l1joint_any (n : NetT) (u : (Option Addr × Nat) × (Option Addr × Nat)) (i : Nat) (w : World) (hr : RdNet 67 w u n) (hi : i < n.joints.length) (hs : ∀ x ∈ n.joints, x.name.size ≤ 9223372036854775807) :
    Calls Try.prog 120 #[.agg #[.slice u.1.1 n.pieces.length u.1.2, .slice u.2.1 n.joints.length u.2.2], .int .i64 i] w
      fun e w' => e = .returned (.int .i64 (jointCode n i)) ∧ Below w.heap.size w w' := by
  have hm := hr.2.1.2.1
  have hpm := hr.1.1.2.1
  have HR := Aside0.mk hr.2.1
  clear hr
  obtain ⟨⟨A0, c0⟩, ⟨A1, c1⟩⟩ := u
  obtain ⟨ad0, B0, k0, e0, x0, x1, x2, m0, g0⟩ := at_Joint HR.out i hi
  subst e0
  have hjn := hs _ (getD_mem n.joints i hi)
  have HS := Aside0.mk hs
  clear hs
  obtain ⟨j, hj⟩ : ∃ j, j = n.joints.getD i default := ⟨_, rfl⟩
  have HJ := Aside0.mk hj
  rw [← hj] at x0 x1 x2 g0 hjn
  clear hj m0
  have hgm := g0.2.1
  have HG := Aside0.mk g0
  clear g0
  have hcode : jointCode n i = if j3 n j = true then 3 else if j4 n i j = true then 4 else 0 := by unfold jointCode; rw [← HJ.out]
  have HC := Aside0.mk hcode
  clear hcode
  obtain ⟨W0, hW0⟩ : ∃ W0 : World, W0 = (w.alloc (.cells #[.slice A0 n.pieces.length c0, .slice (some ad0) n.joints.length c1] 35)).alloc (.cells #[.int .i64 j.kind, .string j.name, .slice B0 j.ends.length k0] 139) := ⟨_, rfl⟩
  have n0 : W0.cell? ⟨w.heap.size, 0, none⟩ = some (.slice A0 n.pieces.length c0) := by rw [hW0]; go_simp
  have n1 : W0.cell? ⟨w.heap.size, 1, none⟩ = some (.slice (some ad0) n.joints.length c1) := by rw [hW0]; go_simp
  have f0 : W0.cell? ⟨w.heap.size + 1, 0, none⟩ = some (.int .i64 j.kind) := by rw [hW0]; go_simp
  have f1 : W0.cell? ⟨w.heap.size + 1, 1, none⟩ = some (.string j.name) := by rw [hW0]; go_simp
  have f2 : W0.cell? ⟨w.heap.size + 1, 2, none⟩ = some (.slice B0 j.ends.length k0) := by rw [hW0]; go_simp
  have fs : w.heap.size + 1 < W0.heap.size := by rw [hW0]; simp
  have fb := Aside0.mk (show Below w.heap.size w W0 by rw [hW0]; exact below_two _ _ _)
  have HW := Aside0.mk hW0
  clear hW0
  replace x0 := fun o : Obj => pw_cell_below (below_alloc (Below.refl _ _) o) x0
  replace x1 := fun o : Obj => pw_cell_below (below_alloc (Below.refl _ _) o) x1
  replace x2 := fun o : Obj => pw_cell_below (below_alloc (Below.refl _ _) o) x2
  cases hk : inB j.kind 1 4 with
  | false =>
    have HK := Aside0.mk hk
    go_enter Try.func120, Try.ntmps120
    go_wp2_with (go_at_call 119; refine (l1in_any _ _ _ _).mono ?_; rintro e w3 ⟨rfl, rfl⟩)
    go_ret
    refine ⟨?_, by rw [← HW.out]; exact fb.out⟩
    have : jointCode n i = 3 := by rw [HC.out, if_pos]; unfold j3; rw [HK.out]; rfl
    rw [this]; rfl
  | true =>
    have HK := Aside0.mk hk
    cases hl : ((j.ends.length : Int) != j.kind) with
    | true =>
      have HL := Aside0.mk hl
      go_enter Try.func120, Try.ntmps120
      go_wp2_with (go_at_call 119; refine (l1in_any _ _ _ _).mono ?_; rintro e w3 ⟨rfl, rfl⟩)
      go_ret
      refine ⟨?_, by rw [← HW.out]; exact fb.out⟩
      have : jointCode n i = 3 := by rw [HC.out, if_pos]; unfold j3; rw [HL.out]; simp
      rw [this]; rfl
    | false =>
      have HL := Aside0.mk hl
      go_enter Try.func120, Try.ntmps120
      go_wp2_with (go_at_call 119; refine (l1in_any _ _ _ _).mono ?_; rintro e w3 ⟨rfl, rfl⟩)
      rw [← HW.out]
      clear hk hl x0 x1 x2
      go_loopw [29] (fun v29 wr => ∃ q : Nat, v29 = .int .i64 q ∧ q ≤ j.ends.length ∧ Aside0 ((j.ends.take q).any (fun e => !endB n e) = false) ∧ Aside0 (Below W0.heap.size W0 wr)) (fun v29 _ => j.ends.length - (intOf v29).toNat)
      case atStart => exact ⟨0, rfl, Nat.zero_le _, ⟨by simp⟩, ⟨Below.refl _ _⟩⟩
      case round =>
        obtain ⟨q, rfl, hq, HQ, HB⟩ := hrel
        have a0 := pw_cell_below HB.out n0
        have a1 := pw_cell_below HB.out n1
        have a2 := pw_cell_below HB.out f0
        have a3 := pw_cell_below HB.out f1
        have a4 := pw_cell_below HB.out f2
        have as1 := Nat.lt_of_lt_of_le fs HB.out.size
        have as0 : w.heap.size < wr.heap.size := by omega
        by_cases hqt : q < j.ends.length
        · obtain ⟨ad1, e1, y0, y1⟩ := at_End HG.out q hqt
          subst e1
          have HBw := Aside0.mk (below_more fb.out HB.out)
          replace y0 := pw_cell_below HBw.out y0
          replace y1 := pw_cell_below HBw.out y1
          obtain ⟨p, hp⟩ : ∃ p, p = j.ends.getD q default := ⟨_, rfl⟩
          rw [← hp] at y0 y1
          have HP := Aside0.mk hp
          clear hp
          cases he : endB n p with
          | true =>
            have HE := Aside0.mk he
            go_wp2_with (go_at_call 132; refine (l1end_any n ((A0, c0), (some ad0, c1)) p _ hpm).mono ?_; rintro e w3 ⟨rfl, hb3⟩)
            go_roundw
            case rel => exact ⟨q + 1, by go_num, by omega, ⟨any_step hqt HQ.out (by rw [← HP.out, HE.out]; rfl)⟩, ⟨below_more HB.out (below_more (below_alloc (Below.refl _ _) _) hb3)⟩⟩
            case measure => simp [intOf]; omega
          | false =>
            have HE := Aside0.mk he
            go_wp2_with (go_at_call 132; refine (l1end_any n ((A0, c0), (some ad0, c1)) p _ hpm).mono ?_; rintro e w3 ⟨rfl, hb3⟩)
            go_ret
            refine ⟨?_, below_more fb.out (below_more HB.out (below_more (below_alloc (Below.refl _ _) _) hb3))⟩
            have h5 := any_stop (f := fun e => !endB n e) hqt (Nat.lt_succ_self q) (by rw [← HP.out, HE.out]; rfl)
            have : jointCode n i = 3 := by
              rw [HC.out, if_pos]; unfold j3
              have : j.ends.any (fun e => !endB n e) = true := by
                rw [List.any_eq_true] at h5 ⊢
                obtain ⟨x, hx, hx2⟩ := h5
                exact ⟨x, List.mem_of_mem_take hx, hx2⟩
              rw [this]; simp
            rw [this]; rfl
        · have h3 : j3 n j = false := by
            unfold j3
            have h6 := HQ.out
            rw [List.take_of_length_le (by omega)] at h6
            rw [HK.out, HL.out, h6]; rfl
          have HC4 : Aside0 (jointCode n i = if j4 n i j = true then 4 else 0) := ⟨by rw [HC.out, if_neg (by rw [h3]; simp)]⟩
          clear h3
          by_cases hk3 : j.kind < 3
          · cases hem : j.name.toList.isEmpty with
            | true =>
              have HE := Aside0.mk hem
              go_wp2
              go_ret
              refine ⟨?_, below_more fb.out HB.out⟩
              have : jointCode n i = 0 := by rw [HC4.out, if_neg]; unfold j4; rw [if_pos hk3, HE.out]; simp
              rw [this]; rfl
            | false =>
              have HE := Aside0.mk hem
              go_wp2
              go_ret
              refine ⟨?_, below_more fb.out HB.out⟩
              have : jointCode n i = 4 := by rw [HC4.out, if_pos]; unfold j4; rw [if_pos hk3, HE.out]; rfl
              rw [this]; rfl
          · cases hnm : nameOk j.name with
            | false =>
              have HE := Aside0.mk hnm
              go_wp2_with (go_at_call 118; refine (l1name_any _ _ hjn).mono ?_; rintro e w3 ⟨rfl, rfl⟩)
              go_ret
              refine ⟨?_, below_more fb.out HB.out⟩
              have : jointCode n i = 4 := by rw [HC4.out, if_pos]; unfold j4; rw [if_neg (by omega), HE.out]; rfl
              rw [this]; rfl
            | true =>
              have HE := Aside0.mk hnm
              go_wp2_with (go_at_call 118; refine (l1name_any _ _ hjn).mono ?_; rintro e w3 ⟨rfl, rfl⟩)
              go_loopw [8] (fun v8 wq => ∃ r : Nat, v8 = .int .i64 r ∧ r ≤ i ∧ Aside0 ((n.joints.take r).any (fun x => decide (x.name = j.name)) = false) ∧ Aside0 (Below W0.heap.size W0 wq)) (fun v8 _ => i - (intOf v8).toNat)
              case atStart => exact ⟨0, rfl, Nat.zero_le _, ⟨by simp⟩, HB⟩
              case round =>
                clear a0 a1 a2 a3 a4 as1 as0
                obtain ⟨r, rfl, hri, HRr, HBr⟩ := hrel
                have b0 := pw_cell_below HBr.out n1
                have b1 := pw_cell_below HBr.out f1
                by_cases hrt : r < i
                · have hrn : r < n.joints.length := by omega
                  obtain ⟨ad2, B2, k2, e2, z0, z1, z2, m2, g2⟩ := at_Joint HR.out r hrn
                  injection e2 with e2
                  subst e2
                  clear z0 z2 m2 g2
                  replace z1 := pw_cell_below (below_more fb.out HBr.out) z1
                  obtain ⟨y, hy⟩ : ∃ y, y = n.joints.getD r default := ⟨_, rfl⟩
                  rw [← hy] at z1
                  have HY := Aside0.mk hy
                  clear hy
                  have hr0 : (0 : Int) ≤ (r : Int) := by omega
                  have hr1 : (r : Int) < (n.joints.length : Int) := by omega
                  cases hd : (y.name.toList == j.name.toList) with
                  | true =>
                    have HD := Aside0.mk hd
                    go_wp2
                    go_quiet (fail)
                    go_wp2
                    go_ret
                    refine ⟨?_, below_more fb.out (below_drewN' HBr.out _)⟩
                    have h5 := any_stop (f := fun x => decide (x.name = j.name)) (l := n.joints) hrn (k := i) hrt (by rw [← HY.out]; exact decide_eq_true (toList_inj.1 (by simpa using HD.out)))
                    have : jointCode n i = 4 := by rw [HC4.out, if_pos]; unfold j4; rw [if_neg (by omega), h5]; simp
                    rw [this]; rfl
                  | false =>
                    have HD := Aside0.mk hd
                    go_wp2
                    go_quiet (fail)
                    go_wp2
                    go_roundw
                    case rel => exact ⟨r + 1, by go_num, by omega, ⟨any_step hrn HRr.out (by rw [← HY.out]; exact decide_eq_false (fun h => by have := HD.out; rw [h] at this; simp at this))⟩, ⟨below_drewN' HBr.out _⟩⟩
                    case measure => simp [intOf]; omega
                · go_wp2
                  go_ret
                  refine ⟨?_, below_more fb.out HBr.out⟩
                  have h6 := HRr.out
                  rw [show r = i from by omega] at h6
                  have : jointCode n i = 0 := by rw [HC4.out, if_neg]; unfold j4; rw [if_neg (by omega), HE.out, h6]; simp
                  rw [this]; rfl
end Go.Proofs.Ytckcffjnffcjcaa
namespace Go.Proofs.Ytckcffjnffcjcaa
open Go.RowKit Go.Proofs.YtckcffjnffcjcaaW.PrintWords
def badPiece (n : NetT) (i : Nat) : Bool := !pieceB (n.pieces.getD i default) || (n.pieces.take i).any (fun x => decide (x.name = (n.pieces.getD i default).name))
def badUse (n : NetT) (i : Nat) : Bool := decide (uses n ⟨i, 0⟩ ≠ 1) || decide (uses n ⟨i, 1⟩ ≠ 1)
def tooMany (n : NetT) : Bool := n.pieces.length == 0 || decide (100 < n.pieces.length) || decide (120 < n.joints.length)
def netFault (n : NetT) : Int × Int :=
  if tooMany n = true then (1, 0)
  else match (List.range n.pieces.length).find? (badPiece n) with
  | some i => (2, i)
  | none => match (List.range n.joints.length).find? (fun i => jointCode n i == 3) with
    | some i => (3, i)
    | none => match (List.range n.joints.length).find? (fun i => jointCode n i == 4) with
      | some i => (4, i)
      | none => match (List.range n.pieces.length).find? (badUse n) with
        | some i => (5, i)
        | none => (0, 0)
theorem netFault1 {n : NetT} (h : tooMany n = true) : netFault n = (1, 0) := if_pos h
theorem netFault2 {n : NetT} (h : tooMany n = false) {i : Nat} (h2 : (List.range n.pieces.length).find? (badPiece n) = some i) : netFault n = (2, (i : Int)) := by
  unfold netFault; rw [if_neg (by rw [h]; simp), h2]
theorem netFault3 {n : NetT} (h : tooMany n = false) (h2 : (List.range n.pieces.length).find? (badPiece n) = none) {i : Nat} (h3 : (List.range n.joints.length).find? (fun i => jointCode n i == 3) = some i) : netFault n = (3, (i : Int)) := by
  unfold netFault; rw [if_neg (by rw [h]; simp), h2, h3]
theorem netFault4 {n : NetT} (h : tooMany n = false) (h2 : (List.range n.pieces.length).find? (badPiece n) = none) (h3 : (List.range n.joints.length).find? (fun i => jointCode n i == 3) = none) {i : Nat} (h4 : (List.range n.joints.length).find? (fun i => jointCode n i == 4) = some i) : netFault n = (4, (i : Int)) := by
  unfold netFault; rw [if_neg (by rw [h]; simp), h2, h3, h4]
theorem netFault5 {n : NetT} (h : tooMany n = false) (h2 : (List.range n.pieces.length).find? (badPiece n) = none) (h3 : (List.range n.joints.length).find? (fun i => jointCode n i == 3) = none) (h4 : (List.range n.joints.length).find? (fun i => jointCode n i == 4) = none) {i : Nat} (h5 : (List.range n.pieces.length).find? (badUse n) = some i) : netFault n = (5, (i : Int)) := by
  unfold netFault; rw [if_neg (by rw [h]; simp), h2, h3, h4, h5]
theorem netFault0 {n : NetT} (h : tooMany n = false) (h2 : (List.range n.pieces.length).find? (badPiece n) = none) (h3 : (List.range n.joints.length).find? (fun i => jointCode n i == 3) = none) (h4 : (List.range n.joints.length).find? (fun i => jointCode n i == 4) = none) (h5 : (List.range n.pieces.length).find? (badUse n) = none) : netFault n = (0, 0) := by
  unfold netFault; rw [if_neg (by rw [h]; simp), h2, h3, h4, h5]
def codeNone (n : NetT) (c : Int) : Prop := (List.range n.joints.length).find? (fun i => jointCode n i == c) = none
theorem netFault34 {n : NetT} (h : tooMany n = false) (h2 : (List.range n.pieces.length).find? (badPiece n) = none) {c : Int} (hc3 : 3 ≤ c) (hc4 : c ≤ 4) (hp : ∀ c', 3 ≤ c' → c' < c → codeNone n c') {i : Nat} (h3 : (List.range n.joints.length).find? (fun i => jointCode n i == c) = some i) : netFault n = (c, (i : Int)) := by
  by_cases e : c = 3
  · subst e; exact netFault3 h h2 h3
  · have e4 : c = 4 := by omega
    subst e4; exact netFault4 h h2 (hp 3 (by omega) (by omega)) h3
set_option maxRecDepth 100000 in
set_option maxHeartbeats 2000000 in
theorem specNetOk_any (n : NetT) (u : (Option Addr × Nat) × (Option Addr × Nat)) (w : World) (hr : RdNet 67 w u n) (hs : ∀ x ∈ n.joints, x.name.size ≤ 9223372036854775807) (hps : ∀ x ∈ n.pieces, x.name.size ≤ 9223372036854775807) (hb : (allEnds n).length ≤ 1048576) :
    Calls Try.prog 42 #[.agg #[.slice u.1.1 n.pieces.length u.1.2, .slice u.2.1 n.joints.length u.2.2]] w
      fun e w' => e = .returned (.agg #[.int .i64 (netFault n).1, .int .i64 (netFault n).2]) ∧ Below w.heap.size w w' := by
  have hm := hr.2.1.2.1
  have hpm := hr.1.1.2.1
  have HRN := Aside0.mk hr
  have HRJ := Aside0.mk hr.2.1
  have HRP := Aside0.mk hr.1.1
  have HS := Aside0.mk hs
  have HPS := Aside0.mk hps
  clear hr hs hps
  obtain ⟨⟨A0, c0⟩, ⟨A1, c1⟩⟩ := u
  obtain ⟨W0, hW0⟩ : ∃ W0 : World, W0 = (w.alloc (.cells #[.slice A0 n.pieces.length c0, .slice A1 n.joints.length c1] 35)).alloc (.cells #[.int .i64 0, .int .i64 0] 55) := ⟨_, rfl⟩
  have HN : Aside0 (Bx W0 w.heap.size [.slice A0 n.pieces.length c0, .slice A1 n.joints.length c1]) := ⟨by rw [hW0]; exact (Bx.new w [.slice A0 n.pieces.length c0, .slice A1 n.joints.length c1] 35).alloc _⟩
  have HX : Aside0 (Bx W0 (w.heap.size + 1) [.int .i64 0, .int .i64 0]) := ⟨by
    have := Bx.new (w.alloc (.cells #[.slice A0 n.pieces.length c0, .slice A1 n.joints.length c1] 35)) [.int .i64 0, .int .i64 0] 55
    rw [hW0]; simpa using this⟩
  have fb := Aside0.mk (show Below w.heap.size w W0 by rw [hW0]; exact below_two _ _ _)
  have HW := Aside0.mk hW0
  clear hW0
  by_cases h0 : n.pieces.length = 0
  · have z0 : ((n.pieces.length : Int) == 0) = true := by rw [h0]; rfl
    have HT := Aside0.mk (netFault1 (n := n) (by unfold tooMany; simp [h0]))
    clear h0
    go_enter Try.func42, Try.ntmps42
    go_wp2
    refine bodyPost_ret (v := .agg #[.int .i64 1, .int .i64 0]) (by simp [results, Try.results42, go_sem]) rfl ⟨by rw [HT.out], below_two _ _ _⟩
  have z0 : ((n.pieces.length : Int) == 0) = false := by simpa using h0
  by_cases h1 : 100 < n.pieces.length
  · have HT := Aside0.mk (netFault1 (n := n) (by unfold tooMany; simp [h1]))
    go_enter Try.func42, Try.ntmps42
    go_wp2
    refine bodyPost_ret (v := .agg #[.int .i64 1, .int .i64 0]) (by simp [results, Try.results42, go_sem]) rfl ⟨by rw [HT.out], below_two _ _ _⟩
  by_cases h2 : 120 < n.joints.length
  · have HT := Aside0.mk (netFault1 (n := n) (by unfold tooMany; simp [h2]))
    go_enter Try.func42, Try.ntmps42
    go_wp2
    refine bodyPost_ret (v := .agg #[.int .i64 1, .int .i64 0]) (by simp [results, Try.results42, go_sem]) rfl ⟨by rw [HT.out], below_two _ _ _⟩
  have HT : Aside0 (tooMany n = false) := ⟨by unfold tooMany; simp [h0, h1, h2]⟩
  go_enter Try.func42, Try.ntmps42
  go_wp2
  rw [← HW.out]
  have t1 : n.pieces.length ≤ 100 := by omega
  have t2 : n.joints.length ≤ 120 := by omega
  clear h0 h1 h2 z0
  go_loopw [30] (fun v30 wr => ∃ i : Nat, v30 = .int .i64 i ∧ i ≤ n.pieces.length ∧ Aside0 (∀ k, k < i → badPiece n k = false) ∧ Aside0 (Below W0.heap.size W0 wr)) (fun v30 _ => n.pieces.length - (intOf v30).toNat)
  case atStart => exact ⟨0, rfl, Nat.zero_le _, ⟨fun k hk => by omega⟩, ⟨Below.refl _ _⟩⟩
  case round =>
    obtain ⟨i, rfl, hi, HI, HB⟩ := hrel
    have HNr := Aside0.mk (HN.out.below HB.out)
    have HXr := Aside0.mk (HX.out.below HB.out)
    have n0 := HNr.out.c 0 _ rfl
    have n1 := HNr.out.c 1 _ rfl
    have x0 := HXr.out.c 0 _ rfl
    have x1 := HXr.out.c 1 _ rfl
    have xf0 := HXr.out.f 0
    have xf1 := HXr.out.f 1
    have as1 := HXr.out.lt
    have as0 := HNr.out.lt
    by_cases hlt : i < n.pieces.length
    · obtain ⟨ad0, e0, y0, y1, y2, y3⟩ := at_Piece HRP.out i hlt
      have HBw := Aside0.mk (below_more fb.out HB.out)
      replace y0 := pw_cell_below HBw.out y0
      replace y1 := pw_cell_below HBw.out y1
      replace y2 := pw_cell_below HBw.out y2
      replace y3 := pw_cell_below HBw.out y3
      have hpn := HPS.out _ (getD_mem n.pieces i hlt)
      obtain ⟨p, hp⟩ : ∃ p, p = n.pieces.getD i default := ⟨_, rfl⟩
      rw [← hp] at y0 y1 y2 y3 hpn
      have HP := Aside0.mk hp
      clear hp
      subst e0
      cases hpb : pieceB p with
      | false =>
        have HT2 := Aside0.mk (netFault2 HT.out (find_first (p := badPiece n) hlt (by unfold badPiece; rw [← HP.out, hpb]; rfl) HI.out))
        have HPB := Aside0.mk hpb
        clear hpb
        go_wp2_with (first | (go_at_call 118; refine (l1name_any _ _ hpn).mono ?_; rintro e w3 ⟨rfl, rfl⟩) | (go_at_call 119; refine (l1in_any _ _ _ _).mono ?_; rintro e w3 ⟨rfl, rfl⟩))
        all_goals first
          | (exfalso; have := HPB.out; unfold pieceB at this; simp_all; done)
          | (refine bodyPost_ret (v := .agg #[.int .i64 2, .int .i64 i]) (by simp [results, Try.results42, go_sem, x0, x1, as1]) rfl ⟨by rw [HT2.out], ?_⟩
             repeat (first | (with_reducible exact HBw.out) | (with_reducible refine below_set ?_ (by omega)) | (with_reducible refine below_alloc ?_ _)))
      | true =>
        have HPB := Aside0.mk hpb
        have hpb2 := hpb
        unfold pieceB at hpb2
        simp only [Bool.and_eq_true] at hpb2
        obtain ⟨⟨⟨g1, g2⟩, g3⟩, g4⟩ := hpb2
        clear hpb
        go_wp2_with (first | (go_at_call 118; refine (l1name_any _ _ hpn).mono ?_; rintro e w3 ⟨rfl, rfl⟩) | (go_at_call 119; refine (l1in_any _ _ _ _).mono ?_; rintro e w3 ⟨rfl, rfl⟩))
        clear n0 n1 x0 x1 xf0 xf1 as1 as0 y0 y1 y2 y3 g1 g2 g3 g4
        obtain ⟨W1, hW1⟩ : ∃ W1 : World, W1 = wr.alloc (.cells #[.string p.name, .int .i64 p.len, .int .i64 p.speed, .int .i64 p.brake] 78) := ⟨_, rfl⟩
        have HL : Aside0 (Bx W1 wr.heap.size [.string p.name, .int .i64 p.len, .int .i64 p.speed, .int .i64 p.brake]) := ⟨by rw [hW1]; exact Bx.new wr _ 78⟩
        have HN1 : Aside0 (Bx W1 w.heap.size [.slice (some ad0) n.pieces.length c0, .slice A1 n.joints.length c1]) := ⟨by rw [hW1]; exact HNr.out.alloc _⟩
        have HX1 : Aside0 (Bx W1 (w.heap.size + 1) [.int .i64 0, .int .i64 0]) := ⟨by rw [hW1]; exact HXr.out.alloc _⟩
        have HB1 : Aside0 (Below w.heap.size w W1) := ⟨by rw [hW1]; exact below_alloc HBw.out _⟩
        have HB0 : Aside0 (Below W0.heap.size W0 W1) := ⟨by rw [hW1]; exact below_alloc HB.out _⟩
        rw [← hW1]
        clear hW1
        go_loopw [5] (fun v5 wq => ∃ k : Nat, v5 = .int .i64 k ∧ k ≤ i ∧ Aside0 ((n.pieces.take k).any (fun x => decide (x.name = p.name)) = false) ∧ Aside0 (Below W1.heap.size W1 wq)) (fun v5 _ => i - (intOf v5).toNat)
        case atStart => exact ⟨0, rfl, Nat.zero_le _, ⟨by simp⟩, ⟨Below.refl _ _⟩⟩
        case round =>
          obtain ⟨k, rfl, hki, HK, HBq⟩ := hrel
          have HBqw := Aside0.mk (below_more HB1.out HBq.out)
          have HLq := Aside0.mk (HL.out.below HBq.out)
          have HNq := Aside0.mk (HN1.out.below HBq.out)
          have HXq := Aside0.mk (HX1.out.below HBq.out)
          have n0 := HNq.out.c 0 _ rfl
          have x0 := HXq.out.c 0 _ rfl
          have x1 := HXq.out.c 1 _ rfl
          have xf0 := HXq.out.f 0
          have xf1 := HXq.out.f 1
          have as1 := HXq.out.lt
          have l0 := HLq.out.c 0 _ rfl
          by_cases hkt : k < i
          · have hkn : k < n.pieces.length := by omega
            obtain ⟨ad2, e2, z0, z1, z2, z3⟩ := at_Piece HRP.out k hkn
            injection e2 with e2
            subst e2
            clear z1 z2 z3
            replace z0 := pw_cell_below HBqw.out z0
            obtain ⟨y, hy⟩ : ∃ y, y = n.pieces.getD k default := ⟨_, rfl⟩
            rw [← hy] at z0
            have HY := Aside0.mk hy
            clear hy
            have hr0 : (0 : Int) ≤ (k : Int) := by omega
            have hr1 : (k : Int) < (n.pieces.length : Int) := by omega
            cases hd : (y.name.toList == p.name.toList) with
            | true =>
              have HD := Aside0.mk hd
              have HT2 := Aside0.mk (netFault2 HT.out (find_first (p := badPiece n) hlt (by
                unfold badPiece
                rw [any_stop (f := fun x => decide (x.name = (n.pieces.getD i default).name)) hkn hkt (by rw [← HY.out, ← HP.out]; exact decide_eq_true (toList_inj.1 (by simpa using HD.out)))]
                simp) HI.out))
              go_wp2
              go_quiet (fail)
              go_wp2
              refine bodyPost_ret (v := .agg #[.int .i64 2, .int .i64 i]) (by simp [results, Try.results42, go_sem, x0, x1, as1]) rfl ⟨by rw [HT2.out], ?_⟩
              repeat (first | (with_reducible exact HBqw.out) | (with_reducible refine below_set ?_ (by omega)) | (with_reducible refine below_alloc ?_ _) | (with_reducible refine below_drewN' ?_ _))
            | false =>
              have HD := Aside0.mk hd
              go_wp2
              go_quiet (fail)
              go_wp2
              go_roundw
              case rel => exact ⟨k + 1, by go_num, by omega, ⟨any_step hkn HK.out (by rw [← HY.out]; exact decide_eq_false (fun h => by have := HD.out; rw [h] at this; simp at this))⟩, ⟨below_drewN' HBq.out _⟩⟩
              case measure => simp [intOf]; omega
          · have hbp : badPiece n i = false := by
              unfold badPiece
              have h6 := HK.out
              rw [show k = i from by omega] at h6
              rw [← HP.out, HPB.out, h6]; rfl
            have HBP := Aside0.mk hbp
            clear hbp
            go_wp2
            go_roundw
            case rel => exact ⟨i + 1, by go_num, by omega, ⟨upto_step HI.out HBP.out⟩, ⟨below_more HB0.out HBq.out⟩⟩
            case measure => simp [intOf]; omega
    · have HI2 := Aside0.mk (find_none (p := badPiece n) (n := n.pieces.length) (fun k hk => HI.out k (by omega)))
      go_wp2
      clear n0 n1 x0 x1 xf0 xf1 as1 as0
      go_loopw [6] (fun v6 wc => ∃ c : Int, v6 = .int .i64 c ∧ 3 ≤ c ∧ c ≤ 5 ∧ Aside0 (∀ c', 3 ≤ c' → c' < c → codeNone n c') ∧ Aside0 (Below W0.heap.size W0 wc)) (fun v6 _ => 5 - (intOf v6).toNat)
      case atStart => exact ⟨3, rfl, by omega, by omega, ⟨fun c h1 h2 => by omega⟩, HB⟩
      case round =>
        obtain ⟨c, rfl, hc3, hc5, HC, HBc⟩ := hrel
        clear HNr HXr HB
        have HNr := Aside0.mk (HN.out.below HBc.out)
        have HXr := Aside0.mk (HX.out.below HBc.out)
        have n0 := HNr.out.c 0 _ rfl
        have n1 := HNr.out.c 1 _ rfl
        by_cases hc4 : c ≤ 4
        · go_wp2
          clear n0 n1
          go_loopw [83] (fun v83 wj => ∃ i : Nat, v83 = .int .i64 i ∧ i ≤ n.joints.length ∧ Aside0 (∀ k, k < i → (jointCode n k == c) = false) ∧ Aside0 (Below W0.heap.size W0 wj)) (fun v83 _ => n.joints.length - (intOf v83).toNat)
          case atStart => exact ⟨0, rfl, Nat.zero_le _, ⟨fun k hk => by omega⟩, HBc⟩
          case round =>
            obtain ⟨i, rfl, hi, HJI, HBj⟩ := hrel
            clear HNr HXr
            have HNr := Aside0.mk (HN.out.below HBj.out)
            have HXr := Aside0.mk (HX.out.below HBj.out)
            have HBw := Aside0.mk (below_more fb.out HBj.out)
            have n0 := HNr.out.c 0 _ rfl
            have n1 := HNr.out.c 1 _ rfl
            by_cases hlt : i < n.joints.length
            · cases hd : (jointCode n i == c) with
              | true =>
                have HT2 := Aside0.mk (netFault34 HT.out HI2.out hc3 hc4 HC.out (find_first hlt hd HJI.out))
                go_wp2_with (go_at_call 120; refine (l1joint_any n ((A0, c0), (A1, c1)) i _ (HRN.out.below HBw.out) hlt HS.out).mono ?_; rintro e w3 ⟨rfl, hb3⟩; have HB3 := Aside0.mk (below_more HBw.out hb3); have HX3 := Aside0.mk (HXr.out.below hb3); clear hb3; have x0 := HX3.out.c 0 _ rfl; have x1 := HX3.out.c 1 _ rfl; have xf0 := HX3.out.f 0; have xf1 := HX3.out.f 1; have as1 := HX3.out.lt)
                refine bodyPost_ret (v := .agg #[.int .i64 c, .int .i64 i]) (by simp [results, Try.results42, go_sem, x0, x1, as1]) rfl ⟨by rw [HT2.out], ?_⟩
                repeat (first | (with_reducible exact HB3.out) | (with_reducible refine below_set ?_ (by omega)) | (with_reducible refine below_alloc ?_ _))
              | false =>
                have HD := Aside0.mk hd
                go_wp2_with (go_at_call 120; refine (l1joint_any n ((A0, c0), (A1, c1)) i _ (HRN.out.below HBw.out) hlt HS.out).mono ?_; rintro e w3 ⟨rfl, hb3⟩; have HB3 := Aside0.mk (below_more HBj.out hb3); clear hb3)
                go_roundw
                case rel => exact ⟨i + 1, by go_num, by omega, ⟨upto_step HJI.out HD.out⟩, HB3⟩
                case measure => simp [intOf]; omega
            · have HJN := Aside0.mk (find_none (p := fun i => jointCode n i == c) (n := n.joints.length) (fun k hk => HJI.out k (by omega)))
              go_wp2
              go_roundw
              case rel => exact ⟨c + 1, by go_num, by omega, by omega, ⟨fun c' h1 h2 => by
                by_cases e : c' = c
                · rw [e]; exact HJN.out
                · exact HC.out c' h1 (by omega)⟩, HBj⟩
              case measure => simp [intOf]; omega
        · have hc : c = 5 := by omega
          subst hc
          have HJ3 := Aside0.mk (HC.out 3 (by omega) (by omega))
          have HJ4 := Aside0.mk (HC.out 4 (by omega) (by omega))
          go_wp2
          clear n0 n1
          go_loopw [98] (fun v98 wp => ∃ i : Nat, v98 = .int .i64 i ∧ i ≤ n.pieces.length ∧ Aside0 (∀ k, k < i → badUse n k = false) ∧ Aside0 (Below W0.heap.size W0 wp)) (fun v98 _ => n.pieces.length - (intOf v98).toNat)
          case atStart => exact ⟨0, rfl, Nat.zero_le _, ⟨fun k hk => by omega⟩, HBc⟩
          case round =>
            obtain ⟨i, rfl, hi, HUI, HBp⟩ := hrel
            clear HNr HXr
            have HXr := Aside0.mk (HX.out.below HBp.out)
            have HBw := Aside0.mk (below_more fb.out HBp.out)
            by_cases hlt : i < n.pieces.length
            · go_wp2
              go_loopw [9] (fun v9 ws => ∃ q : Nat, v9 = .int .i64 q ∧ q ≤ 2 ∧ Aside0 (∀ k : Nat, k < q → uses n ⟨i, k⟩ = 1) ∧ Aside0 (Below W0.heap.size W0 ws)) (fun v9 _ => 2 - (intOf v9).toNat)
              case atStart => exact ⟨0, rfl, by omega, ⟨fun k hk => by omega⟩, HBp⟩
              case round =>
                obtain ⟨q, rfl, hq, HQ, HBs⟩ := hrel
                clear HXr HBw
                have HNr := Aside0.mk (HN.out.below HBs.out)
                have HXr := Aside0.mk (HX.out.below HBs.out)
                have HBw := Aside0.mk (below_more fb.out HBs.out)
                have n0 := HNr.out.c 0 _ rfl
                have n1 := HNr.out.c 1 _ rfl
                by_cases hqt : q < 2
                · cases hd : ((uses n ⟨i, q⟩ : Int) != 1) with
                  | true =>
                    have HT2 := Aside0.mk (netFault5 HT.out HI2.out HJ3.out HJ4.out (find_first (p := badUse n) hlt (by
                      unfold badUse
                      have h7 : uses n ⟨i, q⟩ ≠ 1 := fun h => by rw [h] at hd; simp at hd
                      have : q = 0 ∨ q = 1 := by omega
                      rcases this with rfl | rfl
                      · have : uses n ⟨i, 0⟩ ≠ 1 := h7
                        simp [this]
                      · have : uses n ⟨i, 1⟩ ≠ 1 := h7
                        simp [this]) HUI.out))
                    go_wp2_with (go_at_call 121; refine (l1uses_any n ((A0, c0), (A1, c1)) ⟨i, q⟩ _ (HRN.out.below HBw.out) hb).mono ?_; rintro e w3 ⟨rfl, hb3⟩; have HB3 := Aside0.mk (below_more HBw.out hb3); have HX3 := Aside0.mk (HXr.out.below hb3); clear hb3; have x0 := HX3.out.c 0 _ rfl; have x1 := HX3.out.c 1 _ rfl; have xf0 := HX3.out.f 0; have xf1 := HX3.out.f 1; have as1 := HX3.out.lt)
                    refine bodyPost_ret (v := .agg #[.int .i64 5, .int .i64 i]) (by simp [results, Try.results42, go_sem, x0, x1, as1]) rfl ⟨by rw [HT2.out], ?_⟩
                    repeat (first | (with_reducible exact HB3.out) | (with_reducible refine below_set ?_ (by omega)) | (with_reducible refine below_alloc ?_ _))
                  | false =>
                    have HD := Aside0.mk (show uses n ⟨i, q⟩ = 1 by simp at hd; omega)
                    go_wp2_with (go_at_call 121; refine (l1uses_any n ((A0, c0), (A1, c1)) ⟨i, q⟩ _ (HRN.out.below HBw.out) hb).mono ?_; rintro e w3 ⟨rfl, hb3⟩; have HB3 := Aside0.mk (below_more HBs.out hb3); clear hb3)
                    go_roundw
                    case rel => exact ⟨q + 1, by go_num, by omega, ⟨upto_step HQ.out HD.out⟩, HB3⟩
                    case measure => simp [intOf]; omega
                · have HU := Aside0.mk (show badUse n i = false by
                    unfold badUse
                    have h0 := HQ.out 0 (by omega)
                    have h1 := HQ.out 1 (by omega)
                    have h0' : uses n ⟨i, 0⟩ = 1 := h0
                    have h1' : uses n ⟨i, 1⟩ = 1 := h1
                    simp [h0', h1'])
                  go_wp2
                  go_roundw
                  case rel => exact ⟨i + 1, by go_num, by omega, ⟨upto_step HUI.out HU.out⟩, HBs⟩
                  case measure => simp [intOf]; omega
            · have HT2 := Aside0.mk (netFault0 HT.out HI2.out HJ3.out HJ4.out (find_none (p := badUse n) (n := n.pieces.length) (fun k hk => HUI.out k (by omega))))
              have x0 := HXr.out.c 0 _ rfl
              have x1 := HXr.out.c 1 _ rfl
              have xf0 := HXr.out.f 0
              have xf1 := HXr.out.f 1
              have as1 := HXr.out.lt
              go_wp2
              refine bodyPost_ret (v := .agg #[.int .i64 0, .int .i64 0]) (by simp [results, Try.results42, go_sem, x0, x1, as1]) rfl ⟨by rw [HT2.out], ?_⟩
              repeat (first | (with_reducible exact HBw.out) | (with_reducible refine below_set ?_ (by omega)) | (with_reducible refine below_alloc ?_ _))
end Go.Proofs.Ytckcffjnffcjcaa
namespace Go.Proofs.Ytckcffjnffcjcaa
open Go.RowKit Go.Proofs.YtckcffjnffcjcaaW.PrintWords
structure KeyEnc (P : Program) (κ : Type) where
  t : TypeId
  kind : TypeDesc
  enc : κ → Value
  hk : P.underlying t = some kind
  inj : ∀ a b, enc a = enc b → a = b
  same : ∀ a, Instr.sameBits 10000 (enc a) (enc a) = true
  chk : ∀ e a (w : World), (Instr.checkKey e 10000 t (enc a)).run P w = .ok () w
  find : ∀ (a : κ) (l : List (κ × Value)) (es : List MapEntry) (w : World), es.map (fun e => (e.key, e.val)) = l.map (fun p => (enc p.1, p.2)) →
    ∀ i, ∃ r, (Instr.findAsking t (enc a) es i).run P w = .ok r w ∧ (Instr.findNow kind (enc a) es i = none ∨ Instr.findNow kind (enc a) es i = some r) ∧
      ((r = none ∧ ∀ p ∈ l, p.1 ≠ a) ∨ ∃ j v, r = some (i + j, v) ∧ l[j]? = some (a, v) ∧ ∀ j' < j, ∀ p, l[j']? = some p → p.1 ≠ a)
section
variable {P : Program} {κ : Type}
theorem KeyEnc.run_find (K : KeyEnc P κ) (a : κ) {l : List (κ × Value)} {es : List MapEntry} (w : World) (h : es.map (fun e => (e.key, e.val)) = l.map (fun p => (K.enc p.1, p.2))) :
    ((Instr.findKey K.t (K.enc a) es).run P w = .ok none w ∧ ∀ p ∈ l, p.1 ≠ a) ∨ ∃ j v, (Instr.findKey K.t (K.enc a) es).run P w = .ok (some (j, v)) w ∧ l[j]? = some (a, v) := by
  obtain ⟨r, h1, h2, h3⟩ := K.find a l es w h 0
  have hr : (Instr.findKey K.t (K.enc a) es).run P w = .ok r w := by
    unfold Instr.findKey
    simp only [Sem.run_bind, run_underlying K.hk, Result.andThen_ok]
    rcases h2 with h2 | h2 <;> rw [h2]
    · exact h1
    · rfl
  rcases h3 with ⟨rfl, h3⟩ | ⟨j, v, rfl, h3, _⟩
  · exact .inl ⟨hr, h3⟩
  · exact .inr ⟨j, v, by simpa using hr, h3⟩
theorem find_of_eq {t : TypeId} {kind : TypeDesc} {enc : κ → Value} (dec : κ → κ → Bool) (hd : ∀ a b, dec a b = true ↔ a = b)
    (now : (∀ a b, Instr.sameNow kind (enc a) (enc b) = some (dec a b)) ∨ (∀ a b, Instr.sameNow kind (enc a) (enc b) = none))
    (eq : ∀ a b (w : World), (Op.equal t (enc a) (enc b)).run P w = .ok (dec a b) w) (a : κ) : ∀ (l : List (κ × Value)) (es : List MapEntry) (w : World), es.map (fun e => (e.key, e.val)) = l.map (fun p => (enc p.1, p.2)) →
    ∀ i, ∃ r, (Instr.findAsking t (enc a) es i).run P w = .ok r w ∧ (Instr.findNow kind (enc a) es i = none ∨ Instr.findNow kind (enc a) es i = some r) ∧
      ((r = none ∧ ∀ p ∈ l, p.1 ≠ a) ∨ ∃ j v, r = some (i + j, v) ∧ l[j]? = some (a, v) ∧ ∀ j' < j, ∀ p, l[j']? = some p → p.1 ≠ a)
  | [], [], w, _, i => ⟨none, by simp [Instr.findAsking], .inr rfl, .inl ⟨rfl, by simp⟩⟩
  | p :: l, e :: es, w, h, i => by
    simp only [List.map_cons, List.cons.injEq, Prod.mk.injEq] at h
    obtain ⟨⟨hk, hv⟩, ht⟩ := h
    cases hab : dec a p.1 with
    | true =>
      have hap := (hd _ _).1 hab
      refine ⟨some (i, e.val), ?_, ?_, .inr ⟨0, e.val, rfl, by rw [hv, hap]; rfl, by omega⟩⟩
      · simp only [Instr.findAsking, Sem.run_bind, hk, eq, hab, Result.andThen_ok, if_true]; rfl
      · rcases now with now | now
        · right; simp only [Instr.findNow, hk, now, hab]
        · left; simp only [Instr.findNow, hk, now]
    | false =>
      have hap : p.1 ≠ a := fun h => by rw [(hd a p.1).2 h.symm] at hab; cases hab
      obtain ⟨r, h1, h2, h3⟩ := find_of_eq dec hd now eq a l es w ht (i + 1)
      refine ⟨r, ?_, ?_, ?_⟩
      · simp only [Instr.findAsking, Sem.run_bind, hk, eq, hab, Result.andThen_ok]; simpa using h1
      · rcases now with now | now
        · simp only [Instr.findNow, hk, now, hab]; exact h2
        · left; simp only [Instr.findNow, hk, now]
      · rcases h3 with ⟨rfl, h3⟩ | ⟨j, v, rfl, h3, h4⟩
        · refine .inl ⟨rfl, fun q hq => ?_⟩
          rcases List.mem_cons.1 hq with rfl | hq
          · exact hap
          · exact h3 q hq
        · refine .inr ⟨j + 1, v, by rw [Nat.add_assoc, Nat.add_comm 1 j], by simpa using h3, fun j' hj p' hp' => ?_⟩
          cases j' with
          | zero => simp at hp'; subst hp'; exact hap
          | succ j' => exact h4 j' (by omega) p' (by simpa using hp')
end
def lk {κ ν : Type} [DecidableEq κ] : List (κ × ν) → κ → Option ν
  | [], _ => none
  | p :: l, k => if p.1 = k then some p.2 else lk l k
def up {κ ν : Type} [DecidableEq κ] : List (κ × ν) → κ → ν → List (κ × ν)
  | [], k, v => [(k, v)]
  | p :: l, k, v => if p.1 = k then (k, v) :: l else p :: up l k v
section
variable {κ ν : Type} [DecidableEq κ]
theorem lk_up (l : List (κ × ν)) (k : κ) (v : ν) (k' : κ) : lk (up l k v) k' = if k = k' then some v else lk l k' := by
  induction l with
  | nil => simp [up, lk]
  | cons p l ih =>
    simp only [up]
    split
    · rename_i h
      simp only [lk]
      split
      · rfl
      · rename_i h2; rw [if_neg (by rw [h]; exact h2)]
    · rename_i h
      simp only [lk, ih]
      split
      · rename_i h2
        rw [if_neg]
        rintro rfl
        exact h h2
      · rfl
theorem up_keys (l : List (κ × ν)) (k : κ) (v : ν) : ∀ a, a ∈ (up l k v).map (·.1) ↔ a = k ∨ a ∈ l.map (·.1) := by
  induction l with
  | nil => intro a; simp [up]
  | cons p l ih =>
    intro a
    simp only [up]
    split
    · rename_i h; simp only [List.map_cons, List.mem_cons, h]; constructor <;> (intro hh; rcases hh with hh | hh <;> simp_all)
    · rw [List.map_cons, List.mem_cons, ih, List.map_cons, List.mem_cons]; constructor <;> (intro hh; rcases hh with hh | hh | hh <;> simp_all)
theorem up_nodup {l : List (κ × ν)} (h : (l.map (·.1)).Nodup) (k : κ) (v : ν) : ((up l k v).map (·.1)).Nodup := by
  induction l with
  | nil => simp [up]
  | cons p l ih =>
    simp only [List.map_cons, List.nodup_cons] at h
    simp only [up]
    split
    · rename_i hp; simp only [List.map_cons, List.nodup_cons]; rw [← hp]; exact h
    · rename_i hp
      simp only [List.map_cons, List.nodup_cons]
      refine ⟨fun hm => ?_, ih h.2⟩
      rcases (up_keys l k v p.1).1 hm with rfl | hm
      · exact hp rfl
      · exact h.1 hm
theorem lk_none {l : List (κ × ν)} {k : κ} (h : ∀ p ∈ l, p.1 ≠ k) : lk l k = none := by
  induction l with
  | nil => rfl
  | cons p l ih =>
    simp only [lk]
    rw [if_neg (h p (by simp))]
    exact ih (fun q hq => h q (by simp [hq]))
theorem up_none {l : List (κ × ν)} {k : κ} (h : ∀ p ∈ l, p.1 ≠ k) (v : ν) : up l k v = l ++ [(k, v)] := by
  induction l with
  | nil => rfl
  | cons p l ih =>
    simp only [up]
    rw [if_neg (h p (by simp)), ih (fun q hq => h q (by simp [hq]))]
    rfl
theorem lk_at {l : List (κ × ν)} (hn : (l.map (·.1)).Nodup) {j : Nat} {k : κ} {v : ν} (h : l[j]? = some (k, v)) : lk l k = some v := by
  induction l generalizing j with
  | nil => simp at h
  | cons p l ih =>
    simp only [List.map_cons, List.nodup_cons] at hn
    simp only [lk]
    cases j with
    | zero => simp at h; subst h; simp
    | succ j =>
      have h2 : l[j]? = some (k, v) := by simpa using h
      rw [if_neg, ih hn.2 h2]
      intro hp
      exact hn.1 (by rw [hp]; exact List.mem_map.2 ⟨_, List.mem_of_getElem? h2, rfl⟩)
theorem up_at {l : List (κ × ν)} (hn : (l.map (·.1)).Nodup) {j : Nat} {k : κ} {v v' : ν} (h : l[j]? = some (k, v)) : up l k v' = l.set j (k, v') := by
  induction l generalizing j with
  | nil => simp at h
  | cons p l ih =>
    simp only [List.map_cons, List.nodup_cons] at hn
    simp only [up]
    cases j with
    | zero => simp at h; subst h; simp
    | succ j =>
      have h2 : l[j]? = some (k, v) := by simpa using h
      rw [if_neg, ih hn.2 h2]
      · rfl
      intro hp
      exact hn.1 (by rw [hp]; exact List.mem_map.2 ⟨_, List.mem_of_getElem? h2, rfl⟩)
theorem lk_mem {l : List (κ × ν)} {k : κ} {v : ν} (h : lk l k = some v) : (k, v) ∈ l := by
  induction l with
  | nil => cases h
  | cons p l ih =>
    simp only [lk] at h
    split at h
    · rename_i hp; injection h with h; subst h; subst hp; simp
    · exact List.mem_cons_of_mem _ (ih h)
theorem mem_lk {l : List (κ × ν)} (hn : (l.map (·.1)).Nodup) {k : κ} {v : ν} (h : (k, v) ∈ l) : lk l k = some v := by
  obtain ⟨j, hj⟩ := List.getElem?_of_mem h
  exact lk_at hn hj
theorem lk_isSome {l : List (κ × ν)} {k : κ} : (lk l k).isSome = true ↔ k ∈ l.map (·.1) := by
  induction l with
  | nil => simp [lk]
  | cons p l ih =>
    simp only [lk, List.map_cons, List.mem_cons]
    split
    · rename_i h; simp [h]
    · rename_i h; rw [ih]; constructor
      · exact .inr
      · rintro (h2 | h2)
        · exact absurd h2.symm h
        · exact h2
end
structure MapOf {P : Program} {κ ν : Type} (K : KeyEnc P κ) (V : ν → Value) (w : World) (b : Nat) (l : List (κ × ν)) : Prop where
  out : ∃ es clock, w.heap[b]? = some (.map es clock) ∧ es.toList.map (fun e => (e.key, e.val)) = l.map (fun p => (K.enc p.1, V p.2)) ∧ (∀ e ∈ es.toList, e.born < clock) ∧ (es.toList.map (·.born)).Nodup
  nodup : (l.map (·.1)).Nodup
section
variable {P : Program} {κ ν : Type} {K : KeyEnc P κ} {V : ν → Value} {w w1 : World} {b : Nat} {l : List (κ × ν)}
theorem MapOf.move (h : MapOf K V w b l) (hm : w1.heap[b]? = w.heap[b]?) : MapOf K V w1 b l := by
  obtain ⟨⟨es, clock, h1, h2⟩, h3⟩ := h
  exact ⟨⟨es, clock, hm.trans h1, h2⟩, h3⟩
theorem MapOf.lt (h : MapOf K V w b l) : b < w.heap.size := by
  obtain ⟨⟨es, clock, h1, h2⟩, h3⟩ := h
  exact (Array.getElem?_eq_some_iff.1 h1).1
theorem MapOf.below (h : MapOf K V w b l) (hb : Below w.heap.size w w1) : MapOf K V w1 b l := h.move (hb.block b h.lt)
theorem MapOf.alloc (h : MapOf K V w b l) (o : Obj) : MapOf K V (w.alloc o) b l := h.below (below_alloc (Below.refl _ _) o)
theorem MapOf.setCell (h : MapOf K V w b l) (p : Addr) (u : Value) : MapOf K V (w.setCell p u) b l := by
  obtain ⟨⟨es, clock, h1, h2⟩, h3⟩ := h
  refine ⟨⟨es, clock, ?_, h2⟩, h3⟩
  simp only [World.setCell, Array.getElem?_modify]
  split
  · rename_i hp; subst hp; rw [h1]; rfl
  · exact h1
theorem MapOf.made (K : KeyEnc P κ) (V : ν → Value) (w : World) : MapOf K V (w.alloc (.map #[] 0)) w.heap.size [] :=
  ⟨⟨#[], 0, (MapKept.heap_alloc w _).1, rfl, by simp, by simp⟩, by simp⟩
def putMap (w : World) (b : Nat) (o : Obj) : World := { w with heap := w.heap.setIfInBounds b o }
theorem putMap_other (w : World) (b : Nat) (o : Obj) {k : Nat} (h : k ≠ b) : (putMap w b o).heap[k]? = w.heap[k]? := by
  unfold putMap
  simp [Array.getElem?_setIfInBounds, Ne.symm h]
theorem putMap_below {B : Nat} {w0 : World} (h : Below B w0 w) {o : Obj} (hb : B ≤ b) : Below B w0 (putMap w b o) :=
  ⟨h.os, h.tape, h.output, by unfold putMap; simpa using h.size, fun k hk => (putMap_other w b o (by omega)).trans (h.block k hk)⟩
theorem zip_run {es : Array MapEntry} (h : es.toList.map (fun e => (e.key, e.val)) = l.map (fun p => (K.enc p.1, V p.2))) : es.toList.map (fun e => (e.key, e.val)) = (l.map (fun p => (p.1, V p.2))).map (fun p => (K.enc p.1, p.2)) := by
  rw [h, List.map_map]; rfl
theorem MapOf.run_find (h : MapOf K V w b l) (k : κ) : ∃ es clock, w.heap[b]? = some (.map es clock) ∧ es.toList.map (fun e => (e.key, e.val)) = l.map (fun p => (K.enc p.1, V p.2)) ∧ (∀ e ∈ es.toList, e.born < clock) ∧ (es.toList.map (·.born)).Nodup ∧
    (((Instr.findKey K.t (K.enc k) es.toList).run P w = .ok none w ∧ ∀ p ∈ l, p.1 ≠ k) ∨ ∃ j v, (Instr.findKey K.t (K.enc k) es.toList).run P w = .ok (some (j, V v)) w ∧ l[j]? = some (k, v)) := by
  obtain ⟨⟨es, clock, h1, h2, h3, h4⟩, _⟩ := h
  refine ⟨es, clock, h1, h2, h3, h4, ?_⟩
  rcases K.run_find k w (zip_run h2) with ⟨h5, h6⟩ | ⟨j, v, h5, h6⟩
  · exact .inl ⟨h5, fun p hp => h6 _ (List.mem_map.2 ⟨p, hp, rfl⟩)⟩
  · right
    rw [List.getElem?_map] at h6
    obtain ⟨p, hp, he⟩ := Option.map_eq_some_iff.1 h6
    simp only [Prod.mk.injEq] at he
    obtain ⟨rfl, rfl⟩ := he
    exact ⟨j, p.2, h5, hp⟩
theorem MapOf.lookup [DecidableEq κ] {t e : TypeId} (h : MapOf K V w b l) (ht : P.underlying t = some (.map K.t e)) {z : Value} (hz : (zeroValue e).run P w = .ok z w) (k : κ) (c : Bool) :
    (Instr.lookup t (.map (some b)) (K.enc k) c).run P w = .ok (if c then .tuple #[((lk l k).map V).getD z, .bool (lk l k).isSome] else ((lk l k).map V).getD z) w := by
  obtain ⟨es, clock, h1, h2, _, _, h5⟩ := h.run_find k
  unfold Instr.lookup
  simp only [Sem.run_bind, run_underlying ht, Result.andThen_ok, MapKept.run_getObj_map h1, Sem.run_pure, K.chk]
  rcases h5 with ⟨h5, h6⟩ | ⟨j, v, h5, h6⟩
  · rw [lk_none h6]
    simp only [h5, Result.andThen_ok, Sem.run_bind, hz, Sem.run_pure]
    cases c <;> rfl
  · rw [lk_at h.nodup h6]
    simp only [h5, Result.andThen_ok, Sem.run_pure]
    cases c <;> rfl
theorem MapOf.putNew [DecidableEq κ] (h : MapOf K V w b l) {es : Array MapEntry} {clock : Nat} (h1 : w.heap[b]? = some (.map es clock)) (h2 : es.toList.map (fun e => (e.key, e.val)) = l.map (fun p => (K.enc p.1, V p.2))) (h3 : ∀ e ∈ es.toList, e.born < clock) (h4 : (es.toList.map (·.born)).Nodup)
    {k : κ} (hk : ∀ p ∈ l, p.1 ≠ k) (v : ν) : MapOf K V (putMap w b (.map (es.push { key := K.enc k, val := V v, born := clock }) (clock + 1))) b (up l k v) := by
  refine ⟨⟨es.push { key := K.enc k, val := V v, born := clock }, clock + 1, ?_, ?_, ?_, ?_⟩, up_nodup h.nodup k v⟩
  · unfold putMap; have := h.lt; simp [Array.getElem?_setIfInBounds, this]
  · rw [up_none hk]; simp [h2]
  · intro e he
    simp only [Array.toList_push, List.mem_append, List.mem_singleton] at he
    rcases he with he | rfl
    · have := h3 e he; omega
    · exact Nat.lt_succ_self _
  · simp only [Array.toList_push, List.map_append, List.map_cons, List.map_nil]
    rw [List.nodup_append]
    refine ⟨h4, by simp, fun x hx y hy => ?_⟩
    simp only [List.mem_singleton] at hy
    obtain ⟨e, he, rfl⟩ := List.mem_map.1 hx
    have := h3 e he
    omega
theorem map_set_of {α β : Type} {f : α → β} {l : List α} {j : Nat} {x : α} : (l.set j x).map f = (l.map f).set j (f x) := List.map_set ..
theorem MapOf.putOld [DecidableEq κ] (h : MapOf K V w b l) {es : Array MapEntry} {clock : Nat} (h1 : w.heap[b]? = some (.map es clock)) (h2 : es.toList.map (fun e => (e.key, e.val)) = l.map (fun p => (K.enc p.1, V p.2))) (h3 : ∀ e ∈ es.toList, e.born < clock) (h4 : (es.toList.map (·.born)).Nodup)
    {k : κ} {j : Nat} {v0 : ν} (hj : l[j]? = some (k, v0)) (v : ν) (f : MapEntry → MapEntry) (hf : ∀ e, es[j]? = some e → (f e).key = K.enc k ∧ (f e).val = V v ∧ (f e).born = e.born) :
    MapOf K V (putMap w b (.map (es.modify j f) clock)) b (up l k v) := by
  have hl : es.size = l.length := by have := congrArg List.length h2; simpa using this
  have hjl : j < l.length := (List.getElem?_eq_some_iff.1 hj).1
  have hje : j < es.size := by omega
  have hg := hf es[j] (Array.getElem?_eq_getElem hje)
  have hm : (es.modify j f).toList = es.toList.set j (f es[j]) := by
    apply List.ext_getElem?
    intro i
    rw [Array.getElem?_toList, Array.getElem?_modify, List.getElem?_set]
    by_cases hij : j = i
    · subst hij; simp [hje]
    · simp [hij]
  refine ⟨⟨es.modify j f, clock, ?_, ?_, ?_, ?_⟩, up_nodup h.nodup k v⟩
  · unfold putMap; have := h.lt; simp [Array.getElem?_setIfInBounds, this]
  · rw [hm, up_at h.nodup hj, map_set_of, map_set_of, h2, hg.1, hg.2.1]
  · intro e he
    rw [hm] at he
    rcases List.mem_or_eq_of_mem_set he with he | rfl
    · exact h3 e he
    · rw [hg.2.2]; exact h3 _ (by simp)
  · rw [hm, map_set_of, hg.2.2]
    rw [show (es.toList.map (·.born)).set j es[j].born = es.toList.map (·.born) from ?_]
    · exact h4
    · apply List.ext_getElem?
      intro i
      rw [List.getElem?_set]
      by_cases hij : j = i
      · subst hij; simp [hje]
      · simp [hij]
theorem key_at {es : Array MapEntry} {k : κ} {j : Nat} {v0 : ν} (h2 : es.toList.map (fun e => (e.key, e.val)) = l.map (fun p => (K.enc p.1, V p.2))) (hj : l[j]? = some (k, v0)) : ∃ e, es[j]? = some e ∧ e.key = K.enc k ∧ e.val = V v0 := by
  have := congrArg (fun z => z[j]?) h2
  simp only [List.getElem?_map, hj, Option.map_some] at this
  obtain ⟨e, he, h3⟩ := Option.map_eq_some_iff.1 this
  simp only [Prod.mk.injEq] at h3
  exact ⟨e, by simpa using he, h3.1, h3.2⟩
theorem MapOf.update [DecidableEq κ] {t e : TypeId} (h : MapOf K V w b l) (ht : P.underlying t = some (.map K.t e)) (k : κ) (v : ν) :
    ∃ o, (Instr.mapUpdate t (.map (some b)) (K.enc k) (V v)).run P w = .ok () (putMap w b o) ∧ MapOf K V (putMap w b o) b (up l k v) := by
  obtain ⟨es, clock, h1, h2, h3, h4, h5⟩ := h.run_find k
  unfold Instr.mapUpdate
  simp only [Sem.run_bind, run_underlying ht, Result.andThen_ok, MapKept.run_getObj_map h1, Sem.run_pure, K.chk]
  rcases h5 with ⟨h5, h6⟩ | ⟨j, v0, h5, h6⟩
  · refine ⟨_, ?_, h.putNew h1 h2 h3 h4 h6 v⟩
    simp only [h5, Result.andThen_ok, MapKept.run_setObj_map _ h1]; rfl
  · obtain ⟨e0, he0, hk0, hv0⟩ := key_at h2 h6
    refine ⟨_, ?_, h.putOld h1 h2 h3 h4 h6 v (fun e => { e with key := K.enc k, val := V v }) (fun e he => ⟨rfl, rfl, rfl⟩)⟩
    have hkt : ((es[j]?).map (·.key)).getD (K.enc k) = K.enc k := by rw [he0]; exact hk0
    simp only [h5, Result.andThen_ok, Sem.run_bind, hkt, Instr.keyThatStays, K.same, if_true, Sem.run_pure, MapKept.run_setObj_map _ h1]; rfl
theorem findIdx_born {es : Array MapEntry} (h4 : (es.toList.map (·.born)).Nodup) {j : Nat} {e : MapEntry} (he : es[j]? = some e) : es.findIdx? (fun x => (x.born : Int) == (e.born : Int)) = some j := by
  rw [Array.findIdx?_eq_some_iff_getElem]
  obtain ⟨hj, hej⟩ := Array.getElem?_eq_some_iff.1 he
  refine ⟨hj, by rw [hej]; simp, fun k hk => ?_⟩
  simp only [beq_iff_eq, Int.natCast_inj]
  intro hh
  have hk' : k < es.size := by omega
  have h1 : (es.toList.map (·.born))[k]? = some es[k].born := by simp [hk']
  have h2 : (es.toList.map (·.born))[j]? = some es[k].born := by rw [hh]; simp [hj, hej]
  have := (List.getElem?_inj (by simpa using hk') h4).1 (h1.trans h2.symm)
  omega
theorem MapOf.entry [DecidableEq κ] {t e : TypeId} (h : MapOf K V w b l) (ht : P.underlying t = some (.map K.t e)) {z : ν} (hz : (zeroValue e).run P w = .ok (V z) w) (k : κ) :
    ∃ o stamp, (Instr.mapEntry t (.map (some b)) (K.enc k)).run P w = .ok (.tuple #[V ((lk l k).getD z), .int .i64 stamp]) (putMap w b o) ∧ MapOf K V (putMap w b o) b (up l k ((lk l k).getD z)) ∧
      ∀ v (w2 : World), w2.heap[b]? = (putMap w b o).heap[b]? → ∃ o2, (Instr.entryStore t (.map (some b)) (.int .i64 stamp) (V v)).run P w2 = .ok () (putMap w2 b o2) ∧ MapOf K V (putMap w2 b o2) b (up l k v) := by
  obtain ⟨es, clock, h1, h2, h3, h4, h5⟩ := h.run_find k
  have hlt := h.lt
  unfold Instr.mapEntry
  simp only [Sem.run_bind, run_underlying ht, Result.andThen_ok, MapKept.run_getObj_map h1, Sem.run_pure, K.chk]
  rcases h5 with ⟨h5, h6⟩ | ⟨j, v0, h5, h6⟩
  · rw [lk_none h6]
    have hM := h.putNew h1 h2 h3 h4 h6 z
    refine ⟨.map (es.push { key := K.enc k, val := V z, born := clock }) (clock + 1), clock, ?_, hM, fun v w2 hw2 => ?_⟩
    · simp only [h5, Result.andThen_ok, Sem.run_bind, hz, MapKept.run_setObj_map _ h1]; rfl
    · have hb2 : w2.heap[b]? = some (.map (es.push { key := K.enc k, val := V z, born := clock }) (clock + 1)) := by
        rw [hw2]; unfold putMap; simp [Array.getElem?_setIfInBounds, hlt]
      have hM2 := hM.move hw2
      obtain ⟨es2, clock2, e1, e2, e3, e4⟩ := hM2.out
      rw [hb2] at e1
      injection e1 with e1
      injection e1 with e1 e1'
      subst e1 e1'
      have hj : (up l k z)[l.length]? = some (k, z) := by rw [up_none h6]; simp
      have hl : es.size = l.length := by have := congrArg List.length h2; simpa using this
      have hup : up (up l k z) k v = up l k v := by
        rw [up_at hM.nodup hj, up_none h6, up_none h6]; simp
      refine ⟨_, ?_, hup ▸ hM2.putOld hb2 e2 e3 e4 hj v (fun e => { e with val := V v }) (fun e he => ?_)⟩
      · unfold Instr.entryStore
        have hf := findIdx_born e4 (j := es.size) (e := { key := K.enc k, val := V z, born := clock }) (by simp)
        simp only [Sem.run_bind, MapKept.run_getObj_map hb2, Result.andThen_ok, asInt, asIntOf, Sem.run_pure]
        rw [hf, hl]
        simp only [MapKept.run_setObj_map _ hb2]; rfl
      · rw [← hl] at he
        simp at he
        subst he
        exact ⟨rfl, rfl, rfl⟩
  · obtain ⟨e0, he0, hk0, hv0⟩ := key_at h2 h6
    have hlk := lk_at h.nodup h6
    rw [hlk]
    have hkt : ((es[j]?).map (·.key)).getD (K.enc k) = K.enc k := by rw [he0]; exact hk0
    have hbt : ((es[j]?).map (fun x => (x.born : Int))).getD 0 = (e0.born : Int) := by rw [he0]; rfl
    have hM := h.putOld h1 h2 h3 h4 h6 v0 (fun e => { e with key := K.enc k }) (fun e he => by
      rw [he0] at he
      injection he with he
      subst he
      exact ⟨rfl, hv0, rfl⟩)
    refine ⟨.map (es.modify j fun e => { e with key := K.enc k }) clock, e0.born, ?_, hM, fun v w2 hw2 => ?_⟩
    · simp only [h5, Result.andThen_ok, Sem.run_bind, hkt, hbt, Instr.keyThatStays, K.same, if_true, Sem.run_pure, MapKept.run_setObj_map _ h1]; rfl
    · have hb2 : w2.heap[b]? = some (.map (es.modify j fun e => { e with key := K.enc k }) clock) := by
        rw [hw2]; unfold putMap; simp [Array.getElem?_setIfInBounds, hlt]
      have hM2 := hM.move hw2
      obtain ⟨es2, clock2, e1, e2, e3, e4⟩ := hM2.out
      rw [hb2] at e1
      injection e1 with e1
      injection e1 with e1 e1'
      subst e1 e1'
      have hj : (up l k v0)[j]? = some (k, v0) := by
        rw [up_at h.nodup h6, List.getElem?_set_self (List.getElem?_eq_some_iff.1 h6).1]
      have hup : up (up l k v0) k v = up l k v := by
        rw [up_at hM.nodup hj, up_at h.nodup h6, up_at h.nodup h6]; simp
      refine ⟨_, ?_, hup ▸ hM2.putOld hb2 e2 e3 e4 hj v (fun e => { e with val := V v }) (fun e he => ?_)⟩
      · unfold Instr.entryStore
        have hf := findIdx_born e4 (j := j) (e := { e0 with key := K.enc k }) (by rw [Array.getElem?_modify]; simp [he0])
        simp only [Sem.run_bind, MapKept.run_getObj_map hb2, Result.andThen_ok, asInt, asIntOf, Sem.run_pure]
        rw [hf]
        simp only [MapKept.run_setObj_map _ hb2]; rfl
      · rw [Array.getElem?_modify] at he
        simp [he0] at he
        subst he
        exact ⟨rfl, rfl, rfl⟩
variable {ops : Array Oper} {rest : List Oper} {o : Oper} {a : Act} {Q : Exit → Act → World → Prop}
end
end Go.Proofs.Ytckcffjnffcjcaa
namespace Go.Proofs.YtckcffjnffcjcaaW.PrintWords
open Go.RowKit
section
variable {P : Program} {d : Nat} {xs ys : Array Value} {f : Field} {fs : List Field} {a b : Value} {r s : Bool} {w : World}
theorem eqf_last (hn : (f.name == "_") = false) (ha : (part f.type xs f.offset).run P w = .ok a w) (hb : (part f.type ys f.offset).run P w = .ok b w) (he : (Op.equalIn d f.type a b).run P w = .ok r w) : (Op.eqFields d xs ys [f]).run P w = .ok r w := by
  have hn' : f.name ≠ "_" := by simpa using hn
  simp only [Op.eqFields, if_pos hn', Sem.run_bind, ha, hb, he, Result.andThen_ok]
  cases r <;> simp
theorem eqf_cons (hn : (f.name == "_") = false) (ha : (part f.type xs f.offset).run P w = .ok a w) (hb : (part f.type ys f.offset).run P w = .ok b w) (he : (Op.equalIn d f.type a b).run P w = .ok r w) (hr : (Op.eqFields d xs ys fs).run P w = .ok s w) : (Op.eqFields d xs ys (f :: fs)).run P w = .ok (r && s) w := by
  have hn' : f.name ≠ "_" := by simpa using hn
  rw [Op.eqFields]
  simp only [if_pos hn', Sem.run_bind, ha, hb, he, Result.andThen_ok]
  cases r
  · simp
  · simpa using hr
theorem eqA_of {t : TypeId} {fs : Array Field} (hu : P.underlying t = some (.struct fs)) (hp : P.stoodInHeld t = false) (h : (Op.eqFields d xs ys fs.toList).run P w = .ok r w) : (Op.equalIn (d + 1) t (.agg xs) (.agg ys)).run P w = .ok r w := by
  have hf : P.fieldsOf t = fs := by simp [Program.fieldsOf, hu]
  rw [run_equalIn_struct (P := P) w d t xs ys (by rw [hf]; exact hu) hp, hf]
  exact h
end
end Go.Proofs.YtckcffjnffcjcaaW.PrintWords
namespace Go.Proofs.Ytckcffjnffcjcaa
open Go.RowKit Go.Proofs.YtckcffjnffcjcaaW.PrintWords
theorem eqf_cons' {P : Program} {d : Nat} {xs ys : Array Value} {f : Field} {fs : List Field} {a b : Value} {r s : Bool} {w : World} (hn : (f.name == "_") = false) (ha : (part f.type xs f.offset).run P w = .ok a w) (hb : (part f.type ys f.offset).run P w = .ok b w) (he : (Op.equalIn d f.type a b).run P w = .ok r w) (hr : (Op.eqFields d xs ys fs).run P w = .ok s w) : (Op.eqFields d xs ys (f :: fs)).run P w = .ok (r && s) w := eqf_cons hn ha hb he hr
def keyInt : KeyEnc Try.prog Int where
  t := 3
  kind := .int .i64
  enc := .int .i64
  hk := Try.underlying3
  inj := fun a b h => by injection h
  same := fun a => by simp [Instr.sameBits]
  chk := fun e a w => by kernel_rfl
  find := find_of_eq (fun a b => a == b) (fun a b => beq_iff_eq) (.inl fun a b => by simp [Instr.sameNow]) (fun a b w => by unfold Op.equal Op.maxDepth; exact run_equalIn_int w 9999 3 .i64 .i64 a b Try.underlying3)
def keyStr : KeyEnc Try.prog ByteArray where
  t := 9
  kind := .string
  enc := .string
  hk := Try.underlying9
  inj := fun a b h => by injection h
  same := fun a => by simp [Instr.sameBits, beq_toListBytes]
  chk := fun e a w => by kernel_rfl
  find := find_of_eq (fun a b => a.toList == b.toList) (fun a b => by rw [beq_iff_eq]; exact toList_inj) (.inl fun a b => by simp [Instr.sameNow, beq_toListBytes]) (fun a b w => by unfold Op.equal Op.maxDepth; exact run_equalIn_string w 9999 9 a b Try.underlying9)
theorem eq_keyEnd (a b : EndT) (w : World) : (Op.equal 67 (.agg #[.int .i64 a.piece, .int .i64 a.side]) (.agg #[.int .i64 b.piece, .int .i64 b.side])).run Try.prog w = .ok (((a.piece == b.piece) && (a.side == b.side))) w := by
  unfold Op.equal Op.maxDepth
  exact eqA_of Try.underlying67 (by kernel_rfl) (eqf_cons' (by kernel_rfl) (by kernel_rfl) (by kernel_rfl) (run_equalIn_int w 9998 3 .i64 .i64 a.piece b.piece Try.underlying3) (eqf_last (by kernel_rfl) (by kernel_rfl) (by kernel_rfl) (run_equalIn_int w 9998 3 .i64 .i64 a.side b.side Try.underlying3)))
def keyEnd : KeyEnc Try.prog EndT where
  t := 67
  kind := _
  enc := fun x => .agg #[.int .i64 x.piece, .int .i64 x.side]
  hk := Try.underlying67
  inj := fun a b h => by
    injection h with h
    have := congrArg Array.toList h
    simp at this
    exact EndT.ext_iff.1 this
  same := fun a => by simp [Instr.sameBits]
  chk := fun e a w => by kernel_rfl
  find := find_of_eq (fun a b => ((a.piece == b.piece) && (a.side == b.side))) (fun a b => by simp only [Bool.and_eq_true, beq_iff_eq]; exact EndT.ext_iff) (.inr fun a b => by simp [Instr.sameNow]) (fun a b w => eq_keyEnd a b w)
theorem eq_keyStep (a b : StepT) (w : World) : (Op.equal 85 (.agg #[.int .i64 a.piece, .int .i64 a.way]) (.agg #[.int .i64 b.piece, .int .i64 b.way])).run Try.prog w = .ok (((a.piece == b.piece) && (a.way == b.way))) w := by
  unfold Op.equal Op.maxDepth
  exact eqA_of Try.underlying85 (by kernel_rfl) (eqf_cons' (by kernel_rfl) (by kernel_rfl) (by kernel_rfl) (run_equalIn_int w 9998 3 .i64 .i64 a.piece b.piece Try.underlying3) (eqf_last (by kernel_rfl) (by kernel_rfl) (by kernel_rfl) (run_equalIn_int w 9998 3 .i64 .i64 a.way b.way Try.underlying3)))
def keyStep : KeyEnc Try.prog StepT where
  t := 85
  kind := _
  enc := fun x => .agg #[.int .i64 x.piece, .int .i64 x.way]
  hk := Try.underlying85
  inj := fun a b h => by
    injection h with h
    have := congrArg Array.toList h
    simp at this
    exact StepT.ext_iff.1 this
  same := fun a => by simp [Instr.sameBits]
  chk := fun e a w => by kernel_rfl
  find := find_of_eq (fun a b => ((a.piece == b.piece) && (a.way == b.way))) (fun a b => by simp only [Bool.and_eq_true, beq_iff_eq]; exact StepT.ext_iff) (.inr fun a b => by simp [Instr.sameNow]) (fun a b w => eq_keyStep a b w)
theorem eq_keySpot (a b : SpotT) (w : World) : (Op.equal 38 (.agg #[.int .i64 a.piece, .int .i64 a.at_, .int .i64 a.way]) (.agg #[.int .i64 b.piece, .int .i64 b.at_, .int .i64 b.way])).run Try.prog w = .ok (((a.piece == b.piece) && ((a.at_ == b.at_) && (a.way == b.way)))) w := by
  unfold Op.equal Op.maxDepth
  exact eqA_of Try.underlying38 (by kernel_rfl) (eqf_cons' (by kernel_rfl) (by kernel_rfl) (by kernel_rfl) (run_equalIn_int w 9998 3 .i64 .i64 a.piece b.piece Try.underlying3) (eqf_cons' (by kernel_rfl) (by kernel_rfl) (by kernel_rfl) (run_equalIn_int w 9998 3 .i64 .i64 a.at_ b.at_ Try.underlying3) (eqf_last (by kernel_rfl) (by kernel_rfl) (by kernel_rfl) (run_equalIn_int w 9998 3 .i64 .i64 a.way b.way Try.underlying3))))
def keySpot : KeyEnc Try.prog SpotT where
  t := 38
  kind := _
  enc := fun x => .agg #[.int .i64 x.piece, .int .i64 x.at_, .int .i64 x.way]
  hk := Try.underlying38
  inj := fun a b h => by
    injection h with h
    have := congrArg Array.toList h
    simp at this
    exact SpotT.ext_iff.1 this
  same := fun a => by simp [Instr.sameBits]
  chk := fun e a w => by kernel_rfl
  find := find_of_eq (fun a b => ((a.piece == b.piece) && ((a.at_ == b.at_) && (a.way == b.way)))) (fun a b => by simp only [Bool.and_eq_true, beq_iff_eq]; exact SpotT.ext_iff) (.inr fun a b => by simp [Instr.sameNow]) (fun a b w => eq_keySpot a b w)
end Go.Proofs.Ytckcffjnffcjcaa
