/- Contracts of the laws' copy and comparison of a row of whole numbers, and of what a drive tells. Conditions: at most 1048576 elements to copy. -/
import Derived.Test.YtckcffjnffcjcaaTos
import Derived.Test.YtckcffjnffcjcaaEqs
import Derived.Test.YtckcffjnffcjcaaMarks
set_option linter.unusedVariables false
set_option linter.unusedSimpArgs false
namespace Go.Proofs.Ytckcffjnffcjcaa
open Go.RowKit Go.Proofs.YtckcffjnffcjcaaW.PrintWords
theorem set_fill0 (l : List Int) (i : Nat) (h : i < l.length) : (l.take i ++ List.replicate (l.length - i) 0).set i (l.getD i 0) = l.take (i + 1) ++ List.replicate (l.length - (i + 1)) 0 := set_fill l i h
set_option maxRecDepth 100000 in
theorem toIntS_any (A : Option Addr) (c : Nat) (l : List Int) (w : World) (hr : Kd.C (Kd.int .i64) w A l.length l) (hn : l.length ≤ 1048576) :
    Calls Try.prog 71 #[.slice A l.length c] w
      fun e w' => ∃ v, e = .returned v ∧ Kd.R (Kd.int .i64) 3 w' w.heap.size (fun _ => True) v l ∧ Below w.heap.size w w' := by
  have HR := Aside0.mk hr
  clear hr
  go_enter Try.func71, Try.ntmps71
  go_wp2_with ((with_reducible refine gate_dst (N := 7) rfl ?_); refine Kd.R_make (Kd.int .i64) _ 3 rfl (N := 7) rfl 40 _ _ rfl (l.length : Int) rfl rfl Try.underlying40 (.int .i64 0) 8 info3 rfl (by decide) (by decide) (0 : Int) (ok := fun _ => True) (okp := fun _ => True) rfl (fun _ hk => hk) trivial (by omega) (by simp only [Int.toNat_natCast]; omega) (Below.refl _ _) (Nat.le_refl _) ?_; intro v1 w1 ho hb hg hnew; clear hg hnew; rw [Int.toNat_natCast] at ho)
  go_loopw [4] (fun v4 wr => ∃ i : Nat, v4 = .int .i64 i ∧ i ≤ l.length ∧ Aside0 (Kd.R (Kd.int .i64) 3 wr w.heap.size (fun _ => True) v1 (l.take i ++ List.replicate (l.length - i) 0)) ∧ Aside0 (Below w.heap.size w wr)) (fun v4 _ => l.length - (intOf v4).toNat)
  case atStart => exact ⟨0, rfl, Nat.zero_le _, ⟨by simpa using ho⟩, ⟨hb⟩⟩
  case round =>
    clear ho hb
    obtain ⟨i, rfl, hi, HO, HB⟩ := hrel
    by_cases hlt : i < l.length
    · obtain ⟨ad0, e0, x0⟩ := at_Int HR.out i hlt
      subst e0
      have HS := Aside0.mk (set_fill0 l i hlt)
      obtain ⟨g, cap, ev, hg1, hg2, _⟩ := Kd.R_form HO.out (by simp; omega)
      have hlen : (l.take i ++ List.replicate (l.length - i) (0 : Int)).length = l.length := by simp; omega
      rw [hlen] at ev
      subst ev
      clear hlen
      obtain ⟨p, hp⟩ : ∃ p, p = l.getD i 0 := ⟨_, rfl⟩
      rw [← hp] at x0 HS
      clear hp
      replace x0 := pw_cell_below HB.out x0
      go_wp2_with ((with_reducible refine gate_store (t := 3) (p := 20) rfl ?_); refine store_field (Kd.int .i64) w.heap.size rfl rfl 3 _ _ rfl 3 i 0 (l.take i ++ List.replicate (l.length - i) 0) p (.int .i64 p) (0 : Int) (fun _ => True) rfl (by simp [Kd.int, Kd.scalar]; try rfl) rfl rfl rfl rfl HO.out hlt (by decide) (by intro c hc; obtain rfl := hc; rfl) HB.out ?_; intro w5 hR5 hB5 hG5; clear hG5)
      go_roundw
      case rel => exact ⟨i + 1, by go_num, by omega, ⟨by rw [← HS.out]; exact hR5⟩, ⟨hB5⟩⟩
      case measure => simp [intOf]; omega
    · have e : l.take i ++ List.replicate (l.length - i) 0 = l := by
        rw [List.take_of_length_le (by omega), show l.length - i = 0 from by omega]; simp
      have HO2 := HO.out
      rw [e] at HO2
      have H2 := Aside0.mk HO2
      clear e HO2
      go_wp2
      go_ret
      exact ⟨v1, rfl, H2.out, HB.out⟩
set_option maxRecDepth 100000 in
theorem eqIntS_any (A0 : Option Addr) (c0 : Nat) (l0 : List Int) (A1 : Option Addr) (c1 : Nat) (l1 : List Int) (w : World)
    (hr0 : Kd.C (Kd.int .i64) w A0 l0.length l0) (hr1 : Kd.C (Kd.int .i64) w A1 l1.length l1) :
    Calls Try.prog 73 #[.slice A0 l0.length c0, .slice A1 l1.length c1] w
      fun e w' => e = .returned (.bool (decide (l0 = l1))) ∧ Below w.heap.size w w' := by
  have hm0 := hr0.2.1
  have hm1 := hr1.2.1
  have HR0 := Aside0.mk hr0
  have HR1 := Aside0.mk hr1
  clear hr0 hr1
  by_cases hl : l0.length = l1.length
  · have hb : ((l0.length : Int) != (l1.length : Int)) = false := by simp [hl]
    have hb2 : (l0.length != l1.length) = false := by simp [hl]
    have HL := Aside0.mk hl
    clear hl
    go_enter Try.func73, Try.ntmps73
    go_wp2
    clear hb hb2
    go_loopw [5] (fun v5 wr => ∃ i : Nat, v5 = .int .i64 i ∧ i ≤ l0.length ∧ Aside0 (l0.take i = l1.take i) ∧ Aside0 (Below w.heap.size w wr)) (fun v5 _ => l0.length - (intOf v5).toNat)
    case atStart => exact ⟨0, rfl, Nat.zero_le _, ⟨by simp⟩, ⟨Below.refl _ _⟩⟩
    case round =>
      obtain ⟨i, rfl, hi, HT, HB⟩ := hrel
      by_cases hlt : i < l0.length
      · have hlt1 : i < l1.length := by rw [← HL.out]; exact hlt
        obtain ⟨ad0, e0, x0⟩ := at_Int HR0.out i hlt
        obtain ⟨ad1, e1, y0⟩ := at_Int HR1.out i hlt1
        subst e0 e1
        replace x0 := pw_cell_below HB.out x0
        replace y0 := pw_cell_below HB.out y0
        obtain ⟨p, hp⟩ : ∃ p, p = l0.getD i 0 := ⟨_, rfl⟩
        obtain ⟨q, hq⟩ : ∃ q, q = l1.getD i 0 := ⟨_, rfl⟩
        rw [← hp] at x0
        rw [← hq] at y0
        have HP := Aside0.mk (show p = l0.getD i default from hp)
        have HQ := Aside0.mk (show q = l1.getD i default from hq)
        clear hp hq
        by_cases heq : p = q
        · have hd : (p != q) = false := by simp [heq]
          have HE := Aside0.mk heq
          clear heq
          go_wp2_with fail
          go_quiet (fail)
          go_wp2_with fail
          go_roundw
          case rel => exact ⟨i + 1, by go_num, by omega, ⟨take_step hlt hlt1 HT.out HP.out HQ.out HE.out⟩, ⟨by repeat (first | (with_reducible exact HB.out) | (with_reducible refine below_drew ?_) | (with_reducible refine pw_below_drewN ?_ _))⟩⟩
          case measure => simp [intOf]; omega
        · have hd : (p != q) = true := by simpa using heq
          have HE := Aside0.mk heq
          clear heq
          go_wp2_with fail
          go_quiet (fail)
          go_wp2_with fail
          go_ret
          exact ⟨by rw [decide_eq_false (ne_of_getD HP.out HQ.out HE.out)]; rfl, by repeat (first | (with_reducible exact HB.out) | (with_reducible refine below_drew ?_) | (with_reducible refine pw_below_drewN ?_ _))⟩
      · go_wp2
        go_ret
        exact ⟨by rw [decide_eq_true (take_all HT.out (by omega) (by have := HL.out; omega))]; rfl, HB.out⟩
  · have hb : ((l0.length : Int) != (l1.length : Int)) = true := bne_iff_ne.2 (by omega)
    have hb2 : (l0.length != l1.length) = true := by simpa using hl
    have HL := Aside0.mk hl
    clear hl
    go_enter Try.func73, Try.ntmps73
    go_wp2
    go_ret
    exact ⟨by rw [decide_eq_false (fun h => HL.out (by rw [h]))]; rfl, Below.refl _ _⟩
set_option maxRecDepth 100000 in
theorem eqDriven_same (c f j p a s : Int) (w : World) :
    Calls Try.prog 72 #[.agg #[.int .i64 c, .int .i64 f, .int .i64 j, .int .i64 p, .int .i64 a, .int .i64 s], .agg #[.int .i64 c, .int .i64 f, .int .i64 j, .int .i64 p, .int .i64 a, .int .i64 s]] w
      fun e w' => e = .returned (.bool true) ∧ Below w.heap.size w w' := by
  go_enter Try.func72, Try.ntmps72
  go_wp2_with (go_at_call 55; refine (eqSpot_any ⟨p, a, s⟩ ⟨p, a, s⟩ _).mono ?_; rintro e w3 ⟨rfl, hb3⟩; rw [show decide ((⟨p, a, s⟩ : SpotT) = ⟨p, a, s⟩) = true by simp]; have B3 := Aside0.mk (below_more (below_two w _ _) hb3))
  go_ret
  exact ⟨rfl, B3.out⟩
end Go.Proofs.Ytckcffjnffcjcaa
